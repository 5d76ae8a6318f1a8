/- LexTexts' once: a range over a text's tokens. -/
import Derived.Test.YtmkfoknhjjgipaaGreatDoorAC
import Derived.Test.YtmkfoknhjjgipaaGreatDoorAE
set_option linter.unusedSimpArgs false
set_option linter.unusedVariables false
namespace Go.Proofs.YtmkfoknhjjgipaaGreatDoor
open Go.RowKit Go.Lib Go.Shelf
attribute [local go_sem] Oper.semAt_some

def Box1 (W : World) (b : Nat) (t : TypeId) (v : Value) : Prop := W.heap[b]? = some (.cells #[v] t (0, 0))
theorem Box1.c {W : World} {b : Nat} {t : TypeId} {v : Value} (h : Box1 W b t v) : W.cell? ⟨b, 0, none⟩ = some v := by rw [blk_cell h]; rfl
theorem Box1.f {W : World} {b : Nat} {t : TypeId} {v : Value} (h : Box1 W b t v) : W.frozen? ⟨b, 0, none⟩ = false := by simp [World.frozen?, show W.heap[b]? = _ from h]
theorem Box1.set {W : World} {b : Nat} {t : TypeId} {v u : Value} (h : Box1 W b t v) : Box1 (W.setCell ⟨b, 0, none⟩ u) b t u := set1_0 h
theorem Box1.alloc {W : World} {b : Nat} {t : TypeId} {v : Value} (h : Box1 W b t v) (o : Obj) : Box1 (W.alloc o) b t v := (heap_alloc_old _ _ (blk_lt h)).trans h
theorem Box1.new (W : World) {b : Nat} (t : TypeId) (v : Value) (h : W.heap.size = b) : Box1 (W.alloc (.cells #[v] t)) b t v := heap_alloc_new' h _
theorem Box1.other {W : World} {b b' : Nat} {t : TypeId} {v : Value} (h : Box1 W b t v) (hne : b ≠ b') (u : Value) : Box1 (W.setCell ⟨b', 0, none⟩ u) b t v := (Go.Deep.blk_setCell_other _ _ _ _ (by simp <;> omega)).trans h
theorem Box1.go {W W' : World} {b B : Nat} {t : TypeId} {v : Value} (h : Box1 W b t v) (hb : Below B W W') (hB : b < B) : Box1 W' b t v := (hb.block _ hB).trans h
/-- whole numbers that lie -/
def AtAt (w : World) (A : Option Addr) (L : List Nat) : Prop := 0 < L.length → ∃ blk off, A = some ⟨blk, off, none⟩ ∧ ∀ (i x : Nat), L[i]? = some x → w.cell? ⟨blk, off + i, none⟩ = some (.int .i64 (x : Int))
theorem AtAt.below {w w' : World} {A : Option Addr} {L : List Nat} (h : AtAt w A L) (hb : Below w.heap.size w w') : AtAt w' A L := by
  intro hn
  obtain ⟨blk, off, e, hc⟩ := h hn
  exact ⟨blk, off, e, fun i x hx => (hb.cell (p := ⟨blk, off + i, none⟩) (cell_some_lt (hc i x hx))).trans (hc i x hx)⟩
theorem AtAt.at_ {w : World} {A : Option Addr} {L : List Nat} (h : AtAt w A L) {k x : Nat} (hk : L[k]? = some x) : ∃ blk off, A = some ⟨blk, off, none⟩ ∧ w.cell? ⟨blk, off + k, none⟩ = some (.int .i64 (x : Int)) := by
  have hl := (List.getElem?_eq_some_iff.1 hk).1
  obtain ⟨blk, off, e, hc⟩ := h (by omega)
  exact ⟨blk, off, e, hc k x hk⟩
theorem atAt_form {base : Nat} {w : World} {v : Value} {l : List Tp} (h : w.ownsRow base 3 1 v l.length (atCells l)) : ∃ A c, v = .slice A l.length c ∧ AtAt w A (l.map Tp.a) := by
  rcases h.2 with ⟨rfl, hn⟩ | ⟨g, cap, cur, hv, hbg, hg, hn, _, hs, ht⟩
  · exact ⟨none, 0, by rw [hn], fun hlt => by rw [List.length_map] at hlt; omega⟩
  · refine ⟨some ⟨g, 0, none⟩, cap, hv, fun _ => ⟨g, 0, rfl, fun i x hx => ?_⟩⟩
    rw [List.getElem?_map] at hx
    obtain ⟨y, hy, rfl⟩ := Option.map_eq_some_iff.1 hx
    have hi := (List.getElem?_eq_some_iff.1 hy).1
    have h2 : (cur.toList.take (l.length * 1))[i]? = (atCells l)[i]? := by rw [ht]
    rw [List.getElem?_take, if_pos (by omega), atCells, List.getElem?_map, hy] at h2
    rw [blk_cell hg, Nat.zero_add]
    simpa using h2
/-- between two rounds -/
structure OnI (w : World) (A A2 : Option Addr) (n c c2 : Nat) (m : Int) (pre : List Tp) (W : World) : Prop where
  b5 : Box1 W w.heap.size 31 (.slice A n c)
  b6 : Box1 W (w.heap.size + 1) 36 (.slice A2 n c2)
  b7 : Box1 W (w.heap.size + 1 + 1) 3 (.int .i64 m)
  b8 : Box1 W (w.heap.size + 1 + 1 + 1) 4 (.bool false)
  b9 : Box1 W (w.heap.size + 1 + 1 + 1 + 1) 3 (.int .i64 (pre.length : Int))
  bel : Below w.heap.size w W
structure OnX (w : World) (pre : List Tp) (W : World) : Prop where
  b8 : Box1 W (w.heap.size + 1 + 1 + 1) 4 (.bool true)
  bel : Below w.heap.size w W
theorem OnI.go {w : World} {A A2 : Option Addr} {n c c2 : Nat} {m : Int} {pre : List Tp} {B : Nat} {W W' : World} (hB : w.heap.size + 6 ≤ B) (h : OnI w A A2 n c c2 m pre W) (hb : Below B W W') : OnI w A A2 n c c2 m pre W' :=
  ⟨h.b5.go hb (by omega), h.b6.go hb (by omega), h.b7.go hb (by omega), h.b8.go hb (by omega), h.b9.go hb (by omega), h.bel.trans (hb.mono (by omega))⟩
theorem OnX.go {w : World} {pre : List Tp} {B : Nat} {W W' : World} (hB : w.heap.size + 6 ≤ B) (h : OnX w pre W) (hb : Below B W W') : OnX w pre W' :=
  ⟨h.b8.go hb (by omega), h.bel.trans (hb.mono (by omega))⟩
theorem run_it_nil (p : Addr) (w : World) : (binOp BinOp.eql 51 (.func (.func 49) #[] #[.pointer (some p)]) .nilFunc).run Tryz.prog w = .ok (.bool false) w := by kernel_rfl
theorem keepF_set {B b : Nat} {W : World} {v : Value} (hb : b < B) : KeepF B W (W.setCell ⟨b, 0, none⟩ v) :=
  ⟨by rw [Go.Deep.nblk_setCell]; exact Nat.le_refl _, fun k hk _ => Go.Deep.blk_setCell_other _ _ _ _ (by simp <;> omega)⟩
theorem OnI.drew {w : World} {A A2 : Option Addr} {n c c2 : Nat} {m : Int} {pre : List Tp} {W : World} {k b o : Nat} {v : Value} (h : OnI w A A2 n c c2 m pre (W.setCell ⟨b, o, none⟩ v)) : OnI w A A2 n c c2 m pre ((W.drewN k).setCell ⟨b, o, none⟩ v) :=
  ⟨h.b5, h.b6, h.b7, h.b8, h.b9, ⟨h.bel.os, h.bel.tape, h.bel.output, h.bel.size, h.bel.block⟩⟩
theorem keepF_drew {B n : Nat} {W W' : World} (h : KeepF B (W.drewN n) W') : KeepF B W W' := ⟨h.size, h.block⟩
set_option maxRecDepth 100000 in
set_option maxHeartbeats 8000000 in
theorem once_in (s : ByteArray) (A A2 : Option Addr) (n c c2 : Nat) (m : Int) (w : World) (hE : Env w) (hs : s.size ≤ 65536) (hn : (scanA s).1.length = n) (hA : TaAt w A ((scanA s).1.map Tp.ta)) (hB : AtAt w A2 ((scanA s).1.map Tp.a)) :
    CallsIn Fence.wide 6 Tryz.prog 19 #[.string s, .slice A n c, .slice A2 n c2, .int .i64 m] w (OkPost w) := by
  have hn' := Lib.hid hn
  have hA' := Lib.hid hA
  have hB' := Lib.hid hB
  have hE' := Lib.hid hE
  have hsn : n ≤ 65536 := by have := scanA_len s; omega
  refine callsIn_of_wp_marks Tryz.func19 rfl trivial ?_ rfl
  simp only [Tryz.ntmps19, List.size_toArray, List.length_cons, List.length_nil, Nat.reduceAdd, Nat.reduceSub, Array.replicate_succ, Array.replicate_zero, List.push_toArray, List.append_toArray, List.nil_append, List.cons_append]
  obtain ⟨W5, hW5⟩ : ∃ W5, ((((w.alloc (.cells #[.slice A n c] 31)).alloc (.cells #[.slice A2 n c2] 36)).alloc (.cells #[.int .i64 m] 3)).alloc (.cells #[.bool false] 4)).alloc (.cells #[.int .i64 0] 3) = W5 := ⟨_, rfl⟩
  have s5 : W5.heap.size = w.heap.size + 5 := by rw [← hW5]; simp
  have hI5 : OnI w A A2 n c c2 m [] W5 := by
    rw [← hW5]
    refine ⟨?_, ?_, ?_, ?_, ?_, ?_⟩
    · exact (((Box1.new w 31 _ rfl).alloc _).alloc _).alloc _ |>.alloc _
    · exact ((Box1.new _ 36 _ (by simp)).alloc _).alloc _ |>.alloc _
    · exact (Box1.new _ 3 _ (by simp)).alloc _ |>.alloc _
    · exact (Box1.new _ 4 _ (by simp)).alloc _
    · exact Box1.new _ 3 _ (by simp)
    · exact (((((Below.refl w.heap.size w).alloc (Nat.le_refl _) _).alloc (by simp <;> omega) _).alloc (by simp <;> omega) _).alloc (by simp <;> omega) _).alloc (by simp <;> omega) _
  have hbx5 : Below W5.heap.size W5 (W5.alloc (.cells #[.string s] 9)) := (Below.refl _ _).alloc (Nat.le_refl _) _
  have hI6 : OnI w A A2 n c c2 m [] (W5.alloc (.cells #[.string s] 9)) :=
    ⟨hI5.b5.alloc _, hI5.b6.alloc _, hI5.b7.alloc _, hI5.b8.alloc _, hI5.b9.alloc _, Below.next hI5.bel hbx5⟩
  have hb10 : (W5.alloc (.cells #[.string s] 9)).heap[w.heap.size + 1 + 1 + 1 + 1 + 1]? = some (.cells #[.string s] 9 (0, 0)) := heap_alloc_new' (by omega) _
  have hz6 : (W5.alloc (.cells #[.string s] 9)).heap.size = w.heap.size + 6 := by simp [s5]
  have htk := tokens_any s W5
  rw [s5] at htk
  obtain ⟨W6, hW6⟩ : ∃ W6, W5.alloc (.cells #[.string s] 9) = W6 := ⟨_, rfl⟩
  rw [hW6] at htk hI6 hb10 hz6
  have htk := Lib.hid htk
  have hI6 := Lib.hid hI6
  have hb10 := Lib.hid hb10
  have hW5' := Lib.hid hW5
  have hrn := run_it_nil
  clear hn hA hB hE hW5 hI5 hbx5 hW6
  gi_wp2_with fail
  rw [hW5'.out]
  refine ⟨trivial, ?_⟩
  refine (callsIn_wide.2 htk.out).mono ?_
  rintro e W0 ⟨rfl, rfl⟩
  gi_wp2_with fail
  have hz6h := hz6
  refine wpIn_range_toks (n := 6) (s := s) (by omega) rfl (enters_of Tryz.func49 (by kernel_rfl) rfl) (toks49_said 5 (by omega) (w.heap.size + 5) s (by omega) W0 hb10.out) (OnI w A A2 n c c2 m) (OnX w)
    (fun xs W W' h hb => OnI.go (by omega) h hb) (fun xs W W' h hb => OnX.go (by omega) h hb) (fun xs W h => hE'.out.below h.bel) hI6.out
    (fun t a' W => ∃ tb, a' = { tmps := #[.string s, .slice A n c, .slice A2 n c2, .int .i64 m, undef, .pointer (some ⟨w.heap.size, 0, none⟩), .pointer (some ⟨w.heap.size + 1, 0, none⟩), .pointer (some ⟨w.heap.size + 1 + 1, 0, none⟩), .pointer (some ⟨w.heap.size + 1 + 1 + 1, 0, none⟩), .pointer (some ⟨w.heap.size + 1 + 1 + 1 + 1, 0, none⟩), .func (.func 49) #[] #[.pointer (some ⟨w.heap.size + 5, 0, none⟩)], .int .i64 t.a, .pointer (some ⟨tb, 0, none⟩), .string s, .func (.func 49) #[] #[.pointer (some ⟨w.heap.size + 5, 0, none⟩)], .func (.func 49) #[] #[.pointer (some ⟨w.heap.size + 5, 0, none⟩)], .bool false, .func (.func 49) #[] #[.pointer (some ⟨w.heap.size + 5, 0, none⟩)], .int .i64 t.a, tpV t, undef, undef, undef, undef, undef, undef, undef, undef, undef, undef, undef, undef, undef, undef, undef, undef, undef, undef, undef, undef, undef, undef, undef, undef, undef, undef, undef, undef, undef], defers := [] } ∧ W.heap[tb]? = some (.cells #[.int .i64 t.x.k, .string (mkB t.x.t), .int .u64 t.x.u, .int .i64 t.l, .int .i64 t.c] 48 (0, 0))) ?hAx ?assign ?body ?done ?stop
  case hAx =>
    rintro t a' W l o o' ⟨tb, rfl, htb⟩ hl ho
    refine ⟨tb, rfl, (World.putObj_heap_other ?_).trans htb⟩
    rintro rfl
    rw [htb] at hl
    cases hl
    cases ho
  case assign =>
    intro l t W K hW0 hK
    have hK' := Lib.hid hK
    clear hK
    unfold tpV tkV
    gi_wp2
    exact hK'.out _ _ ((Below.refl _ W).alloc (Nat.le_refl _) _) ⟨W.heap.size, rfl, heap_alloc_new _ _⟩
  case body =>
    rintro l pre t rest a' W hl hsz hI ⟨tb, rfl, htb⟩ hpre
    have hpl : pre.length < n := by rw [← hn'.out, ← hpre, List.length_append, List.length_cons]; omega
    have hget : (scanA s).1[pre.length]? = some t := by rw [← hpre]; simp
    obtain ⟨blk, off, x, hAe, hx, v1, v2, v3, v4, v5⟩ := (hA'.out.below hI.bel).at_ (k := pre.length) (by rw [List.length_map, hn'.out]; exact hpl)
    have hx2 : ((scanA s).1.map Tp.ta)[pre.length]? = some t.ta := by rw [List.getElem?_map, hget]; rfl
    obtain rfl : x = t.ta := by rw [hx2] at hx; exact (Option.some.inj hx).symm
    obtain ⟨blk2, off2, hAe2, u1⟩ := (hB'.out.below hI.bel).at_ (k := pre.length) (x := t.a) (by rw [List.getElem?_map, hget]; rfl)
    subst hAe
    subst hAe2
    obtain ⟨t0, t1, t2, t3, t4, tf⟩ := box5 htb
    have y5 := hI.b5.c
    have y6 := hI.b6.c
    have y7 := hI.b7.c
    have y8 := hI.b8.c
    have y9 := hI.b9.c
    have f8 := hI.b8.f
    have f9 := hI.b9.f
    have hlt9 := blk_lt hI.b9
    have hlt8 := blk_lt hI.b8
    have hI' := Lib.hid hI
    obtain ⟨ta, tx, tl, tc⟩ := t
    obtain ⟨tk, tt, tu⟩ := tx
    dsimp only [Tp.ta] at v1 v2 v3 v4 v5 u1 t0 t1 t2 t3 t4
    obtain ⟨q, hq⟩ : ∃ q, mkB tt = q := ⟨_, rfl⟩
    rw [hq] at v2 t1
    have hq' := Lib.hid hq
    unfold tpV tkV
    dsimp only
    rw [hq]
    obtain ⟨pl, hple⟩ : ∃ pl, pre.length = pl := ⟨_, rfl⟩
    rw [hple] at v1 v2 v3 v4 v5 u1 y9 hpl
    have hple' := Lib.hid hple
    have e0 : decide ((n : Int) ≤ (pl : Int)) = false := by simp; omega
    have e0n : decide (n ≤ pl) = false := by simp; omega
    have e0m : ¬ n ≤ pl := by omega
    have e1 : ((ta : Int) != (ta : Int)) = false := by simp
    have hnq := tok_neq_self tk tl tc tu q
    have hw1 : IntKind.i64.wrap ((pl : Int) + 1) = (pl : Int) + 1 := by rw [IntKind.wrap_i64]; omega
    have hnext : OnI w (some ⟨blk, off, none⟩) (some ⟨blk2, off2, none⟩) n c c2 m (pre ++ [⟨ta, ⟨tk, tt, tu⟩, tl, tc⟩]) (W.setCell ⟨w.heap.size + 1 + 1 + 1 + 1, 0, none⟩ (.int .i64 ((pl : Int) + 1))) := by
      refine ⟨hI.b5.other (by omega) _, hI.b6.other (by omega) _, hI.b7.other (by omega) _, hI.b8.other (by omega) _, ?_, hI.bel.setCell (p := ⟨w.heap.size + 1 + 1 + 1 + 1, 0, none⟩) (by simp; omega) _⟩
      have := hI.b9.set (u := .int .i64 ((pl : Int) + 1))
      rw [List.length_append, hple]
      exact this
    have hnext := Lib.hid hnext
    clear hI hx hx2 hget htb hpre hq hple
    by_cases hm : (pl : Int) + 1 = m
    · have em : ((pl : Int) + 1 == m) = true := by simpa using hm
      subst hm
      gi_wp2
      refine wpIn_region_quiet_lit_r (by kernel_rfl) (by kernel_rfl) (by kernel_rfl) ?_
      repeat (gi_big_quiet_step (fail))
      refine wpQuietIn_nil ?_
      rintro _ ⟨nq, rfl⟩
      gi_wp2
      have hn2 := (hnext.out).drew (k := nq)
      exact ⟨keepF_drew ((keepF_set (by omega)).trans (keepF_set (by omega))), hn2.b8.set, hn2.bel.setCell (p := ⟨w.heap.size + 1 + 1 + 1, 0, none⟩) (by simp; omega) _⟩
    · have em : ((pl : Int) + 1 == m) = false := by simpa using hm
      gi_wp2
      refine wpIn_region_quiet_lit_r (by kernel_rfl) (by kernel_rfl) (by kernel_rfl) ?_
      repeat (gi_big_quiet_step (fail))
      refine wpQuietIn_nil ?_
      rintro _ ⟨nq, rfl⟩
      gi_wp2
      exact ⟨keepF_drew (keepF_set (by omega)), (hnext.out).drew⟩
  case done =>
    rintro D W hD hI hK
    have hK' := Lib.hid hK
    have hI' := Lib.hid hI
    have y5 := hI.b5.c
    have y9 := hI.b9.c
    have y8 := hI.b8.c
    have f8 := hI.b8.f
    have hlt8 := blk_lt hI.b8
    have htl : toksOf s = (scanA s).1 := by unfold toksOf; rw [if_neg (by omega)]
    rw [htl, hn'.out] at y9
    clear hI hK
    gi_wp2
    have hKd : (W.setCell ⟨w.heap.size + 1 + 1 + 1, 0, none⟩ (.bool true)).heap[D]? = some (.deferred (some [])) := by
      rw [Go.Deep.blk_setCell_other _ _ _ _ (by simp; omega)]; exact hK'.out
    refine ⟨by simp, .inl ⟨_, _, rfl, run_takeDeferred hKd, ?_⟩⟩
    have g8 : Box1 ((W.setCell ⟨w.heap.size + 1 + 1 + 1, 0, none⟩ (.bool true)).putObj D (.deferred none)) (w.heap.size + 1 + 1 + 1) 4 (.bool true) := (World.putObj_heap_other (by omega)).trans hI'.out.b8.set
    have c8 := g8.c
    refine ⟨.bool true, by simp [results, Tryz.f19, go_sem, c8], rfl, ?_⟩
    exact (hI'.out.bel.setCell (p := ⟨w.heap.size + 1 + 1 + 1, 0, none⟩) (by simp; omega) _).trans (below_putObj (by omega) _)
  case stop =>
    rintro D pre rest W hD _ _ hX hK
    have hX' := Lib.hid hX
    have hK' := Lib.hid hK
    clear hX hK
    gi_wp2
    refine ⟨by simp, .inl ⟨_, _, rfl, run_takeDeferred hK'.out, ?_⟩⟩
    have c8 : Box1 (W.putObj D (.deferred none)) (w.heap.size + 1 + 1 + 1) 4 (.bool true) := (World.putObj_heap_other (by omega)).trans hX'.out.b8
    have c8 := c8.c
    refine ⟨.bool true, by simp [results, Tryz.f19, go_sem, c8], rfl, ?_⟩
    exact hX'.out.bel.trans (below_putObj (by omega) _)
theorem once_any (s : ByteArray) (A A2 : Option Addr) (n c c2 : Nat) (m : Int) (w : World) (hE : Env w) (hs : s.size ≤ 65536) (hn : (scanA s).1.length = n) (hA : TaAt w A ((scanA s).1.map Tp.ta)) (hB : AtAt w A2 ((scanA s).1.map Tp.a)) :
    Calls Tryz.prog 19 #[.string s, .slice A n c, .slice A2 n c2, .int .i64 m] w (OkPost w) := callsIn_wide.1 (once_in s A A2 n c c2 m w hE hs hn hA hB)
end Go.Proofs.YtmkfoknhjjgipaaGreatDoor
