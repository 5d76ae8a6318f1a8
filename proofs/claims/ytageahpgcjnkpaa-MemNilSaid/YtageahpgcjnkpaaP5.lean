/- Memories that are not there. -/
import Derived.Test.YtageahpgcjnkpaaP4
set_option linter.unusedSimpArgs false
set_option linter.unusedVariables false
namespace Go.Proofs.Ytageahpgcjnkpaa
open Go.RowKit Go.Shelf

attribute [local go_sem] Oper.semAt_some

set_option maxRecDepth 100000 in
set_option maxHeartbeats 2000000 in
theorem address_gen {m : Nat} {L : List Reg} (v : Value) (nm : ByteArray) (i : Int) (w : World) (hlay : ∀ W1, Below w.heap.size w W1 → Calls Try.prog 25 #[v] W1 (ClonePost L m W1)) (hmn : m ≤ 16) (hLm : L.length = m) (hm : ∀ r ∈ L, mayB r = true) :
    CallsIn Fence.wide 5 Try.prog 16 #[v, .string nm, .int .i64 i] w (AddrPost (addrI L nm i) w) := by
  have H := Lib.hid hlay
  have hm' := Lib.hid hm
  clear hlay hm
  refine callsIn_of_wp_marks Try.func16 rfl trivial ?_ rfl
  simp only [Try.ntmps16, List.size_toArray, List.length_cons, List.length_nil, Nat.reduceAdd, Nat.reduceSub, Array.replicate_succ, Array.replicate_zero, List.push_toArray, List.append_toArray, List.nil_append, List.cons_append]
  have hw1 : Below w.heap.size w ((((w.alloc (.cells #[.string nm] 9)).alloc (.cells #[.int .i64 i] 3)).alloc (.cells #[.int .u64 0] 30)).alloc (.cells #[.bool false] 4)) := ((((Below.refl _ w).alloc (Nat.le_refl _) _).alloc (by simp) _).alloc (by simp; omega) _).alloc (by simp; omega) _
  have k0 := (((Boxed.new w 9 (.string nm)).alloc (.cells #[.int .i64 i] 3)).alloc (.cells #[.int .u64 0] 30)).alloc (.cells #[.bool false] 4)
  have k1 := ((Boxed.new (w.alloc (.cells #[.string nm] 9)) 3 (.int .i64 i)).alloc (.cells #[.int .u64 0] 30)).alloc (.cells #[.bool false] 4)
  have k2 := (Boxed.new ((w.alloc (.cells #[.string nm] 9)).alloc (.cells #[.int .i64 i] 3)) 30 (.int .u64 0)).alloc (.cells #[.bool false] 4)
  have k3 := Boxed.new (((w.alloc (.cells #[.string nm] 9)).alloc (.cells #[.int .i64 i] 3)).alloc (.cells #[.int .u64 0] 30)) 4 (.bool false)
  simp only [World.size_alloc] at k1 k2 k3
  gi_wp2_with fail
  obtain ⟨W1, hW1⟩ : ∃ W1, ((((w.alloc (.cells #[.string nm] 9)).alloc (.cells #[.int .i64 i] 3)).alloc (.cells #[.int .u64 0] 30)).alloc (.cells #[.bool false] 4)) = W1 := ⟨_, rfl⟩
  rw [hW1] at hw1 k0 k1 k2 k3 ⊢
  clear hW1
  refine ⟨trivial, ?_⟩
  refine (callsIn_wide.2 (H.out W1 hw1)).mono ?_
  rintro e w2 ⟨A2, cap2, rfl, x1, x2, x3, x4⟩
  have hw2' := Lib.hid (hw1.trans (x4.mono hw1.size))
  have k0' := Lib.hid (show Boxed w2 w.heap.size 9 (.string nm) from (x4.block _ k0.lt).trans k0)
  have k1' := Lib.hid (show Boxed w2 (w.heap.size + 1) 3 (.int .i64 i) from (x4.block _ k1.lt).trans k1)
  have k2' := Lib.hid (show Boxed w2 (w.heap.size + 1 + 1) 30 (.int .u64 0) from (x4.block _ k2.lt).trans k2)
  have k3' := Lib.hid (show Boxed w2 (w.heap.size + 1 + 1 + 1) 4 (.bool false) from (x4.block _ k3.lt).trans k3)
  have x3' := Lib.hid x3
  clear x3 x4 k0 k1 k2 k3 hw1
  gi_wp2_with fail
  refine ⟨trivial, ?_⟩
  refine (all_in Fence.wide _ trivial rfl _ _ _ _).mono ?_
  rintro e w3 ⟨rfl, rfl⟩
  gi_wp2_with fail
  have hB2 := hw2'.out
  have hsz : w.heap.size + 1 + 1 + 1 < w2.heap.size := k3'.out.lt
  obtain ⟨W0, hW0⟩ : ∃ W0, w2.alloc (.cells #[.slice A2 m cap2] 22) = W0 := ⟨_, rfl⟩
  have hB0 : Below w.heap.size w W0 := by rw [← hW0]; exact hB2.alloc hB2.size _
  have g0 : Boxed W0 w.heap.size 9 (.string nm) := by rw [← hW0]; exact k0'.out.alloc _
  have g1 : Boxed W0 (w.heap.size + 1) 3 (.int .i64 i) := by rw [← hW0]; exact k1'.out.alloc _
  have g2 : Boxed W0 (w.heap.size + 1 + 1) 30 (.int .u64 0) := by rw [← hW0]; exact k2'.out.alloc _
  have g3 : Boxed W0 (w.heap.size + 1 + 1 + 1) 4 (.bool false) := by rw [← hW0]; exact k3'.out.alloc _
  have hR0 : RegsAt W0 W0.heap.size A2 m L := by rw [← hW0]; exact regs_alloc x3'.out _
  have hcell : W0.cell? ⟨w2.heap.size, 0, none⟩ = some (.slice A2 m cap2) := by rw [← hW0]; exact new_cell w2 _ _
  have hsW : w2.heap.size < W0.heap.size := by rw [← hW0]; simp
  have hbd := reg_bd hm'.out
  rw [hW0]
  clear hW0 k0' k1' k2' k3' x3' hw2' hB2
  refine wpIn_rangeFunc_ownH (F := Fence.wide) (n := 5) rfl (by omega) (gf := 62) (lb := #[.pointer (some ⟨w2.heap.size, 0, none⟩)]) rfl trivial (enters_of Try.func62 (by kernel_rfl) rfl)
    (all_stops Fence.wide (5 - 1) trivial rfl (by omega) w2.heap.size W0.heap.size A2 m cap2 L hmn W0 hsW (Nat.le_refl _) hcell hR0) belowK_t (belowK_b (Nat.le_refl _)) (Below.refl _ _) (fun _ => rfl)
    (fun pre W => (((∀ k ∈ pre, hitB nm i (L.getD k default) = false) ∧ Boxed W w.heap.size 9 (.string nm)) ∧ (Boxed W (w.heap.size + 1) 3 (.int .i64 i) ∧ (Boxed W (w.heap.size + 1 + 1) 30 (.int .u64 0) ∧ Boxed W (w.heap.size + 1 + 1 + 1) 4 (.bool false)))) ∧ (Below w.heap.size w W ∧ W0.heap.size ≤ W.heap.size))
    (fun c pre W => ((c = .ret ∧ ∃ ini k, pre = ini ++ [k] ∧ (∀ k ∈ ini, hitB nm i (L.getD k default) = false) ∧ hitB nm i (L.getD k default) = true ∧ Boxed W (w.heap.size + 1 + 1) 30 (.int .u64 ((L.getD k default).addr + 8 * i)) ∧ Boxed W (w.heap.size + 1 + 1 + 1) 4 (.bool true))) ∧ Below w.heap.size w W)
    (OwnFrom.and (OwnFrom.and (OwnFrom.and (ownFrom_pure _ _) (Own.from (boxed_own _ _ _) _)) (OwnFrom.and (Own.from (boxed_own _ _ _) _) (OwnFrom.and (Own.from (boxed_own _ _ _) _) (Own.from (boxed_own _ _ _) _)))) (OwnFrom.and (ownFrom_below (Nat.le_refl _) hB0.size) (fun s X Y row hs hg hr => Nat.le_trans hs hg.size)))
    (fun c => OwnFrom.and (fun s X Y row hs hg hr => by
      obtain ⟨hc, ini, k, e1, e2, e3, e4, e5⟩ := hs
      exact ⟨hc, ini, k, e1, e2, e3, boxed_own _ 30 (fun (_ : Unit) => Value.int .u64 ((L.getD k default).addr + 8 * i)) () X Y row e4 hg (fun r e => (hr r e).2), boxed_own _ 4 (fun (_ : Unit) => Value.bool true) () X Y row e5 hg (fun r e => (hr r e).2)⟩) (ownFrom_below (Nat.le_refl _) hB0.size))
    ⟨⟨⟨by simp, g0⟩, g1, g2, g3⟩, hB0, Nat.le_refl _⟩
    (fun x a' W => ∃ Bx, w.heap.size + 1 + 1 + 1 < Bx ∧ W.heap[Bx]? = some (boxReg (L.getD x default)) ∧ a' = { tmps := #[v, .string nm, .int .i64 i, undef, .pointer (some ⟨w.heap.size, 0, none⟩), .pointer (some ⟨w.heap.size + 1, 0, none⟩), .pointer (some ⟨w.heap.size + 1 + 1, 0, none⟩), .pointer (some ⟨w.heap.size + 1 + 1 + 1, 0, none⟩), undef, .pointer (some ⟨Bx, 0, none⟩),
      v, .slice A2 m cap2, .func (.func 62) #[] #[.pointer (some ⟨w2.heap.size, 0, none⟩)], .int .i64 (x : Int), (L.getD x default).val, undef, undef, undef, undef, undef, undef, undef, undef, undef, undef, undef, undef, undef, undef, undef, undef, undef, undef, undef, undef], defers := [] })
    (fun x a' _ X Y row hs hg hr => by
      obtain ⟨Bx, h1, h2, h3⟩ := hs
      refine ⟨Bx, h1, ?_, h3⟩
      exact (hg.block Bx (blk_lt h2) (fun e => by
        obtain ⟨_, o, ho, hc⟩ := hr Bx e.symm
        rw [h2] at ho
        cases ho
        cases hc)).trans h2)
    ?assign ?body ?done ?stop
  case assign =>
    rintro l pre x W K ⟨⟨⟨u0, u1⟩, u2, u3, u4⟩, u5, u6⟩ hK
    have u0' := Lib.hid u0
    clear u0
    dsimp only [Reg.val]
    gi_wp2
    exact hK _ _ ((KeepsOthers.alloc _ _).from _) ((Below.refl _ W).alloc u6 _) ⟨⟨⟨u0'.out, u1.alloc _⟩, u2.alloc _, u3.alloc _, u4.alloc _⟩, u5.alloc u5.size _, by simp; omega⟩ ⟨W.heap.size, u4.lt, heap_alloc_new W _, rfl⟩
  case body =>
    rintro l pre x a' W hl ⟨lr, hlr⟩ ⟨⟨⟨u0, u1⟩, u2, u3, u4⟩, u5, u6⟩ ⟨Bx, hBx, bX, rfl⟩ hlt
    obtain ⟨bd1, bd2, bd3, bd4⟩ := hbd x
    have u0' := Lib.hid u0
    clear u0
    have hini : ∀ (b : Bool), hitB nm i (L.getD x default) = b → b = false → ∀ k ∈ pre ++ [x], hitB nm i (L.getD k default) = false := by
      intro b h1 h2 k hk
      rcases List.mem_append.1 hk with hk | hk
      · exact u0'.out k hk
      · simp at hk; subst hk; rw [h1, h2]
    have hini' := Lib.hid hini
    have hix := Lib.hid (show ∀ r, L.getD x default = r → ∀ W', Boxed W' (w.heap.size + 1 + 1) 30 (.int .u64 (r.addr + 8 * i)) → Boxed W' (w.heap.size + 1 + 1) 30 (.int .u64 ((L.getD x default).addr + 8 * i)) from fun r h W' hb => by rw [h]; exact hb)
    obtain ⟨r, hr⟩ : ∃ r, L.getD x default = r := ⟨_, rfl⟩
    have hix' := Lib.hid (hix.out r hr)
    rw [hr] at bX bd1 bd2 bd3 bd4 ⊢
    have hini2 := Lib.hid (show ∀ (b : Bool), hitB nm i r = b → b = false → ∀ k ∈ pre ++ [x], hitB nm i (L.getD k default) = false from fun b h1 h2 => hini'.out b (by rw [hr]; exact h1) h2)
    have hyes := Lib.hid (show hitB nm i r = true → hitB nm i (L.getD x default) = true from fun h => by rw [hr]; exact h)
    obtain ⟨x0, x1, x2, x3⟩ := box4_of (r := r) bX
    have y1 := u1.cell
    have y2 := u2.cell
    have y3 := u3.cell
    have y4 := u4.cell
    have z3 := u3.frozen
    have z4 := u4.frozen
    have u1' := Lib.hid u1
    have u2' := Lib.hid u2
    have u3' := Lib.hid u3
    have u4' := Lib.hid u4
    have u5' := Lib.hid u5
    have hbd' := Lib.hid hbd
    have hR0' := Lib.hid hR0
    clear u1 u2 u3 u4 u5 hbd hini hix hr bX hlr hR0 hcell g0 g1 g2 g3 hB0
    dsimp only [Reg.val]
    cases hnm : (r.name.toList == nm.toList)
    · gi_wp2
      exact ⟨KeepsFrom.refl _ _, Below.refl _ _, ⟨⟨hini2.out _ rfl (by unfold hitB; rw [hnm]; rfl), u1'.out⟩, u2'.out, u3'.out, u4'.out⟩, u5'.out, u6⟩
    · by_cases hi0 : 0 ≤ i
      · by_cases hi1 : i < r.size
        · have d1 : decide (0 ≤ i) = true := by simpa using hi0
          have d2 : decide (i < r.size) = true := by simpa using hi1
          gi_wp2
          have hlo : w.heap.size + 1 + 1 ≠ w.heap.size + 1 + 1 + 1 := by omega
          exact ⟨((KeepsOthers.setCell _ _ _).trans (KeepsOthers.setCell _ _ _)).from _, ⟨rfl, pre, x, rfl, u0'.out, hyes.out (by unfold hitB; rw [hnm, d1, d2]; rfl), hix'.out _ ((u3'.out.set _).other hlo _), (u4'.out.other (Ne.symm hlo) _).set _⟩,
            (u5'.out.setCell (p := ⟨w.heap.size + 1 + 1, 0, none⟩) (by simp; omega) _).setCell (p := ⟨w.heap.size + 1 + 1 + 1, 0, none⟩) (by simp; omega) _⟩
        · have d1 : decide (0 ≤ i) = true := by simpa using hi0
          have d2 : decide (i < r.size) = false := by simpa using hi1
          gi_wp2
          exact ⟨KeepsFrom.refl _ _, Below.refl _ _, ⟨⟨hini2.out _ rfl (by unfold hitB; rw [hnm, d1, d2]; rfl), u1'.out⟩, u2'.out, u3'.out, u4'.out⟩, u5'.out, u6⟩
      · have d1 : decide (0 ≤ i) = false := by simpa using hi0
        gi_wp2
        exact ⟨KeepsFrom.refl _ _, Below.refl _ _, ⟨⟨hini2.out _ rfl (by unfold hitB; rw [hnm, d1]; rfl), u1'.out⟩, u2'.out, u3'.out, u4'.out⟩, u5'.out, u6⟩
  case done =>
    rintro D ys W hD rfl ⟨⟨⟨u0, u1⟩, u2, u3, u4⟩, u5, u6⟩ hK
    have y3 := u3.cell
    have y4 := u4.cell
    have z3 := u3.frozen
    have z4 := u4.frozen
    have u0' := Lib.hid u0
    have u5' := Lib.hid u5
    have u3' := Lib.hid u3
    have u4' := Lib.hid u4
    clear u0 u1 u2 u3 u4 u5 hbd hR0 hcell g0 g1 g2 g3 hB0
    gi_wp2
    have hlo : w.heap.size + 1 + 1 ≠ w.heap.size + 1 + 1 + 1 := by omega
    have hlt0 : w.heap.size + 1 + 1 + 1 < W0.heap.size := by omega
    have hK' := ((KeepsOthers.setCell W ⟨w.heap.size + 1 + 1, 0, none⟩ (.int .u64 0)).trans (KeepsOthers.setCell _ ⟨w.heap.size + 1 + 1 + 1, 0, none⟩ (.bool false))).same D _ hK rfl
    refine ⟨by simp, .inl ⟨_, _, rfl, run_takeDeferred hK', ?_⟩⟩
    have hc3 := (((u3'.out.set (.int .u64 0)).other hlo (.bool false)).kept (grownBy_putObj' _ D (.deferred none)) (fun e => by cases e; omega)).cell
    have hc4 := (((u4'.out.other (Ne.symm hlo) (.int .u64 0)).set (.bool false)).kept (grownBy_putObj' _ D (.deferred none)) (fun e => by cases e; omega)).cell
    refine ⟨.tuple #[.int .u64 0, .bool false], by simp [results, Try.f16, go_sem, hc3, hc4], ?_⟩
    rw [addrI_none (hLm) u0'.out]
    exact ⟨rfl, ((u5'.out.setCell (p := ⟨w.heap.size + 1 + 1, 0, none⟩) (by simp; omega) _).setCell (p := ⟨w.heap.size + 1 + 1 + 1, 0, none⟩) (by simp; omega) _).grown (grownBy_putObj' _ D _) (by have := u5'.out.size; simp; omega) (fun k e => by cases e; omega)⟩
  case stop =>
    rintro D c pre W hD ⟨k, hk, rfl⟩ ⟨⟨rfl, ini, last, e1, e2, e3, e4, e5⟩, u5⟩ hK
    have e1' := Lib.hid e1
    have e2' := Lib.hid e2
    have e3' := Lib.hid e3
    have e4' := Lib.hid e4
    have e5' := Lib.hid e5
    have u5' := Lib.hid u5
    clear e1 e2 e3 e4 e5 u5 hbd hR0 hcell g0 g1 g2 g3 hB0
    gi_wp2
    have hlt0 : w.heap.size + 1 + 1 + 1 < W0.heap.size := by omega
    refine ⟨by simp, .inl ⟨_, _, rfl, run_takeDeferred hK, ?_⟩⟩
    have hc3 := (e4'.out.kept (grownBy_putObj' _ D (.deferred none)) (fun e => by cases e; omega)).cell
    have hc4 := (e5'.out.kept (grownBy_putObj' _ D (.deferred none)) (fun e => by cases e; omega)).cell
    refine ⟨.tuple #[.int .u64 ((L.getD last default).addr + 8 * i), .bool true], by simp [results, Try.f16, go_sem, hc3, hc4], ?_⟩
    rw [addrI_some (hLm) hk e1'.out e2'.out e3'.out]
    exact ⟨rfl, u5'.out.grown (grownBy_putObj' _ D _) u5'.out.size (fun k e => by cases e; omega)⟩


/-- a memory that is not there -/
def NotThere (w : World) (v : Value) : Prop := v = .pointer none ∨ ∃ p, v = .pointer (some ⟨p, 0, none⟩) ∧ w.heap[p]? = some (.cells #[.slice none 0 0, .pointer none] 72 (0, 0))
theorem NotThere.below {w w' : World} {v : Value} (h : NotThere w v) (hb : Below w.heap.size w w') : NotThere w' v := by
  rcases h with h | ⟨p, h1, h2⟩
  · exact .inl h
  · exact .inr ⟨p, h1, (hb.block p (blk_lt h2)).trans h2⟩
theorem not_there {v : Value} (w : World) (h : NotThere w v) : Calls Try.prog 50 #[v] w fun e w' => e = .returned (.bool false) ∧ w = w' := by
  rcases h with rfl | ⟨p, rfl, h2⟩
  · exact there_nil w
  · exact there_zero p w (by rw [blk_cell h2]; rfl)

set_option maxRecDepth 100000 in
set_option maxHeartbeats 1000000 in
theorem place_nt {v : Value} (a : Int) (w : World) (h : NotThere w v) : Calls Try.prog 41 #[v, .int .u64 a] w (Two (-2) 0 w) := by
  have H := Lib.hid h
  clear h
  go_enter Try.func41, Try.ntmps41
  go_wp2_with fail
  refine (not_there _ H.out).mono ?_
  rintro e w1 ⟨rfl, rfl⟩
  go_wp2
  go_ret2
  exact ⟨rfl, Below.refl _ _⟩

set_option maxRecDepth 100000 in
set_option maxHeartbeats 1000000 in
theorem ask_nt {v : Value} (a b : Int) (w : World) (h : NotThere w v) : Calls Try.prog 45 #[v, .int .u64 a, .int .u64 b] w (One 1 w) := by
  have H := Lib.hid h
  clear h
  go_enter Try.func45, Try.ntmps45
  go_wp2_with fail
  refine (not_there _ H.out).mono ?_
  rintro e w1 ⟨rfl, rfl⟩
  go_wp2
  go_ret
  exact ⟨rfl, Below.refl _ _⟩

set_option maxRecDepth 100000 in
set_option maxHeartbeats 1000000 in
theorem load_nt {v : Value} (a : Int) (w : World) (h : NotThere w v) : Calls Try.prog 19 #[v, .int .u64 a] w (LoadPost .u64 0 1 w) := by
  have H := Lib.hid h
  clear h
  go_enter Try.func19, Try.ntmps19
  go_wp2_with fail
  refine (ask_nt a 8 _ H.out).mono ?_
  rintro e w1 ⟨rfl, hb⟩
  have hb' := Lib.hid hb
  clear hb
  go_wp2
  go_ret2
  exact ⟨rfl, hb'.out⟩

set_option maxRecDepth 100000 in
set_option maxHeartbeats 1000000 in
theorem loadByte_nt {v : Value} (a : Int) (w : World) (h : NotThere w v) : Calls Try.prog 21 #[v, .int .u64 a] w (LoadPost .u8 0 1 w) := by
  have H := Lib.hid h
  clear h
  go_enter Try.func21, Try.ntmps21
  go_wp2_with fail
  refine (ask_nt a 1 _ H.out).mono ?_
  rintro e w1 ⟨rfl, hb⟩
  have hb' := Lib.hid hb
  clear hb
  go_wp2
  go_ret2
  exact ⟨rfl, hb'.out⟩

set_option maxRecDepth 100000 in
set_option maxHeartbeats 1000000 in
theorem store_nt {v : Value} (a x : Int) (w : World) (h : NotThere w v) : Calls Try.prog 20 #[v, .int .u64 a, .int .u64 x] w (One 1 w) := by
  have H := Lib.hid h
  clear h
  go_enter Try.func20, Try.ntmps20
  go_wp2_with fail
  refine (ask_nt a 8 _ H.out).mono ?_
  rintro e w1 ⟨rfl, hb⟩
  have hb' := Lib.hid hb
  clear hb
  go_wp2
  go_ret
  exact ⟨rfl, hb'.out⟩

set_option maxRecDepth 100000 in
set_option maxHeartbeats 1000000 in
theorem storeByte_nt {v : Value} (a x : Int) (w : World) (h : NotThere w v) : Calls Try.prog 22 #[v, .int .u64 a, .int .u8 x] w (One 1 w) := by
  have H := Lib.hid h
  clear h
  go_enter Try.func22, Try.ntmps22
  go_wp2_with fail
  refine (ask_nt a 1 _ H.out).mono ?_
  rintro e w1 ⟨rfl, hb⟩
  have hb' := Lib.hid hb
  clear hb
  go_wp2
  go_ret
  exact ⟨rfl, hb'.out⟩
def Ret (v : Value) (w : World) (e : Ending) (w' : World) : Prop := e = .returned v ∧ Below w.heap.size w w'

set_option maxRecDepth 100000 in
set_option maxHeartbeats 1000000 in
theorem layout_nt {v : Value} (w : World) (h : NotThere w v) : Calls Try.prog 25 #[v] w (Ret (.slice none 0 0) w) := by
  have H := Lib.hid h
  clear h
  go_enter Try.func25, Try.ntmps25
  go_wp2_with fail
  refine (not_there _ H.out).mono ?_
  rintro e w1 ⟨rfl, rfl⟩
  go_wp2
  go_ret
  exact ⟨rfl, Below.refl _ _⟩

set_option maxRecDepth 100000 in
set_option maxHeartbeats 1000000 in
theorem stack_nt {v : Value} (w : World) (h : NotThere w v) : Calls Try.prog 29 #[v] w (Ret (.slice none 0 0) w) := by
  have H := Lib.hid h
  clear h
  go_enter Try.func29, Try.ntmps29
  go_wp2_with fail
  refine (not_there _ H.out).mono ?_
  rintro e w1 ⟨rfl, rfl⟩
  go_wp2
  go_ret
  exact ⟨rfl, Below.refl _ _⟩

set_option maxRecDepth 100000 in
set_option maxHeartbeats 1000000 in
theorem copy_nt {v : Value} (w : World) (h : NotThere w v) : Calls Try.prog 57 #[v] w (Ret (.pointer none) w) := by
  have H := Lib.hid h
  clear h
  go_enter Try.func57, Try.ntmps57
  go_wp2_with fail
  refine (not_there _ H.out).mono ?_
  rintro e w1 ⟨rfl, rfl⟩
  go_wp2
  go_ret
  exact ⟨rfl, Below.refl _ _⟩

set_option maxRecDepth 100000 in
set_option maxHeartbeats 1000000 in
theorem words_nt {v : Value} (w : World) (h : NotThere w v) : Calls Try.prog 27 #[v] w (Ret (.slice none 0 0) w) := by
  have H := Lib.hid h
  clear h
  go_enter Try.func27, Try.ntmps27
  go_wp2_with fail
  refine (layout_nt _ H.out).mono ?_
  rintro e w1 ⟨rfl, hb⟩
  have hb' := Lib.hid hb
  clear hb
  go_wp2_with fail
  go_loopg [3, 11] 0 (fun g s3 s wr => s3 = .slice none 0 0 ∧ s = .int .i64 0 ∧ w1 = wr)
  case atStart => exact ⟨rfl, rfl, rfl⟩
  case round =>
    obtain ⟨rfl, rfl, rfl⟩ := hrel
    go_wp2
    go_ret
    exact ⟨rfl, hb'.out⟩

set_option maxRecDepth 100000 in
set_option maxHeartbeats 1000000 in
theorem same_nt {v : Value} (w : World) (h : NotThere w v) : Calls Try.prog 33 #[v, .pointer none] w (Ret (.bool true) w) := by
  have H := Lib.hid h
  clear h
  go_enter Try.func33, Try.ntmps33
  go_wp2_with fail
  refine (not_there _ H.out).mono ?_
  rintro e w1 ⟨rfl, rfl⟩
  go_wp2_with fail
  refine (not_there _ H.out).mono ?_
  rintro e w1 ⟨rfl, rfl⟩
  go_wp2_with fail
  refine (not_there _ (.inl rfl)).mono ?_
  rintro e w1 ⟨rfl, rfl⟩
  go_wp2
  go_ret
  exact ⟨rfl, Below.refl _ _⟩

set_option maxRecDepth 100000 in
set_option maxHeartbeats 1000000 in
theorem same_tn {p q : Nat} {A : Option Addr} {n cap : Nat} {L : List Reg} {f : Nat → Int} (w : World) (h : Mem_ w p q A n cap L f) : Calls Try.prog 33 #[.pointer (some ⟨p, 0, none⟩), .pointer none] w (Ret (.bool false) w) := by
  have H := Lib.hid h
  clear h
  go_enter Try.func33, Try.ntmps33
  go_wp2_with fail
  refine (there_any _ H.out).mono ?_
  rintro e w1 ⟨rfl, rfl⟩
  go_wp2_with fail
  refine (not_there _ (.inl rfl)).mono ?_
  rintro e w1 ⟨rfl, rfl⟩
  go_wp2_with fail
  refine (there_any _ H.out).mono ?_
  rintro e w1 ⟨rfl, rfl⟩
  go_wp2_with fail
  refine (not_there _ (.inl rfl)).mono ?_
  rintro e w1 ⟨rfl, rfl⟩
  go_wp2
  go_ret
  exact ⟨rfl, Below.refl _ _⟩

theorem address_nt {v : Value} (nm : ByteArray) (i : Int) (w : World) (h : NotThere w v) : Calls Try.prog 16 #[v, .string nm, .int .i64 i] w (Ret (.tuple #[.int .u64 0, .bool false]) w) := by
  have := callsIn_wide.1 (address_gen (m := 0) (L := []) v nm i w (fun W1 hb => (layout_nt W1 (h.below hb)).mono fun e w' ⟨e1, e2⟩ => ⟨none, 0, e1, Nat.le_refl _, by omega, ⟨rfl, by simp, fun h => absurd h (by omega)⟩, e2⟩) (by omega) rfl (by simp))
  exact this

/-- how All of no memory ends -/
def AllNo (w : World) (e : Ending) (w' : World) : Prop :=
  ∃ Bs, e = .returned (.func (.func 58) #[] #[.pointer (some ⟨Bs, 0, none⟩)]) ∧ Boxed w' Bs 25 (.pointer none) ∧ w.heap.size ≤ Bs ∧ Below w.heap.size w w'
set_option maxRecDepth 100000 in
set_option maxHeartbeats 1000000 in
theorem all_nt {v : Value} (w : World) (h : NotThere w v) : Calls Try.prog 35 #[v] w (AllNo w) := by
  have H := Lib.hid h
  clear h
  go_enter Try.func35, Try.ntmps35
  go_wp2_with fail
  refine (copy_nt _ H.out).mono ?_
  rintro e w2 ⟨rfl, hb2⟩
  have hb2' := Lib.hid hb2
  clear hb2
  go_wp2
  go_ret
  exact ⟨w2.heap.size, rfl, Boxed.new _ _ _, hb2'.out.size, hb2'.out.alloc hb2'.out.size _⟩

set_option maxRecDepth 100000 in
set_option maxHeartbeats 1000000 in
theorem all58_no (n : Nat) (hn : 1 ≤ n) (l Bs : Nat) (J Jx : List Nat → World → Prop) (W : World) (hx : Boxed W Bs 25 (.pointer none)) (h0 : J [] W) :
    CallsIn Fence.wide n Try.prog 58 #[.func (.yield l) #[] #[], .pointer (some ⟨Bs, 0, none⟩)] W fun e W' => (∃ v, e = .returned v) ∧ ((∃ ys, ys = [] ∧ J ys W') ∨ (∃ pre, False ∧ Jx pre W')) := by
  have c0 := hx.cell
  have he : ∀ w, (binOp .eql 25 (.pointer none) (.pointer none)).run Try.prog w = .ok (.bool true) w := fun w => by kernel_rfl
  refine callsIn_of_wp Try.func58 rfl trivial ?_ rfl
  simp only [Try.ntmps58, List.size_toArray, List.length_cons, List.length_nil, Nat.reduceAdd, Nat.reduceSub, Array.replicate_succ, Array.replicate_zero, List.push_toArray, List.append_toArray, List.nil_append, List.cons_append]
  gi_wp2
  refine bodyPost_ret (results_none rfl _ _ _) rfl ?_
  exact ⟨⟨_, rfl⟩, .inl ⟨_, rfl, h0⟩⟩
theorem all58_none (n : Nat) (hn : 1 ≤ n) (Bs : Nat) (w : World) (hx : Boxed w Bs 25 (.pointer none)) :
    SeqStopsK Fence.wide n Try.prog 58 #[.pointer (some ⟨Bs, 0, none⟩)] (fun x : Nat => #[Value.int .u64 0, .int .u64 0]) (fun _ _ => True) (fun ys => ys = []) (fun _ => False) 0 w := fun l J Jx W hW hJ hJx hY h0 =>
  all58_no n hn l Bs J Jx W ((hW.block _ hx.lt).trans hx) h0
end Go.Proofs.Ytageahpgcjnkpaa
