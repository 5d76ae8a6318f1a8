/- LexMeans: the walk. -/
import Derived.Test.YtmkfoknhjjgipaaGreatDoorAF
import Derived.Test.YtmkfoknhjjgipaaGreatDoorAD
import Derived.Test.YtmkfoknhjjgipaaGreatDoorWSpaces
import Derived.Test.YtmkfoknhjjgipaaGreatDoorAG
set_option linter.unusedSimpArgs false
set_option linter.unusedVariables false
namespace Go.Proofs.YtmkfoknhjjgipaaGreatDoor
open Go.RowKit Go.Lib Go.Shelf
attribute [local go_sem] Oper.semAt_some

/-- between two rounds -/
structure MeI (wl : World) (pre : List Tp) (W : World) : Prop where
  b8 : Box1 W wl.heap.size 3 (.int .i64 (pre.length : Int))
  b9 : Box1 W (wl.heap.size + 1) 3 (.int .i64 (endN 0 pre : Int))
  bel : Below wl.heap.size wl W
theorem MeI.go {wl : World} {pre : List Tp} {B : Nat} {W W' : World} (hB : wl.heap.size + 2 ≤ B) (h : MeI wl pre W) (hb : Below B W W') : MeI wl pre W' :=
  ⟨h.b8.go hb (by omega), h.b9.go hb (by omega), h.bel.trans (hb.mono (by omega))⟩
theorem callsIn_round {n l : Nat} {P : Program} {f : FuncId} {args : Array Value} {w : World} {R : Ending → World → Prop} (h : Calls P f args w R) : CallsIn (Fence.wide.inRound l) n P f args w R :=
  ⟨trivial, (callsIn_wide.2 h : CallsIn Fence.wide n P f args w R).2⟩
theorem quiet_call {n l k : Nat} {P : Program} {f : FuncId} {args : Array Value} {w : World} {v : Value} (h : Calls P f args (w.drewN k) fun e w' => e = .returned v ∧ w' = w.drewN k) :
    CallsIn (Fence.wide.inRound l) n P f args (w.drewN k) fun e w'' => e = .returned v ∧ ∃ m, w'' = w.drewN m := CallsIn.quiet_of_same (callsIn_round h)
theorem box_unfold {W W' : World} {b : Nat} {t : TypeId} {v : Value} (h : Box1 W b t v) (e : W' = W) : W'.cell? ⟨b, 0, none⟩ = some v ∧ W'.frozen? ⟨b, 0, none⟩ = false ∧ b < W'.heap.size := by
  subst e
  exact ⟨h.c, h.f, blk_lt h⟩
set_option maxRecDepth 100000 in
set_option maxHeartbeats 8000000 in
theorem lexMeans_in (s : ByteArray) (w : World) (hE : Env w) : CallsIn Fence.wide 7 Tryz.prog 7 #[.string s] w (OkPost w) := by
  have hE' := Lib.hid hE
  refine callsIn_of_wp_marks Tryz.func7 rfl trivial ?_ rfl
  simp only [Tryz.ntmps7, List.size_toArray, List.length_cons, List.length_nil, Nat.reduceAdd, Nat.reduceSub, Array.replicate_succ, Array.replicate_zero, List.push_toArray, List.append_toArray, List.nil_append, List.cons_append]
  obtain ⟨WA, hWA⟩ : ∃ WA, (w.alloc (.cells #[.string s] 9)).alloc (.cells #[.bool false] 4) = WA := ⟨_, rfl⟩
  have sA : WA.heap.size = w.heap.size + 2 := by rw [← hWA]; simp
  have hbA : Below w.heap.size w WA := by rw [← hWA]; exact ((Below.refl _ w).alloc (Nat.le_refl _) _).alloc (by simp) _
  have a1 : Box1 WA w.heap.size 9 (.string s) := by rw [← hWA]; exact (Box1.new w 9 _ rfl).alloc _
  have a2 : Box1 WA (w.heap.size + 1) 4 (.bool false) := by rw [← hWA]; exact Box1.new _ 4 _ (by simp)
  have hk := Lib.hid (known_any WA (hE.below hbA))
  have hWA' := Lib.hid hWA
  have a1 := Lib.hid a1
  have a2 := Lib.hid a2
  have hbA := Lib.hid hbA
  clear hE hWA
  gi_wp2_with fail
  rw [hWA'.out]
  refine ⟨trivial, ?_⟩
  refine (callsIn_wide.2 hk.out).mono ?_
  rintro e w1 ⟨rfl, hb1⟩
  have d1 := a1.out.go hb1 (by omega)
  have d2 := a2.out.go hb1 (by omega)
  have hb1 := Lib.hid (Below.next hbA.out hb1)
  have g1 := d1.c
  have g2 := d2.c
  have f2 := d2.f
  have l2 := blk_lt d2
  have d1 := Lib.hid d1
  have d2 := Lib.hid d2
  clear a1 a2 hbA hk
  by_cases h9 : 30000 < s.size
  · have e9 : (30000 : Int) < (s.size : Int) := by omega
    gi_wp2
    have c2 := d2.out.set (u := .bool true)
    have c2 := c2.c
    refine ⟨.bool true, by simp [results, Tryz.f7, go_sem, c2], rfl, ?_⟩
    exact hb1.out.setCell (p := ⟨w.heap.size + 1, 0, none⟩) (by simp) _
  · have e9 : ¬ (30000 : Int) < (s.size : Int) := by omega
    have h2 := Lib.hid (all_any s w1 (hE'.out.below hb1.out) (by omega))
    gi_wp2_with fail
    refine ⟨trivial, ?_⟩
    refine (callsIn_wide.2 h2.out).mono ?_
    rintro e w2 ⟨v, rfl, hv, hb2⟩
    obtain ⟨A, c, rfl, _, hT, _⟩ := tpsAt_form hv
    have d1 := d1.out.go hb2 (blk_lt d1.out)
    have d2 := d2.out.go hb2 (blk_lt d2.out)
    have hb2 := Lib.hid (Below.next hb1.out hb2)
    clear g1 g2 f2 l2 h2 hv
    rcases allM_ok (s := s) (by omega) with ⟨hno, ha⟩ | ⟨er, fl, fc, ha, hne⟩
    · rw [ha] at hT ⊢
      unfold fltV
      dsimp only at hT ⊢
      obtain ⟨n, hn⟩ : ∃ n, (scanA s).1.length = n := ⟨_, rfl⟩
      rw [hn]
      have hns : n ≤ s.size := by have := scanA_len s; omega
      obtain ⟨W3, hW3⟩ : ∃ W3, (w2.alloc (.cells #[.slice A n c] 31)).alloc (.cells #[.int .i64 0, .int .i64 0, .int .i64 0] 33) = W3 := ⟨_, rfl⟩
      obtain ⟨p3, hp3⟩ : ∃ p3, w2.heap.size = p3 := ⟨_, rfl⟩
      have hbW3 : Below w2.heap.size w2 W3 := by rw [← hW3]; exact ((Below.refl _ w2).alloc (Nat.le_refl _) _).alloc (by simp) _
      have d3 : Box1 W3 p3 31 (.slice A n c) := by rw [← hW3]; exact (Box1.new w2 31 _ hp3).alloc _
      have d1 := d1.go hbW3 (blk_lt d1)
      have d2 := d2.go hbW3 (blk_lt d2)
      have hT3 := hT.below hbW3
      have hb3 := Lib.hid (Below.next hb2.out hbW3)
      have hpa := plain_again s (scanA_sum s) (scanA_len s)
      have hpl := plain_any A c ((scanA s).1.map Tp.ta) W3 hT3 (by rw [List.length_map]; omega) (by
        have h := plain_bytes s
        have e : (((scanA s).1.map Tp.ta).map fun x => x.t.data.toList) = ((scanA s).1.map Tp.x).map Tk.t := by
          rw [List.map_map, List.map_map]
          apply List.map_congr_left
          intro t _
          exact mkB_list _
        rw [e, ← h, size_list]
        have := hpa.1
        omega)
      rw [List.length_map, hn] at hpl
      obtain ⟨PT, hPT⟩ : ∃ PT, plainT (((scanA s).1.map Tp.ta).map Ta.t) = PT := ⟨_, rfl⟩
      rw [hPT] at hpl hpa
      obtain ⟨hpz, hpn, hpx⟩ := hpa
      have hpl := Lib.hid hpl
      have d1 := Lib.hid d1
      have d2 := Lib.hid d2
      have d3h := Lib.hid d3
      have hT3 := Lib.hid hT3
      have hW3' := Lib.hid hW3
      have hp3' := Lib.hid hp3
      obtain ⟨x3, _, _⟩ := box_unfold d3 hW3
      have hpx := Lib.hid hpx
      have hno := Lib.hid hno
      have hn' := Lib.hid hn
      clear hbW3 hT ha hW3 hp3 hPT hn d3
      gi_wp2_with fail
      rw [hW3'.out, hp3'.out]
      refine ⟨trivial, ?_⟩
      refine (callsIn_wide.2 hpl.out).mono ?_
      rintro e w4 ⟨rfl, hb4⟩
      have d1 := d1.out.go hb4 (blk_lt d1.out)
      have d2 := d2.out.go hb4 (blk_lt d2.out)
      have d3 := d3h.out.go hb4 (blk_lt d3h.out)
      have hT4 := hT3.out.below hb4
      have hb4 := Lib.hid (Below.next hb3.out hb4)
      have h5 := Lib.hid (all_any PT w4 (hE'.out.below hb4.out) (by omega))
      gi_wp2_with fail
      refine ⟨trivial, ?_⟩
      refine (callsIn_wide.2 h5.out).mono ?_
      rintro e w5 ⟨v5, rfl, hv5, hb5⟩
      obtain ⟨A5, c5, rfl, _, hT5, _⟩ := tpsAt_form hv5
      have d1 := d1.go hb5 (blk_lt d1)
      have d2 := d2.go hb5 (blk_lt d2)
      have d3 := d3.go hb5 (blk_lt d3)
      have hT5l := hT4.below hb5
      have hb5 := Lib.hid (Below.next hb4.out hb5)
      have ham : allM PT = ((scanA PT).1, 0, 0, 0) := by unfold allM; rw [if_neg (by omega), hpn]
      rw [ham] at hT5 ⊢
      unfold fltV
      dsimp only at hT5 ⊢
      have hlen : (scanA PT).1.length = n := by
        have := congrArg List.length hpx.out
        rw [List.length_map, List.length_map, hn'.out] at this
        exact this
      rw [hlen]
      obtain ⟨W6, hW6⟩ : ∃ W6, w5.alloc (.cells #[.int .i64 0, .int .i64 0, .int .i64 0] 33) = W6 := ⟨_, rfl⟩
      have hbW6 : Below w5.heap.size w5 W6 := by rw [← hW6]; exact (Below.refl _ _).alloc (Nat.le_refl _) _
      have d1 := d1.go hbW6 (blk_lt d1)
      have d2 := d2.go hbW6 (blk_lt d2)
      have d3 := d3.go hbW6 (blk_lt d3)
      have hT6 := hT5l.below hbW6
      have hsm := same_any A A5 n c n c5 ((scanA s).1.map Tp.ta) ((scanA PT).1.map Tp.ta) W6 (by rw [List.length_map, hn'.out]) (by rw [List.length_map, hlen]) hT6 (hT5.below hbW6) (by omega) (by omega)
      have hst : sameL ((scanA s).1.map Tp.ta) ((scanA PT).1.map Tp.ta) = true := by
        unfold sameL
        rw [key_ta, key_ta, hpx.out]
        simp
      rw [hst] at hsm
      have hsm := Lib.hid hsm
      obtain ⟨x3, _, _⟩ := box_unfold d3 hW6
      have hb6 := Lib.hid (Below.next hb5.out hbW6)
      have d1 := Lib.hid d1
      have d2 := Lib.hid d2
      have d3 := Lib.hid d3
      have hT6 := Lib.hid hT6
      have hW6' := Lib.hid hW6
      clear ham hst hlen hT5 hT5l hv5 hbW6 hW6 h5 hpl hT4 hT3 d3h hpn hpx
      gi_wp2_with fail
      rw [hW6'.out]
      refine ⟨trivial, ?_⟩
      refine (callsIn_wide.2 hsm.out).mono ?_
      rintro e w7 ⟨rfl, hb7⟩
      have d1 := d1.out.go hb7 (blk_lt d1.out)
      have d2 := d2.out.go hb7 (blk_lt d2.out)
      have d3 := d3.out.go hb7 (blk_lt d3.out)
      have hT7 := Lib.hid (hT6.out.below hb7)
      have hb7 := Lib.hid (Below.next hb6.out hb7)
      obtain ⟨W8, hW8⟩ : ∃ W8, (w7.alloc (.cells #[.int .i64 0] 3)).alloc (.cells #[.int .i64 0] 3) = W8 := ⟨_, rfl⟩
      have s8 : W8.heap.size = w7.heap.size + 2 := by rw [← hW8]; simp
      have hI8 : MeI w7 [] W8 := by
        rw [← hW8]
        exact ⟨(Box1.new w7 3 _ rfl).alloc _, Box1.new _ 3 _ (by simp), ((Below.refl _ w7).alloc (Nat.le_refl _) _).alloc (by simp) _⟩
      have e1 := d1.go hI8.bel (blk_lt d1)
      obtain ⟨x1, _, _⟩ := box_unfold e1 hW8
      have htk := tokens_any s W8
      have hI9 : MeI w7 [] (W8.alloc (.cells #[.string s] 9)) := hI8.go (B := W8.heap.size) (by omega) ((Below.refl _ _).alloc (Nat.le_refl _) _)
      have hb10 : (W8.alloc (.cells #[.string s] 9)).heap[w7.heap.size + 2]? = some (.cells #[.string s] 9 (0, 0)) := heap_alloc_new' s8 _
      have hz9 : (W8.alloc (.cells #[.string s] 9)).heap.size = w7.heap.size + 3 := by simp [s8]
      rw [s8] at htk
      obtain ⟨W9, hW9⟩ : ∃ W9, W8.alloc (.cells #[.string s] 9) = W9 := ⟨_, rfl⟩
      rw [hW9] at htk hI9 hb10 hz9
      have htk := Lib.hid htk
      have hI9 := Lib.hid hI9
      have hb10 := Lib.hid hb10
      have hW8' := Lib.hid hW8
      have hrn := run_it_nil
      have d1 := Lib.hid d1
      have d2 := Lib.hid d2
      have d3 := Lib.hid d3
      clear hI8 e1 hW8 hW9 hsm hT6
      gi_wp2_with fail
      rw [hW8'.out]
      refine ⟨trivial, ?_⟩
      refine (callsIn_wide.2 htk.out).mono ?_
      rintro e W0 ⟨rfl, rfl⟩
      gi_wp2_with fail
      refine wpIn_range_toks (n := 7) (s := s) (by omega) rfl (enters_of Tryz.func49 (by kernel_rfl) rfl) (toks49_said 6 (by omega) (w7.heap.size + 2) s (by omega) W0 hb10.out) (MeI w7) (fun _ _ => False)
        (fun xs W W' h hb => h.go (by omega) hb) (fun xs W W' h hb => h) (fun xs W h => hE'.out.below (Below.next hb7.out h.bel)) hI9.out
        (fun t a' W => ∃ tb, a' = { tmps := #[.string s, .pointer (some ⟨w.heap.size, 0, none⟩), .pointer (some ⟨w.heap.size + 1, 0, none⟩), .pointer (some ⟨p3, 0, none⟩), .pointer (some ⟨p3 + 1, 0, none⟩), .string PT, .slice A5 n c5, .pointer (some ⟨w5.heap.size, 0, none⟩), .pointer (some ⟨w7.heap.size, 0, none⟩), .pointer (some ⟨w7.heap.size + 1, 0, none⟩), .func (.func 49) #[] #[.pointer (some ⟨w7.heap.size + 2, 0, none⟩)], .int .i64 t.a, .pointer (some ⟨tb, 0, none⟩), .bool true, .bool false, .string s, .int .i64 s.size, .bool (decide ((30000 : Int) < (s.size : Int))), .tuple #[.slice A n c, .agg #[.int .i64 0, .int .i64 0, .int .i64 0]], .string s, .tuple #[.slice A n c, .agg #[.int .i64 0, .int .i64 0, .int .i64 0]], .slice A n c, .agg #[.int .i64 0, .int .i64 0, .int .i64 0], .pointer (some ⟨p3 + 1, 0, none⟩), .int .i64 0, .bool false, undef, undef, undef, .slice A n c, .string PT, .tuple #[.slice A5 n c5, .agg #[.int .i64 0, .int .i64 0, .int .i64 0]], .string PT, .tuple #[.slice A5 n c5, .agg #[.int .i64 0, .int .i64 0, .int .i64 0]], .slice A5 n c5, .agg #[.int .i64 0, .int .i64 0, .int .i64 0], .pointer (some ⟨w5.heap.size, 0, none⟩), .int .i64 0, .bool false, .bool false, .slice A n c, .slice A5 n c5, .bool true, .bool false, .bool false, .string s, .func (.func 49) #[] #[.pointer (some ⟨w7.heap.size + 2, 0, none⟩)], .func (.func 49) #[] #[.pointer (some ⟨w7.heap.size + 2, 0, none⟩)], .bool false, .func (.func 49) #[] #[.pointer (some ⟨w7.heap.size + 2, 0, none⟩)], .int .i64 t.a, tpV t, undef, undef, undef, undef, undef, undef, undef, undef, undef, undef, undef, undef, undef, undef, undef, undef, undef, undef, undef, undef, undef, undef, undef, undef, undef, undef, undef, undef, undef, undef, undef, undef, undef, undef, undef, undef, undef, undef, undef, undef, undef, undef, undef, undef, undef, undef, undef, undef, undef, undef, undef, undef, undef, undef, undef, undef, undef, undef, undef, undef, undef, undef, undef, undef, undef], defers := [] } ∧ W.heap[tb]? = some (.cells #[.int .i64 t.x.k, .string (mkB t.x.t), .int .u64 t.x.u, .int .i64 t.l, .int .i64 t.c] 48 (0, 0))) ?hAx ?assign ?body ?done ?stop
      case hAx =>
        rintro t a' W l o o' ⟨tb, rfl, htb⟩ hl ho
        refine ⟨tb, rfl, (World.putObj_heap_other ?_).trans htb⟩
        rintro rfl
        rw [htb] at hl
        cases hl
        cases ho
      case assign =>
        intro l t W K hW0 hK
        have hK' := Lib.hid hK
        clear hK
        unfold tpV tkV
        gi_wp2
        exact hK'.out _ _ ((Below.refl _ W).alloc (Nat.le_refl _) _) ⟨W.heap.size, rfl, heap_alloc_new _ _⟩
      case body =>
        rintro l pre t rest a' W hl hsz hI ⟨tb, rfl, htb⟩ hpre
        have hpln : pre.length < n := by rw [← hn'.out, ← hpre, List.length_append, List.length_cons]; omega
        have hget : (scanA s).1[pre.length]? = some t := by rw [← hpre]; simp
        obtain ⟨blk, off, x, hAe, hx, v1, v2, v3, v4, v5⟩ := (hT7.out.below hI.bel).at_ (k := pre.length) (by rw [List.length_map, hn'.out]; exact hpln)
        have hx2 : ((scanA s).1.map Tp.ta)[pre.length]? = some t.ta := by rw [List.getElem?_map, hget]; rfl
        obtain rfl : x = t.ta := by rw [hx2] at hx; exact (Option.some.inj hx).symm
        subst hAe
        obtain ⟨q1, q2, q3, q4⟩ := tok_lies hpre
        obtain ⟨t0, t1, t2, t3, t4, tf⟩ := box5 htb
        have y1 := (d1.out.go hI.bel (blk_lt d1.out)).c
        have y3 := (d3.out.go hI.bel (blk_lt d3.out)).c
        have y8 := hI.b8.c
        have y9 := hI.b9.c
        have f8 := hI.b8.f
        have f9 := hI.b9.f
        have hlt8 := blk_lt hI.b8
        have hlt9 := blk_lt hI.b9
        have hI' := Lib.hid hI
        obtain ⟨ta, tx, tl, tc⟩ := t
        obtain ⟨tk, tt, tu⟩ := tx
        dsimp only [Tp.ta] at v1 v2 v3 v4 v5 t0 t1 t2 t3 t4 q1 q2 q3 q4
        obtain ⟨q, hq⟩ : ∃ q, mkB tt = q := ⟨_, rfl⟩
        have hqz : q.size = tt.length := by rw [← hq, ← size_list, mkB_list]
        rw [hq] at v2 t1 q3
        obtain ⟨tz, htz⟩ : ∃ tz, tt.length = tz := ⟨_, rfl⟩
        rw [htz] at hqz q2 q3
        have htz' := Lib.hid htz
        have hq' := Lib.hid hq
        obtain ⟨pl, hple⟩ : ∃ pl, pre.length = pl := ⟨_, rfl⟩
        obtain ⟨en, hen⟩ : ∃ en, endN 0 pre = en := ⟨_, rfl⟩
        obtain ⟨G, hG⟩ : ∃ G, s.extract en ta = G := ⟨_, rfl⟩
        rw [hple] at v1 v2 v3 v4 v5 y8 hpln
        rw [hen] at y9 q1 q4
        rw [hG] at q4
        have hGz : G.size ≤ 2000000 := by
          rw [← hG, ← size_list, extract_list, List.length_drop, List.length_take, size_list]; omega
        have hbl := Lib.hid fun W => blank_any G W hGz q4
        have hple' := Lib.hid hple
        have e0 : decide ((n : Int) ≤ (pl : Int)) = false := by simp; omega
        have e0n : decide (n ≤ pl) = false := by simp; omega
        have e1 : decide ((ta : Int) < (en : Int)) = false := by simp; omega
        have e1n : decide (ta < en) = false := by simp; omega
        have e2 : decide ((s.size : Int) < (ta : Int) + (tz : Int)) = false := by simp; omega
        have e2n : decide (s.size < ta + tz) = false := by simp; omega
        have e3 : (ta : Int) + (tz : Int) ≤ (s.size : Int) := by omega
        have e4 : (en : Int) ≤ (ta : Int) := by omega
        have e5 : (ta : Int) ≤ (s.size : Int) := by omega
        have e6 : (q.toList != q.toList) = false := by simp
        have hnq := tok_neq_self tk tl tc tu q
        have hfw : Fence.wide.fn 26 := trivial
        have hw1 : IntKind.i64.wrap ((pl : Int) + 1) = (pl : Int) + 1 := by rw [IntKind.wrap_i64]; omega
        have hw2 : IntKind.i64.wrap ((ta : Int) + (tz : Int)) = (ta : Int) + (tz : Int) := by rw [IntKind.wrap_i64]; omega
        have hnb : w7.heap.size ≠ tb := by
          rintro rfl
          have e := hI.b8
          unfold Box1 at e
          rw [htb] at e
          cases e
        have hnb' : tb ≠ w7.heap.size := fun e => hnb e.symm
        have hmi : MeI w7 (pre ++ [⟨ta, ⟨tk, tt, tu⟩, tl, tc⟩]) ((W.setCell ⟨w7.heap.size, 0, none⟩ (.int .i64 ((pl : Int) + 1))).setCell ⟨w7.heap.size + 1, 0, none⟩ (.int .i64 ((ta : Int) + (tz : Int)))) := by
          refine ⟨?_, ?_, (hI.bel.setCell (p := ⟨w7.heap.size, 0, none⟩) (Nat.le_refl _) _).setCell (p := ⟨w7.heap.size + 1, 0, none⟩) (Nat.le_succ _) _⟩
          · rw [List.length_append, hple]
            exact (hI.b8.set (u := .int .i64 ((pl : Int) + 1))).other (by omega) _
          · rw [endN_snoc]
            dsimp only
            rw [htz'.out, Int.natCast_add]
            exact (hI.b9.other (by omega) _).set
        have hmi := Lib.hid hmi
        have hsx := Lib.hid hx2
        clear hI hx hx2 hget htb hq hple hen q4 htz
        gi_wp2
        refine wpIn_region_quiet_lit_r (by kernel_rfl) (by kernel_rfl) (by kernel_rfl) ?_
        repeat (gi_big_quiet_step (exact quiet_call (hbl.out _)))
        refine wpQuietIn_nil ?_
        rintro _ ⟨nq, rfl⟩
        have hend : ∀ a : Act, roundEndT W0.heap.size (MeI w7) (fun _ _ => False) (pre ++ [⟨ta, ⟨tk, tt, tu⟩, tl, tc⟩]) W .normal a (((W.drewN nq).drew.setCell ⟨w7.heap.size, 0, none⟩ (.int .i64 ((pl : Int) + 1))).setCell ⟨w7.heap.size + 1, 0, none⟩ (.int .i64 ((ta : Int) + (tz : Int)))) := fun a =>
          (show KeepF W0.heap.size W _ ∧ MeI w7 _ _ from ⟨keepF_drew (n := nq) (KeepF.trans (W' := (W.drewN nq).drew) ⟨Nat.le_refl _, fun _ _ _ => rfl⟩ (KeepF.trans (keepF_set (b := w7.heap.size) (by omega)) (keepF_set (b := w7.heap.size + 1) (by omega)))), ⟨hmi.out.b8, hmi.out.b9, ⟨hmi.out.bel.os, hmi.out.bel.tape, hmi.out.bel.output, hmi.out.bel.size, hmi.out.bel.block⟩⟩⟩)
        have hend := Lib.hid hend
        gi_wp2_with fail
        refine wpIn_region_any_r (by kernel_rfl) (by kernel_rfl) ?_
        refine wpAnyIn_take (i := 2) (v := .int .i64 (ta : Int)) rfl rfl (by kernel_rfl) (by kernel_rfl) (by kernel_rfl) (fun _ _ _ h => h) ⟨Or.inl ⟨by rfl, fun w => by go_simp⟩, fun _ => rfl⟩ ?_
        refine wpAnyIn_take (i := 3) (v := .pointer (some ⟨tb, 1, none⟩)) rfl rfl (by kernel_rfl) (by kernel_rfl) (by kernel_rfl) (fun _ _ _ h => h) ⟨Or.inl ⟨by rfl, fun w => by go_simp⟩, fun _ => rfl⟩ ?_
        refine wpAnyIn_ready (rs := [0, 4]) (by kernel_rfl) (by simp) ?_
        refine AllReadyIn.cons rfl (fun K hK => ?_) ?_
        · go_simp
          refine hK _ _ ?_
          clear hK K
          refine wpAnyIn_take (i := 1) (v := .int .i64 ((pl : Int) + 1)) rfl rfl (by kernel_rfl) (by kernel_rfl) (by kernel_rfl) (fun _ _ _ h => h) ⟨Or.inl ⟨by rfl, fun w => by go_simp⟩, fun _ => rfl⟩ ?_
          refine wpAnyIn_ready (rs := [4, 7]) (by kernel_rfl) (by simp) ?_
          refine AllReadyIn.cons rfl (fun K hK => ?_) ?_
          · go_simp
            refine hK _ _ ?_
            clear hK K
            refine wpAnyIn_take (i := 5) (v := .int .i64 (tz : Int)) rfl rfl (by kernel_rfl) (by kernel_rfl) (by kernel_rfl) (fun _ _ _ h => h) ⟨Or.inl ⟨by rfl, fun w => by go_simp⟩, fun _ => rfl⟩ ?_
            refine wpAnyIn_take (i := 6) (v := .int .i64 ((ta : Int) + (tz : Int))) rfl rfl (by kernel_rfl) (by kernel_rfl) (by kernel_rfl) (fun _ _ _ h => h) ⟨Or.inl ⟨by rfl, fun w => by go_simp⟩, fun _ => rfl⟩ ?_
            refine wpAnyIn_ready (rs := [7]) (by kernel_rfl) (by simp) ?_
            refine AllReadyIn.cons rfl (fun K hK => ?_) ?_
            · go_simp
              refine hK _ _ ?_
              clear hK K
              refine wpAnyIn_ready (rs := [8]) (by kernel_rfl) (by simp) ?_
              refine AllReadyIn.cons rfl (fun K hK => ?_) ?_
              · go_simp
                refine hK _ _ ?_
                clear hK K
                refine wpAnyIn_done (by kernel_rfl) ?_ _
                exact hend.out ⟨#[], []⟩
              · exact AllReadyIn.nil
            · exact AllReadyIn.nil
          · refine AllReadyIn.cons rfl (fun K hK => ?_) ?_
            · go_simp
              refine hK _ _ ?_
              clear hK K
              refine wpAnyIn_ready (rs := [4]) (by kernel_rfl) (by simp) ?_
              refine AllReadyIn.cons rfl (fun K hK => ?_) ?_
              · go_simp
                refine hK _ _ ?_
                clear hK K
                refine wpAnyIn_take (i := 5) (v := .int .i64 (tz : Int)) rfl rfl (by kernel_rfl) (by kernel_rfl) (by kernel_rfl) (fun _ _ _ h => h) ⟨Or.inl ⟨by rfl, fun w => by go_simp⟩, fun _ => rfl⟩ ?_
                refine wpAnyIn_take (i := 6) (v := .int .i64 ((ta : Int) + (tz : Int))) rfl rfl (by kernel_rfl) (by kernel_rfl) (by kernel_rfl) (fun _ _ _ h => h) ⟨Or.inl ⟨by rfl, fun w => by go_simp⟩, fun _ => rfl⟩ ?_
                refine wpAnyIn_ready (rs := [8]) (by kernel_rfl) (by simp) ?_
                refine AllReadyIn.cons rfl (fun K hK => ?_) ?_
                · go_simp
                  refine hK _ _ ?_
                  clear hK K
                  refine wpAnyIn_done (by kernel_rfl) ?_ _
                  exact hend.out ⟨#[], []⟩
                · exact AllReadyIn.nil
              · exact AllReadyIn.nil
            · exact AllReadyIn.nil
        · refine AllReadyIn.cons rfl (fun K hK => ?_) ?_
          · go_simp
            refine hK _ _ ?_
            clear hK K
            refine wpAnyIn_take (i := 5) (v := .int .i64 (tz : Int)) rfl rfl (by kernel_rfl) (by kernel_rfl) (by kernel_rfl) (fun _ _ _ h => h) ⟨Or.inl ⟨by rfl, fun w => by go_simp⟩, fun _ => rfl⟩ ?_
            refine wpAnyIn_take (i := 6) (v := .int .i64 ((ta : Int) + (tz : Int))) rfl rfl (by kernel_rfl) (by kernel_rfl) (by kernel_rfl) (fun _ _ _ h => h) ⟨Or.inl ⟨by rfl, fun w => by go_simp⟩, fun _ => rfl⟩ ?_
            refine wpAnyIn_ready (rs := [0]) (by kernel_rfl) (by simp) ?_
            refine AllReadyIn.cons rfl (fun K hK => ?_) ?_
            · go_simp
              refine hK _ _ ?_
              clear hK K
              refine wpAnyIn_take (i := 1) (v := .int .i64 ((pl : Int) + 1)) rfl rfl (by kernel_rfl) (by kernel_rfl) (by kernel_rfl) (fun _ _ _ h => h) ⟨Or.inl ⟨by rfl, fun w => by go_simp⟩, fun _ => rfl⟩ ?_
              refine wpAnyIn_ready (rs := [7]) (by kernel_rfl) (by simp) ?_
              refine AllReadyIn.cons rfl (fun K hK => ?_) ?_
              · go_simp
                refine hK _ _ ?_
                clear hK K
                refine wpAnyIn_ready (rs := [8]) (by kernel_rfl) (by simp) ?_
                refine AllReadyIn.cons rfl (fun K hK => ?_) ?_
                · go_simp
                  refine hK _ _ ?_
                  clear hK K
                  refine wpAnyIn_done (by kernel_rfl) ?_ _
                  exact hend.out ⟨#[], []⟩
                · exact AllReadyIn.nil
              · exact AllReadyIn.nil
            · exact AllReadyIn.nil
          · exact AllReadyIn.nil
      case done =>
        rintro D W hD hI hK
        have htl : toksOf s = (scanA s).1 := by unfold toksOf; rw [if_neg (by omega)]
        rw [htl] at hI
        obtain ⟨r1, r2⟩ := last_lies hno.out
        have y1 := (d1.out.go hI.bel (blk_lt d1.out)).c
        have y3 := (d3.out.go hI.bel (blk_lt d3.out)).c
        have b2 := d2.out.go hI.bel (blk_lt d2.out)
        have y2 := b2.c
        have f2 := b2.f
        have l2 := blk_lt b2
        have y8 := hI.b8.c
        have y9 := hI.b9.c
        rw [hn'.out] at y8
        obtain ⟨en, hen⟩ : ∃ en, endN 0 (scanA s).1 = en := ⟨_, rfl⟩
        rw [hen] at y9 r1 r2
        obtain ⟨G, hG⟩ : ∃ G, s.extract en s.size = G := ⟨_, rfl⟩
        rw [hG] at r2
        have hGz : G.size ≤ 2000000 := by
          rw [← hG, ← size_list, extract_list, List.length_drop, List.length_take, size_list]; omega
        have hbl := Lib.hid (blank_any G W hGz r2)
        have e1 : (en : Int) ≤ (s.size : Int) := by omega
        have b2 := Lib.hid b2
        have hbel := Lib.hid (Below.next hb7.out hI.bel)
        have hK' := Lib.hid hK
        clear hI hK r2 htl hen
        gi_wp2_with fail
        refine ⟨trivial, ?_⟩
        refine (callsIn_wide.2 hbl.out).mono ?_
        rintro e W1 ⟨rfl, rfl⟩
        gi_wp2
        have hlD : w.heap.size + 1 ≠ D := by have := blk_lt d2.out; omega
        have hKd : (W1.setCell ⟨w.heap.size + 1, 0, none⟩ (.bool true)).heap[D]? = some (.deferred (some [])) := by
          rw [Go.Deep.blk_setCell_other _ _ _ _ (by simp; omega)]; exact hK'.out
        refine ⟨by simp, .inl ⟨_, _, rfl, run_takeDeferred hKd, ?_⟩⟩
        have g8 : Box1 ((W1.setCell ⟨w.heap.size + 1, 0, none⟩ (.bool true)).putObj D (.deferred none)) (w.heap.size + 1) 4 (.bool true) := (World.putObj_heap_other hlD).trans b2.out.set
        have c8 := g8.c
        refine ⟨.bool true, by simp [results, Tryz.f7, go_sem, c8], rfl, ?_⟩
        exact (hbel.out.setCell (p := ⟨w.heap.size + 1, 0, none⟩) (by simp) _).trans (below_putObj (by have := hb7.out.size; omega) _)
      case stop =>
        rintro D pre rest W hD _ _ hX hK
        exact hX.elim
    · rw [ha]
      unfold fltV
      dsimp only
      have hd : (er != 0) = true := by simpa using hne
      obtain ⟨W3, hW3⟩ : ∃ W3, (w2.alloc (.cells #[.slice A 0 c] 31)).alloc (.cells #[.int .i64 er, .int .i64 fl, .int .i64 fc] 33) = W3 := ⟨_, rfl⟩
      have hbW3 : Below w2.heap.size w2 W3 := by rw [← hW3]; exact ((Below.refl _ w2).alloc (Nat.le_refl _) _).alloc (by simp) _
      have d2 := d2.go hbW3 (blk_lt d2)
      have d3 : Box1 W3 w2.heap.size 31 (.slice A 0 c) := by rw [← hW3]; exact (Box1.new w2 31 _ rfl).alloc _
      obtain ⟨x2, y2, z2⟩ := box_unfold d2 hW3
      obtain ⟨x3, y3, z3⟩ := box_unfold d3 hW3
      have hb3 := Lib.hid (Below.next hb2.out hbW3)
      have d2 := Lib.hid d2
      have hW3' := Lib.hid hW3
      clear ha hbW3 hW3 d3 hT
      gi_wp2
      rw [hW3'.out]
      have c2 := d2.out.set (u := .bool true)
      have c2 := c2.c
      refine ⟨.bool true, by simp [results, Tryz.f7, go_sem, c2], rfl, ?_⟩
      exact hb3.out.setCell (p := ⟨w.heap.size + 1, 0, none⟩) (by simp) _
theorem lexMeans_any (s : ByteArray) (w : World) (hE : Env w) : Calls Tryz.prog 7 #[.string s] w (OkPost w) := callsIn_wide.1 (lexMeans_in s w hE)
end Go.Proofs.YtmkfoknhjjgipaaGreatDoor
