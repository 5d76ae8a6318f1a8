/- The reference's one: an asking's lines. -/
import Derived.Test.YtkbmckmlnphpmaaGreatDoorAT
import Derived.StillTailTactics
set_option linter.unusedSimpArgs false
set_option linter.unusedVariables false
namespace Go.Proofs.YtkbmckmlnphpmaaGreatDoor
open Go.RowKit Go.Lib Go.Shelf

theorem one_ok {ls : List ByteArray} {k0 nx : Nat} {w w' : World} {a : Ask} {A1 A2 : Option Addr} {c1 c2 : Nat} (hb : Below w.heap.size w w') (h1 : k0 < nx) (h2 : nx ≤ ls.length) (h3 : AskF (fun b => w.heap.size ≤ b) w' a A1 A2)
    (h4 : ∀ out args regs, runL ⟨out, args, regs, false⟩ ((ls.take nx).drop k0) = some ⟨out ++ [a], a.args, a.regs, false⟩) : OnePost ls k0 w (.returned (.tuple #[askVal a A1 c1 A2 c2, .int .i64 nx, .bool true])) w' :=
  ⟨a, A1, A2, c1, c2, nx, true, rfl, hb, fun _ => ⟨h1, h2, h3, h4⟩, (fun h => by cases h)⟩
theorem one_no {ls : List ByteArray} {k0 nx : Nat} {w w' : World} {a : Ask} {A1 A2 : Option Addr} {c1 c2 : Nat} (hb : Below w.heap.size w w') (h1 : k0 ≤ nx) (h2 : nx ≤ ls.length)
    (h4 : ∀ out args regs, ∃ r', runL ⟨out, args, regs, false⟩ ((ls.take nx).drop k0) = some r' ∧ (∀ s, ls[nx]? = some s → takeM r' s = none) ∧ (nx = ls.length → r'.on = true)) : OnePost ls k0 w (.returned (.tuple #[askVal a A1 c1 A2 c2, .int .i64 nx, .bool false])) w' :=
  ⟨a, A1, A2, c1, c2, nx, false, rfl, hb, (fun h => by cases h), fun _ => ⟨h1, h2, h4⟩⟩
theorem one_zero {ls : List ByteArray} {k0 nx : Nat} {w w' : World} (hb : Below w.heap.size w w') (h1 : k0 ≤ nx) (h2 : nx ≤ ls.length)
    (h4 : ∀ out args regs, ∃ r', runL ⟨out, args, regs, false⟩ ((ls.take nx).drop k0) = some r' ∧ (∀ s, ls[nx]? = some s → takeM r' s = none) ∧ (nx = ls.length → r'.on = true)) : OnePost ls k0 w (.returned (.tuple #[.agg zAsk, .int .i64 nx, .bool false])) w' :=
  one_no (a := ⟨0, [], [], 0, 0⟩) (A1 := none) (A2 := none) (c1 := 0) (c2 := 0) hb h1 h2 h4
theorem first_no {ls : List ByteArray} {k0 : Nat} {x : ByteArray} (hx : ls[k0]? = some x) (hm : ∀ out args regs, takeM ⟨out, args, regs, false⟩ x = none) : ∀ out args regs, ∃ r', runL ⟨out, args, regs, false⟩ ((ls.take k0).drop k0) = some r' ∧ (∀ s, ls[k0]? = some s → takeM r' s = none) ∧ (k0 = ls.length → r'.on = true) := by
  intro out args regs
  refine ⟨⟨out, args, regs, false⟩, ?_, fun s hs => ?_, fun h => ?_⟩
  · rw [List.drop_eq_nil_of_le (by rw [List.length_take]; omega)]; rfl
  · rw [hx] at hs; cases hs; exact hm _ _ _
  · have := (List.getElem?_eq_some_iff.1 hx).1; omega
theorem first_ok {ls : List ByteArray} {k0 : Nat} {x : ByteArray} {l : List Int} (hx : ls[k0]? = some x) (hu : unwM x = some (inW, l)) (hl : l.length ≤ 64) : ∀ out args regs, runL ⟨out, args, regs, false⟩ ((ls.take (k0 + 1)).drop k0) = some ⟨out, l, [], true⟩ := by
  intro out args regs
  rw [drop_take_snoc hx (Nat.le_refl _), List.drop_eq_nil_of_le (by rw [List.length_take]; omega)]
  show runL _ [x] = _
  rw [runL_cons]
  have : takeM ⟨out, args, regs, false⟩ x = some ⟨out, l, [], true⟩ := by unfold takeM; dsimp only; rw [hu]; dsimp only; rw [if_pos ⟨rfl, hl⟩]
  rw [this]
  rfl
theorem next_no {ls : List ByteArray} {k0 k : Nat} {x : ByteArray} {args : List Int} {regs : List (List Int)} (hrun : ∀ out a0 r0, runL ⟨out, a0, r0, false⟩ ((ls.take k).drop k0) = some ⟨out, args, regs, true⟩) (hx : ls[k]? = some x) (hm : ∀ out, takeM ⟨out, args, regs, true⟩ x = none) :
    ∀ out a0 r0, ∃ r', runL ⟨out, a0, r0, false⟩ ((ls.take k).drop k0) = some r' ∧ (∀ s, ls[k]? = some s → takeM r' s = none) ∧ (k = ls.length → r'.on = true) := by
  intro out a0 r0
  exact ⟨_, hrun out a0 r0, fun s hs => by rw [hx] at hs; cases hs; exact hm _, fun h => rfl⟩
theorem next_ok {ls : List ByteArray} {k0 k : Nat} {x : ByteArray} {args : List Int} {regs : List (List Int)} {f : List Ask → RSt} (hk : k0 ≤ k) (hrun : ∀ out a0 r0, runL ⟨out, a0, r0, false⟩ ((ls.take k).drop k0) = some ⟨out, args, regs, true⟩) (hx : ls[k]? = some x) (hm : ∀ out, takeM ⟨out, args, regs, true⟩ x = some (f out)) :
    ∀ out a0 r0, runL ⟨out, a0, r0, false⟩ ((ls.take (k + 1)).drop k0) = some (f out) := by
  intro out a0 r0
  rw [drop_take_snoc hx hk]
  exact runL_snoc (hrun out a0 r0) (hm out)
theorem with_no {x : ByteArray} {l : List Int} (hu : unwM x = some (withW, l)) : unlineM x = none := by
  rw [unlineM_eq]
  unfold refUnlM
  rw [hu]
  dsimp only
  split
  · rfl
  · rw [if_neg (by rintro ⟨h, _⟩; revert h; decide), if_neg (by rintro ⟨h, _⟩; revert h; decide), if_neg (by rintro ⟨h, _⟩; revert h; decide)]
theorem unl_none {x : ByteArray} (hu : unwM x = none) : unlineM x = none := by unfold unlineM; rw [hu]
theorem bit0 (w : World) : Calls Tryz.prog 90 #[.bool false] w fun e w' => e = .returned (.int .i64 0) ∧ w' = w := (bit_any false w).mono fun e w' h => ⟨h.1, h.2.symm⟩
theorem bit1 (w : World) : Calls Tryz.prog 90 #[.bool true] w fun e w' => e = .returned (.int .i64 1) ∧ w' = w := (bit_any true w).mono fun e w' h => ⟨h.1, h.2.symm⟩
theorem box2 {W : World} {b : Nat} {v0 v1 : Value} {t : TypeId} (h : W.heap[b]? = some (.cells #[v0, v1] t (0, 0))) :
    W.cell? ⟨b, 0, none⟩ = some v0 ∧ W.cell? ⟨b, 1, none⟩ = some v1 ∧ ∀ k, W.frozen? ⟨b, k, none⟩ = false :=
  ⟨by rw [blk_cell h]; rfl, by rw [blk_cell h]; rfl, fun k => by simp [World.frozen?, h]⟩

set_option maxRecDepth 100000 in
set_option maxHeartbeats 8000000 in
theorem refOne_any (ls : List ByteArray) (A : Option Addr) (n c k0 : Nat) (w : World) (hn : ls.length = n) (hA : SAt w A ls) (hk0 : k0 < n) (hsz : ∀ x ∈ ls, x.size ≤ 1000000) (hn1 : n ≤ 1100000) : Calls Tryz.prog 62 #[.slice A n c, .int .i64 k0] w (OnePost ls k0 w) := by
  have hn' := Lib.hid hn
  have hA' := Lib.hid hA
  have hsz' := Lib.hid hsz
  obtain ⟨blk, off, x0, rfl, hx0, cx0⟩ := hA.at_ (k := k0) (by omega)
  have hx0' := Lib.hid hx0
  have hlt0 := cell_some_lt cx0
  have hb0 := Lib.hid ((Below.refl w.heap.size w).alloc (Nat.le_refl _) (.cells zAsk 42))
  have hU0 := refUnwords_any x0 (w.alloc (.cells zAsk 42)) (hsz x0 (List.mem_of_getElem? hx0))
  clear hn hA hsz hx0
  cases hu : unwM x0 with
  | none =>
    have hk := Lib.hid (hU0.mono fun e w' h => (show e = .returned (.tuple #[.string ⟨#[]⟩, .slice none 0 0, .bool false]) ∧ Below (w.alloc (.cells zAsk 42)).heap.size (w.alloc (.cells zAsk 42)) w' from ⟨h.1 hu, h.2.2⟩))
    have hm := Lib.hid (first_no hx0'.out (fun out args regs => by unfold takeM; dsimp only; rw [hu]))
    clear hU0 hu
    unfold zAsk at hb0 hk
    go_enter Tryz.func62, Tryz.ntmps62
    go_wp2_with fail
    refine hk.out.mono ?_
    rintro e w1 ⟨rfl, hb1⟩
    obtain ⟨g0, g1, g2, g3, g4, gf⟩ := box5 (box_kept w _ hb1)
    have hsz1 := hb1.size
    have hsz2 : w.heap.size < w1.heap.size := by simp at hsz1; omega
    have hfin := Lib.hid (hb0.out.trans (hb1.mono hb0.out.size))
    clear hb1 hsz1
    go_wp2_with fail
    refine bodyPost_ret (v := .tuple #[.agg zAsk, .int .i64 k0, .bool false]) (by simp [results, Tryz.results62, go_sem, zAsk, g0, g1, g2, g3, g4]) rfl (one_zero ?_ (Nat.le_refl _) (by rw [hn'.out]; omega) hm.out)
    repeat (first | with_reducible exact hfin.out | with_reducible refine Below.alloc ?_ (by simp; omega) _ | with_reducible refine Below.setCell ?_ (by simp) _)
  | some pl =>
    obtain ⟨p, l⟩ := pl
    have hk := Lib.hid (hU0.mono fun e w' h => (show ∃ A c, e = .returned (.tuple #[.string p, .slice A l.length c, .bool true]) ∧ WNew (w.alloc (.cells zAsk 42)).heap.size w' A l ∧ Below (w.alloc (.cells zAsk 42)).heap.size (w.alloc (.cells zAsk 42)) w' from by
      obtain ⟨A, c, h1, h2⟩ := h.2.1 p l hu
      exact ⟨A, c, h1, h2, h.2.2⟩))
    have hul := unw_len hu
    have hx0s := hsz'.out x0 (List.mem_of_getElem? hx0'.out)
    clear hU0
    by_cases hp : p = inW
    · subst hp
      by_cases hl : l.length ≤ 64
      · have el : ¬ (64 : Int) < (l.length : Int) := by omega
        have hrun0 := Lib.hid (first_ok hx0'.out hu hl)
        have hl' := Lib.hid hl
        clear hu hl hul
        unfold zAsk at hb0 hk
        unfold inW at hk
        go_enter Tryz.func62, Tryz.ntmps62
        go_wp2_with fail
        refine hk.out.mono ?_
        rintro e w1 ⟨A1, c1, rfl, hA1, hb1⟩
        have hzk := box_kept w _ hb1
        have hsz1 := hb1.size
        have hsz2 : w.heap.size < w1.heap.size := by simp at hsz1; omega
        have hfin := hb0.out.trans (hb1.mono hb0.out.size)
        have hI0 := Lib.hid (show InI w (w1.alloc (.cells #[.slice A1 l.length c1, .slice none 0 0] 39)) w1.heap.size l [] (fun b => w.heap.size < b ∧ b < w1.heap.size) A1 c1 (.slice none 0 0) [] from by
          refine ⟨fun b hF => (by have hF : w.heap.size < b ∧ b < w1.heap.size := hF; exact ⟨by simp; omega, hF.1, by omega⟩), heap_alloc_new w1 _, hsz2, (heap_alloc_old w1 _ hsz2).trans hzk, fun g hg => by simp [Value.ownBlock] at hg, ⟨hA1.1, fun hnn => ?_⟩, hl'.out, ⟨rfl, .inl ⟨rfl, rfl⟩⟩, ⟨rfl, fun i ws hi => by cases hi⟩, Nat.zero_le _, hfin.alloc hfin.size _⟩
          obtain ⟨bb, e1, e2, e3⟩ := hA1.2 hnn
          have hbb := cell_some_lt (e3 0 l[0] (by simp))
          refine ⟨bb, 0, e1, ⟨by simp at e2; omega, hbb⟩, fun i x hx => ?_⟩
          rw [Nat.zero_add]
          exact (World.cell?_of_block (a := ⟨bb, i, none⟩) (heap_alloc_old w1 _ hbb)).trans (e3 i x hx))
        clear hzk hsz1 hfin hA1 hb1
        go_wp2_with fail
        go_loopg [1] (n - (k0 + 1)) (fun g s1 wr => ∃ (k : Nat) (regs : List (List Int)) (F : Nat → Prop) (vr : Value) (rs : List Value), k + g = n ∧ s1 = .int .i64 k ∧ k0 < k ∧ InI w wr w1.heap.size l regs F A1 c1 vr rs ∧ ∀ out a0 r0, runL ⟨out, a0, r0, false⟩ ((ls.take k).drop k0) = some ⟨out, l, regs, true⟩)
        case atStart => exact ⟨k0 + 1, [], _, _, _, by omega, by go_num, Nat.lt_succ_self k0, hI0.out, hrun0.out⟩
        case round =>
          obtain ⟨k, regs, F, vr, rs, hkg, rfl, hkk, hI, hrun⟩ := hrel
          obtain ⟨Ar, cr, hvr, hAr⟩ := own_at hI.own hI.wregs.1
          subst hvr
          have hI' := Lib.hid hI
          have hAr' := Lib.hid hAr
          have hrun' := Lib.hid hrun
          obtain ⟨z0, z1, z2, z3, z4, zf⟩ := box5 hI.zero
          have hltz := blk_lt hI.zero
          clear hI hAr hrun
          cases gk with
          | zero =>
            have e0 : ¬ ((k : Int) < (n : Int)) := by omega
            go_wp2_with fail
            refine bodyPost_ret (v := .tuple #[.agg zAsk, .int .i64 k, .bool false]) (by simp [results, Tryz.results62, go_sem, zAsk, z0, z1, z2, z3, z4]) rfl (one_zero ?_ (by omega) (by rw [hn'.out]; omega) (fun out a0 r0 => ⟨_, hrun'.out out a0 r0, (fun s hs => by rw [List.getElem?_eq_none (by rw [hn'.out]; omega)] at hs; cases hs), fun _ => rfl⟩))
            have hfin := hI'.out.below
            repeat (first | with_reducible exact hfin | with_reducible refine Below.alloc ?_ (by simp; omega) _ | with_reducible refine Below.setCell ?_ (by simp) _)
          | succ g =>
            have e0 : (k : Int) < (n : Int) := by omega
            obtain ⟨blk', off', x, hAe, hx, cx⟩ := hA'.out.at_ (k := k) (by rw [hn'.out]; omega)
            cases hAe
            have hltx := cell_some_lt cx
            have cxr := (hI'.out.below.cell (p := ⟨blk, off + k, none⟩) hltx).trans cx
            have hx' := Lib.hid hx
            have hxs := hsz'.out x (List.mem_of_getElem? hx)
            have hU := refUnwords_any x wr hxs
            have hw1 := Lib.hid (show IntKind.i64.wrap ((k : Int) + 1) = (k : Int) + 1 by rw [IntKind.wrap_i64]; omega)
            have hw2 := Lib.hid (show IntKind.i64.wrap ((k : Int) + 1 - 1) = (k : Int) by rw [IntKind.wrap_i64]; omega)
            have hw3 := Lib.hid (show IntKind.i64.wrap (k : Int) = (k : Int) by rw [IntKind.wrap_i64]; omega)
            clear hx cx
            obtain ⟨q, hq⟩ : ∃ q, unwM x = q := ⟨_, rfl⟩
            cases q with
            | none =>
              have hul := unl_none hq
              have hbad := Lib.hid (next_no hrun'.out hx'.out (fun out => by unfold takeM; dsimp only; rw [hq]))
              have hk2 := Lib.hid (hU.mono fun e w' h => (show e = .returned (.tuple #[.string ⟨#[]⟩, .slice none 0 0, .bool false]) ∧ Below wr.heap.size wr w' from ⟨h.1 hq, h.2.2⟩))
              clear hU hq
              go_wp2_with fail
              refine hk2.out.mono ?_
              rintro e w2 ⟨rfl, hb2⟩
              have hI2 := Lib.hid (hI'.out.go hb2)
              have cx2 := (hb2.cell (p := ⟨blk, off + k, none⟩) (cell_some_lt cxr)).trans cxr
              obtain ⟨i0, i1, ifz⟩ := box2 hI2.out.blk
              have hlt2 := Nat.lt_of_lt_of_le hltz hb2.size
              clear hb2
              have hV := Lib.hid (show Calls Tryz.prog 22 #[.string x] w2 fun e w' => e = .returned (.tuple #[.agg #[.int .i64 0, .slice none 0 0, .slice none 0 0, .int .u64 0, .int .i64 0], .bool false]) ∧ Below w2.heap.size w2 w' from (refUnline_any x w2 hxs).mono fun e w' h => ⟨h.1 hul, h.2.2⟩)
              go_wp2_with fail
              refine hV.out.mono ?_
              rintro e w4 ⟨rfl, hb4⟩
              have hI4 := hI2.out.go hb4
              have hlt4 := Nat.lt_of_lt_of_le hlt2 hb4.size
              have hiI := blk_lt hI4.blk
              obtain ⟨q0, q1, qf⟩ := box2 ((heap_alloc_old w4 (.cells #[.int .i64 0, .slice none 0 0, .slice none 0 0, .int .u64 0, .int .i64 0] 42) hiI).trans hI4.blk)
              obtain ⟨z0, z1, z2, z3, z4, zf⟩ := box5 ((heap_alloc_old w4 (.cells #[.int .i64 0, .slice A1 l.length c1, .slice Ar regs.length cr, .int .u64 0, .int .i64 0] 42) hlt4).trans hI4.zero)
              obtain ⟨j0, j1, j2, j3, j4, jf⟩ := box5 (heap_alloc_new w4 (.cells #[.int .i64 0, .slice A1 l.length c1, .slice Ar regs.length cr, .int .u64 0, .int .i64 0] 42))
              have hI4' := Lib.hid hI4
              have hAr4 := Lib.hid (show 0 < regs.length → ∃ g, Ar = some ⟨g, 0, none⟩ ∧ w1.heap.size + 1 ≤ g ∧ g < w4.heap.size ∧ ∀ i v, rs[i]? = some v → w4.cell? ⟨g, i, none⟩ = some v from by
                intro hp0
                obtain ⟨A', c', he, h⟩ := own_at hI4.own hI4.wregs.1
                injection he with e1 e2 e3
                subst e1
                exact h hp0)
              have hfq := Lib.hid (hI4.below.alloc hI4.below.size (.cells #[.int .i64 0, .slice A1 l.length c1, .slice Ar regs.length cr, .int .u64 0, .int .i64 0] 42))
              clear hI4 hb4
              go_wp2_with fail
              obtain ⟨wq, hwq⟩ : ∃ wq, wq = w4.alloc (.cells #[.int .i64 0, .slice A1 l.length c1, .slice Ar regs.length cr, .int .u64 0, .int .i64 0] 42) := ⟨_, rfl⟩
              have hsq : wq.heap.size = w4.heap.size + 1 := by rw [hwq]; simp
              rw [← hwq] at z0 z1 z2 z3 z4 zf j0 j1 j2 j3 j4 jf hfq ⊢
              have hwq' := Lib.hid hwq
              clear hwq
              go_region_with (go_at_call 90; refine (bit_any true wq.drew).mono ?_; rintro e wb ⟨rfl, rfl⟩)
              all_goals (
                go_wp2
                refine bodyPost_ret (v := .tuple #[askVal ⟨0, l, regs, 0, 0⟩ A1 c1 Ar cr, .int .i64 k, .bool false]) (by simp [results, Tryz.results62, go_sem, askVal, z0, z1, z2, z3, z4, hw1.out, hw2.out, hw3.out]) rfl ?_
                refine one_no ?_ (by omega) (by rw [hn'.out]; omega) hbad.out
                have hfin := hfq.out
                repeat (first | with_reducible exact hfin | with_reducible refine Below.alloc ?_ (by simp; omega) _ | with_reducible refine Below.setCell ?_ (by simp) _ | with_reducible refine Below.drew ?_))
            | some pl2 =>
              obtain ⟨p2, l2⟩ := pl2
              have hk2 := Lib.hid (hU.mono fun e w' h => (show ∃ A c, e = .returned (.tuple #[.string p2, .slice A l2.length c, .bool true]) ∧ WNew wr.heap.size w' A l2 ∧ Below wr.heap.size wr w' from by
                obtain ⟨A, c, h1, h2⟩ := h.2.1 p2 l2 hq
                exact ⟨A, c, h1, h2, h.2.2⟩))
              have hul2 := unw_len hq
              clear hU
              by_cases hp2 : p2 = withW
              · subst hp2
                have hul := with_no hq
                by_cases hl2 : l2.length ≤ 512
                · have el2 : (l2.length : Int) ≤ 512 := by omega
                  by_cases hr16 : regs.length < 16
                  · have er : (regs.length : Int) < 16 := by omega
                    have hm := Lib.hid (next_ok (f := fun out => ⟨out, l, regs ++ [l2], true⟩) (by omega) hrun'.out hx'.out (fun out => by unfold takeM; dsimp only; rw [hq]; dsimp only; rw [if_pos rfl, if_pos ⟨hl2, hr16⟩]))
                    obtain ⟨i00, hi0, hz0, hz1, hz2⟩ := info_parts info22
                    clear hq hul
                    unfold withW at hk2
                    go_wp2_with fail
                    refine hk2.out.mono ?_
                    rintro e w2 ⟨B, c2, rfl, hB, hb2⟩
                    have hI2 := hI'.out.go hb2
                    obtain ⟨i0, i1, ifz⟩ := box2 hI2.blk
                    have hiI := blk_lt hI2.blk
                    obtain ⟨nr, hnr⟩ : ∃ nr, regs.length = nr := ⟨_, rfl⟩
                    have hnr' := Lib.hid hnr
                    have hr16' := Lib.hid hr16
                    have hl2' := Lib.hid hl2
                    have hown := hI2.own.alloc (.cells #[.slice B l2.length c2] 22)
                    have hne := Lib.hid (show some w1.heap.size ≠ (Value.slice Ar nr cr).ownBlock from fun e => by have := (hI2.own.lt _ (by rw [hnr]; exact e.symm)).1; omega)
                    rw [hnr] at i1 hown er
                    have hown := Lib.hid hown
                    have hnew := Lib.hid (cell_one_new w2 (.slice B l2.length c2) 22)
                    have hone := Lib.hid (show ∀ v ∈ [Value.slice B l2.length c2], v.oneCell' = true by simp [Value.oneCell'])
                    have hbs := Lib.hid (show w1.heap.size + 1 ≤ (w2.alloc (.cells #[.slice B l2.length c2] 22)).heap.size by simp; omega)
                    have hk1 := Lib.hid (show nr + 1 ≤ maxLen by unfold maxLen; omega)
                    have hk3 := Lib.hid (show (nr + 1) * 24 ≤ 140737488355328 by omega)
                    have hIs := Lib.hid ((heap_alloc_old w2 (.cells #[.slice B l2.length c2] 22) hiI).trans hI2.blk)
                    have hlt3 := Lib.hid (show w1.heap.size < (w2.alloc (.cells #[.slice B l2.length c2] 22)).heap.size by simp; omega)
                    have hB' := Lib.hid hB
                    have hb2' := Lib.hid hb2
                    have hI2' := Lib.hid hI2
                    obtain ⟨q0, q1, qf⟩ := box2 hIs.out
                    rw [hnr] at q1
                    clear hI2 hb2 hB hr16 hl2 hnr
                    go_wp2_with ((at_builtin; refine wpList_append_own_at _ rfl _ _ 37 rfl (w1.heap.size + 1) 22 i00 _ 1 24 und37 hi0 hz0 hz1 hz2 rfl (by decide) (.slice Ar nr cr) nr rs rfl hown.out ⟨w2.heap.size, 0, none⟩ 1 1 [.slice B l2.length c2] rfl rfl hnew.out hone.out hk1.out hk3.out hbs.out ?_; intro v' w5 hown5 hg5 hnil5 hat5; obtain ⟨gn, capn, rfl, _, _⟩ := hown5.form (Nat.succ_pos nr); have hI5 := (hg5.block _ hlt3.out hne.out).trans hIs.out; obtain ⟨y0, y1, yf⟩ := box2 hI5; have hiI5 := blk_lt hI5; have hown5 := Lib.hid hown5; have hg5 := Lib.hid hg5; have hat5 := Lib.hid hat5; clear hnil5 hI5))
                    go_roundg g
                    case measure => omega
                    case rel =>
                      have e1 := hnr'.out
                      subst e1
                      have h7 := hI'.out.more hb2'.out hB'.out hl2'.out hr16'.out (by simpa using hown5.out) hg5.out (hat5.out.elim (fun h => .inl h.symm) (fun h => .inr (by injection h)))
                      exact ⟨k + 1, regs ++ [l2], _, _, _, by omega, by go_num, by omega, h7, hm.out⟩
                  · have er : ¬ (regs.length : Int) < 16 := by omega
                    have hbad := Lib.hid (next_no hrun'.out hx'.out (fun out => by unfold takeM; dsimp only; rw [hq]; dsimp only; rw [if_pos rfl, if_neg (fun h => hr16 h.2)]))
                    clear hq hr16
                    unfold withW at hk2
                    go_wp2_with fail
                    refine hk2.out.mono ?_
                    rintro e w2 ⟨B, c2, rfl, hB, hb2⟩
                    have hI2 := Lib.hid (hI'.out.go hb2)
                    have cx2 := (hb2.cell (p := ⟨blk, off + k, none⟩) (cell_some_lt cxr)).trans cxr
                    obtain ⟨i0, i1, ifz⟩ := box2 hI2.out.blk
                    have hlt2 := Nat.lt_of_lt_of_le hltz hb2.size
                    clear hb2 hB

                    have hV := Lib.hid (show Calls Tryz.prog 22 #[.string x] w2 fun e w' => e = .returned (.tuple #[.agg #[.int .i64 0, .slice none 0 0, .slice none 0 0, .int .u64 0, .int .i64 0], .bool false]) ∧ Below w2.heap.size w2 w' from (refUnline_any x w2 hxs).mono fun e w' h => ⟨h.1 hul, h.2.2⟩)
                    go_wp2_with fail
                    refine hV.out.mono ?_
                    rintro e w4 ⟨rfl, hb4⟩
                    have hI4 := hI2.out.go hb4
                    have hlt4 := Nat.lt_of_lt_of_le hlt2 hb4.size
                    have hiI := blk_lt hI4.blk
                    obtain ⟨q0, q1, qf⟩ := box2 ((heap_alloc_old w4 (.cells #[.int .i64 0, .slice none 0 0, .slice none 0 0, .int .u64 0, .int .i64 0] 42) hiI).trans hI4.blk)
                    obtain ⟨z0, z1, z2, z3, z4, zf⟩ := box5 ((heap_alloc_old w4 (.cells #[.int .i64 0, .slice A1 l.length c1, .slice Ar regs.length cr, .int .u64 0, .int .i64 0] 42) hlt4).trans hI4.zero)
                    obtain ⟨j0, j1, j2, j3, j4, jf⟩ := box5 (heap_alloc_new w4 (.cells #[.int .i64 0, .slice A1 l.length c1, .slice Ar regs.length cr, .int .u64 0, .int .i64 0] 42))
                    have hI4' := Lib.hid hI4
                    have hAr4 := Lib.hid (show 0 < regs.length → ∃ g, Ar = some ⟨g, 0, none⟩ ∧ w1.heap.size + 1 ≤ g ∧ g < w4.heap.size ∧ ∀ i v, rs[i]? = some v → w4.cell? ⟨g, i, none⟩ = some v from by
                      intro hp0
                      obtain ⟨A', c', he, h⟩ := own_at hI4.own hI4.wregs.1
                      injection he with e1 e2 e3
                      subst e1
                      exact h hp0)
                    have hfq := Lib.hid (hI4.below.alloc hI4.below.size (.cells #[.int .i64 0, .slice A1 l.length c1, .slice Ar regs.length cr, .int .u64 0, .int .i64 0] 42))
                    clear hI4 hb4
                    go_wp2_with fail
                    obtain ⟨wq, hwq⟩ : ∃ wq, wq = w4.alloc (.cells #[.int .i64 0, .slice A1 l.length c1, .slice Ar regs.length cr, .int .u64 0, .int .i64 0] 42) := ⟨_, rfl⟩
                    have hsq : wq.heap.size = w4.heap.size + 1 := by rw [hwq]; simp
                    rw [← hwq] at z0 z1 z2 z3 z4 zf j0 j1 j2 j3 j4 jf hfq ⊢
                    have hwq' := Lib.hid hwq
                    clear hwq
                    go_region_with (go_at_call 90; refine (bit_any true wq.drew).mono ?_; rintro e wb ⟨rfl, rfl⟩)
                    all_goals (
                      go_wp2
                      refine bodyPost_ret (v := .tuple #[askVal ⟨0, l, regs, 0, 0⟩ A1 c1 Ar cr, .int .i64 k, .bool false]) (by simp [results, Tryz.results62, go_sem, askVal, z0, z1, z2, z3, z4, hw1.out, hw2.out, hw3.out]) rfl ?_
                      refine one_no ?_ (by omega) (by rw [hn'.out]; omega) hbad.out
                      have hfin := hfq.out
                      repeat (first | with_reducible exact hfin | with_reducible refine Below.alloc ?_ (by simp; omega) _ | with_reducible refine Below.setCell ?_ (by simp) _ | with_reducible refine Below.drew ?_))
                · have el2 : ¬ (l2.length : Int) ≤ 512 := by omega
                  have hbad := Lib.hid (next_no hrun'.out hx'.out (fun out => by unfold takeM; dsimp only; rw [hq]; dsimp only; rw [if_pos rfl, if_neg (fun h => hl2 h.1)]))
                  clear hq hl2
                  unfold withW at hk2
                  go_wp2_with fail
                  refine hk2.out.mono ?_
                  rintro e w2 ⟨B, c2, rfl, hB, hb2⟩
                  have hI2 := Lib.hid (hI'.out.go hb2)
                  have cx2 := (hb2.cell (p := ⟨blk, off + k, none⟩) (cell_some_lt cxr)).trans cxr
                  obtain ⟨i0, i1, ifz⟩ := box2 hI2.out.blk
                  have hlt2 := Nat.lt_of_lt_of_le hltz hb2.size
                  clear hb2 hB

                  have hV := Lib.hid (show Calls Tryz.prog 22 #[.string x] w2 fun e w' => e = .returned (.tuple #[.agg #[.int .i64 0, .slice none 0 0, .slice none 0 0, .int .u64 0, .int .i64 0], .bool false]) ∧ Below w2.heap.size w2 w' from (refUnline_any x w2 hxs).mono fun e w' h => ⟨h.1 hul, h.2.2⟩)
                  go_wp2_with fail
                  refine hV.out.mono ?_
                  rintro e w4 ⟨rfl, hb4⟩
                  have hI4 := hI2.out.go hb4
                  have hlt4 := Nat.lt_of_lt_of_le hlt2 hb4.size
                  have hiI := blk_lt hI4.blk
                  obtain ⟨q0, q1, qf⟩ := box2 ((heap_alloc_old w4 (.cells #[.int .i64 0, .slice none 0 0, .slice none 0 0, .int .u64 0, .int .i64 0] 42) hiI).trans hI4.blk)
                  obtain ⟨z0, z1, z2, z3, z4, zf⟩ := box5 ((heap_alloc_old w4 (.cells #[.int .i64 0, .slice A1 l.length c1, .slice Ar regs.length cr, .int .u64 0, .int .i64 0] 42) hlt4).trans hI4.zero)
                  obtain ⟨j0, j1, j2, j3, j4, jf⟩ := box5 (heap_alloc_new w4 (.cells #[.int .i64 0, .slice A1 l.length c1, .slice Ar regs.length cr, .int .u64 0, .int .i64 0] 42))
                  have hI4' := Lib.hid hI4
                  have hAr4 := Lib.hid (show 0 < regs.length → ∃ g, Ar = some ⟨g, 0, none⟩ ∧ w1.heap.size + 1 ≤ g ∧ g < w4.heap.size ∧ ∀ i v, rs[i]? = some v → w4.cell? ⟨g, i, none⟩ = some v from by
                    intro hp0
                    obtain ⟨A', c', he, h⟩ := own_at hI4.own hI4.wregs.1
                    injection he with e1 e2 e3
                    subst e1
                    exact h hp0)
                  have hfq := Lib.hid (hI4.below.alloc hI4.below.size (.cells #[.int .i64 0, .slice A1 l.length c1, .slice Ar regs.length cr, .int .u64 0, .int .i64 0] 42))
                  clear hI4 hb4
                  go_wp2_with fail
                  obtain ⟨wq, hwq⟩ : ∃ wq, wq = w4.alloc (.cells #[.int .i64 0, .slice A1 l.length c1, .slice Ar regs.length cr, .int .u64 0, .int .i64 0] 42) := ⟨_, rfl⟩
                  have hsq : wq.heap.size = w4.heap.size + 1 := by rw [hwq]; simp
                  rw [← hwq] at z0 z1 z2 z3 z4 zf j0 j1 j2 j3 j4 jf hfq ⊢
                  have hwq' := Lib.hid hwq
                  clear hwq
                  go_region_with (go_at_call 90; refine (bit_any true wq.drew).mono ?_; rintro e wb ⟨rfl, rfl⟩)
                  all_goals (
                    go_wp2
                    refine bodyPost_ret (v := .tuple #[askVal ⟨0, l, regs, 0, 0⟩ A1 c1 Ar cr, .int .i64 k, .bool false]) (by simp [results, Tryz.results62, go_sem, askVal, z0, z1, z2, z3, z4, hw1.out, hw2.out, hw3.out]) rfl ?_
                    refine one_no ?_ (by omega) (by rw [hn'.out]; omega) hbad.out
                    have hfin := hfq.out
                    repeat (first | with_reducible exact hfin | with_reducible refine Below.alloc ?_ (by simp; omega) _ | with_reducible refine Below.setCell ?_ (by simp) _ | with_reducible refine Below.drew ?_))
              · have hcw : (p2.toList == [119, 105, 116, 104]) = false := cmp_ne hp2
                cases hul : unlineM x with
                | none =>
                  have hbad := Lib.hid (next_no hrun'.out hx'.out (fun out => by unfold takeM; dsimp only; rw [hq]; dsimp only; rw [if_neg hp2, hul]))
                  clear hq hp2
                  go_wp2_with fail
                  refine hk2.out.mono ?_
                  rintro e w2 ⟨B, c2, rfl, hB, hb2⟩
                  have hI2 := Lib.hid (hI'.out.go hb2)
                  have cx2 := (hb2.cell (p := ⟨blk, off + k, none⟩) (cell_some_lt cxr)).trans cxr
                  obtain ⟨i0, i1, ifz⟩ := box2 hI2.out.blk
                  have hlt2 := Nat.lt_of_lt_of_le hltz hb2.size
                  clear hb2 hB

                  have hV := Lib.hid (show Calls Tryz.prog 22 #[.string x] w2 fun e w' => e = .returned (.tuple #[.agg #[.int .i64 0, .slice none 0 0, .slice none 0 0, .int .u64 0, .int .i64 0], .bool false]) ∧ Below w2.heap.size w2 w' from (refUnline_any x w2 hxs).mono fun e w' h => ⟨h.1 hul, h.2.2⟩)
                  go_wp2_with fail
                  refine hV.out.mono ?_
                  rintro e w4 ⟨rfl, hb4⟩
                  have hI4 := hI2.out.go hb4
                  have hlt4 := Nat.lt_of_lt_of_le hlt2 hb4.size
                  have hiI := blk_lt hI4.blk
                  obtain ⟨q0, q1, qf⟩ := box2 ((heap_alloc_old w4 (.cells #[.int .i64 0, .slice none 0 0, .slice none 0 0, .int .u64 0, .int .i64 0] 42) hiI).trans hI4.blk)
                  obtain ⟨z0, z1, z2, z3, z4, zf⟩ := box5 ((heap_alloc_old w4 (.cells #[.int .i64 0, .slice A1 l.length c1, .slice Ar regs.length cr, .int .u64 0, .int .i64 0] 42) hlt4).trans hI4.zero)
                  obtain ⟨j0, j1, j2, j3, j4, jf⟩ := box5 (heap_alloc_new w4 (.cells #[.int .i64 0, .slice A1 l.length c1, .slice Ar regs.length cr, .int .u64 0, .int .i64 0] 42))
                  have hI4' := Lib.hid hI4
                  have hAr4 := Lib.hid (show 0 < regs.length → ∃ g, Ar = some ⟨g, 0, none⟩ ∧ w1.heap.size + 1 ≤ g ∧ g < w4.heap.size ∧ ∀ i v, rs[i]? = some v → w4.cell? ⟨g, i, none⟩ = some v from by
                    intro hp0
                    obtain ⟨A', c', he, h⟩ := own_at hI4.own hI4.wregs.1
                    injection he with e1 e2 e3
                    subst e1
                    exact h hp0)
                  have hfq := Lib.hid (hI4.below.alloc hI4.below.size (.cells #[.int .i64 0, .slice A1 l.length c1, .slice Ar regs.length cr, .int .u64 0, .int .i64 0] 42))
                  clear hI4 hb4
                  go_wp2_with fail
                  obtain ⟨wq, hwq⟩ : ∃ wq, wq = w4.alloc (.cells #[.int .i64 0, .slice A1 l.length c1, .slice Ar regs.length cr, .int .u64 0, .int .i64 0] 42) := ⟨_, rfl⟩
                  have hsq : wq.heap.size = w4.heap.size + 1 := by rw [hwq]; simp
                  rw [← hwq] at z0 z1 z2 z3 z4 zf j0 j1 j2 j3 j4 jf hfq ⊢
                  have hwq' := Lib.hid hwq
                  clear hwq
                  go_region_with (go_at_call 90; refine (bit_any true wq.drew).mono ?_; rintro e wb ⟨rfl, rfl⟩)
                  all_goals (
                    go_wp2
                    refine bodyPost_ret (v := .tuple #[askVal ⟨0, l, regs, 0, 0⟩ A1 c1 Ar cr, .int .i64 k, .bool false]) (by simp [results, Tryz.results62, go_sem, askVal, z0, z1, z2, z3, z4, hw1.out, hw2.out, hw3.out]) rfl ?_
                    refine one_no ?_ (by omega) (by rw [hn'.out]; omega) hbad.out
                    have hfin := hfq.out
                    repeat (first | with_reducible exact hfin | with_reducible refine Below.alloc ?_ (by simp; omega) _ | with_reducible refine Below.setCell ?_ (by simp) _ | with_reducible refine Below.drew ?_))
                | some kv =>
                  obtain ⟨kk, st, fu⟩ := kv
                  have hgood := Lib.hid (next_ok (f := fun out => ⟨out ++ [⟨kk, l, regs, st, fu⟩], l, regs, false⟩) (by omega) hrun'.out hx'.out (fun out => by unfold takeM; dsimp only; rw [hq]; dsimp only; rw [if_neg hp2, hul]))
                  clear hq hp2
                  go_wp2_with fail
                  refine hk2.out.mono ?_
                  rintro e w2 ⟨B, c2, rfl, hB, hb2⟩
                  have hI2 := Lib.hid (hI'.out.go hb2)
                  have cx2 := (hb2.cell (p := ⟨blk, off + k, none⟩) (cell_some_lt cxr)).trans cxr
                  obtain ⟨i0, i1, ifz⟩ := box2 hI2.out.blk
                  have hlt2 := Nat.lt_of_lt_of_le hltz hb2.size
                  clear hb2 hB

                  have hV := Lib.hid (show Calls Tryz.prog 22 #[.string x] w2 fun e w' => e = .returned (.tuple #[.agg #[.int .i64 kk, .slice none 0 0, .slice none 0 0, .int .u64 st, .int .i64 fu], .bool true]) ∧ Below w2.heap.size w2 w' from (refUnline_any x w2 hxs).mono fun e w' h => ⟨h.2.1 _ _ _ hul, h.2.2⟩)
                  go_wp2_with fail
                  refine hV.out.mono ?_
                  rintro e w4 ⟨rfl, hb4⟩
                  have hI4 := hI2.out.go hb4
                  have hlt4 := Nat.lt_of_lt_of_le hlt2 hb4.size
                  have hiI := blk_lt hI4.blk
                  obtain ⟨q0, q1, qf⟩ := box2 ((heap_alloc_old w4 (.cells #[.int .i64 kk, .slice none 0 0, .slice none 0 0, .int .u64 st, .int .i64 fu] 42) hiI).trans hI4.blk)
                  obtain ⟨z0, z1, z2, z3, z4, zf⟩ := box5 ((heap_alloc_old w4 (.cells #[.int .i64 kk, .slice A1 l.length c1, .slice Ar regs.length cr, .int .u64 st, .int .i64 fu] 42) hlt4).trans hI4.zero)
                  obtain ⟨j0, j1, j2, j3, j4, jf⟩ := box5 (heap_alloc_new w4 (.cells #[.int .i64 kk, .slice A1 l.length c1, .slice Ar regs.length cr, .int .u64 st, .int .i64 fu] 42))
                  have hI4' := Lib.hid hI4
                  have hAr4 := Lib.hid (show 0 < regs.length → ∃ g, Ar = some ⟨g, 0, none⟩ ∧ w1.heap.size + 1 ≤ g ∧ g < w4.heap.size ∧ ∀ i v, rs[i]? = some v → w4.cell? ⟨g, i, none⟩ = some v from by
                    intro hp0
                    obtain ⟨A', c', he, h⟩ := own_at hI4.own hI4.wregs.1
                    injection he with e1 e2 e3
                    subst e1
                    exact h hp0)
                  have hfq := Lib.hid (hI4.below.alloc hI4.below.size (.cells #[.int .i64 kk, .slice A1 l.length c1, .slice Ar regs.length cr, .int .u64 st, .int .i64 fu] 42))
                  clear hI4 hb4
                  go_wp2_with fail
                  obtain ⟨wq, hwq⟩ : ∃ wq, wq = w4.alloc (.cells #[.int .i64 kk, .slice A1 l.length c1, .slice Ar regs.length cr, .int .u64 st, .int .i64 fu] 42) := ⟨_, rfl⟩
                  have hsq : wq.heap.size = w4.heap.size + 1 := by rw [hwq]; simp
                  rw [← hwq] at z0 z1 z2 z3 z4 zf j0 j1 j2 j3 j4 jf hfq ⊢
                  have hwq' := Lib.hid hwq
                  clear hwq
                  go_region_with (go_at_call 90; refine (bit_any false wq.drew).mono ?_; rintro e wb ⟨rfl, rfl⟩)
                  all_goals (
                    go_wp2
                    refine bodyPost_ret (v := .tuple #[askVal ⟨kk, l, regs, st, fu⟩ A1 c1 Ar cr, .int .i64 (k + 1 : Nat), .bool true]) (by simp [results, Tryz.results62, go_sem, askVal, z0, z1, z2, z3, z4, hw1.out, hw2.out, hw3.out]) rfl ?_
                    refine one_ok ?_ (by omega) (by rw [hn'.out]; omega) (hI4'.out.done hAr4.out (fun b hb hne => ?_) _ _ _) hgood.out
                    · have hfin := hfq.out
                      repeat (first | with_reducible exact hfin | with_reducible refine Below.alloc ?_ (by simp; omega) _ | with_reducible refine Below.setCell ?_ (by simp) _ | with_reducible refine Below.drew ?_)
                    · have e5 : ∀ (X : World), (X.drew).heap[b]? = X.heap[b]? := fun X => rfl
                      repeat (first | rw [set_other hne] | rw [e5])
                      rw [hwq'.out]
                      exact heap_alloc_old w4 _ hb)
      · have el : (64 : Int) < (l.length : Int) := by omega
        have hm := Lib.hid (first_no hx0'.out (fun out args regs => by unfold takeM; dsimp only; rw [hu]; dsimp only; rw [if_neg (fun h => hl h.2)]))
        clear hu hl hul
        unfold zAsk at hb0 hk
        unfold inW at hk
        go_enter Tryz.func62, Tryz.ntmps62
        go_wp2_with fail
        refine hk.out.mono ?_
        rintro e w1 ⟨A1, c1, rfl, hA1, hb1⟩
        obtain ⟨g0, g1, g2, g3, g4, gf⟩ := box5 (box_kept w _ hb1)
        have hsz1 := hb1.size
        have hsz2 : w.heap.size < w1.heap.size := by simp at hsz1; omega
        have hfin := Lib.hid (hb0.out.trans (hb1.mono hb0.out.size))
        clear hb1 hsz1 hA1
        go_wp2_with fail
        refine bodyPost_ret (v := .tuple #[.agg zAsk, .int .i64 k0, .bool false]) (by simp [results, Tryz.results62, go_sem, zAsk, g0, g1, g2, g3, g4]) rfl (one_zero ?_ (Nat.le_refl _) (by rw [hn'.out]; omega) hm.out)
        repeat (first | with_reducible exact hfin.out | with_reducible refine Below.alloc ?_ (by simp; omega) _ | with_reducible refine Below.setCell ?_ (by simp) _)
    · have hm := Lib.hid (first_no hx0'.out (fun out args regs => by unfold takeM; dsimp only; rw [hu]; dsimp only; rw [if_neg (fun h => hp h.1)]))
      have hcp : (p.toList == [105, 110]) = false := cmp_ne hp
      clear hu hul hp
      unfold zAsk at hb0 hk
      go_enter Tryz.func62, Tryz.ntmps62
      go_wp2_with fail
      refine hk.out.mono ?_
      rintro e w1 ⟨A1, c1, rfl, hA1, hb1⟩
      obtain ⟨g0, g1, g2, g3, g4, gf⟩ := box5 (box_kept w _ hb1)
      have hsz1 := hb1.size
      have hsz2 : w.heap.size < w1.heap.size := by simp at hsz1; omega
      have hfin := Lib.hid (hb0.out.trans (hb1.mono hb0.out.size))
      clear hb1 hsz1 hA1
      go_wp2_with fail
      refine bodyPost_ret (v := .tuple #[.agg zAsk, .int .i64 k0, .bool false]) (by simp [results, Tryz.results62, go_sem, zAsk, g0, g1, g2, g3, g4]) rfl (one_zero ?_ (Nat.le_refl _) (by rw [hn'.out]; omega) hm.out)
      repeat (first | with_reducible exact hfin.out | with_reducible refine Below.alloc ?_ (by simp; omega) _ | with_reducible refine Below.setCell ?_ (by simp) _)
end Go.Proofs.YtkbmckmlnphpmaaGreatDoor
