/- The walk of PrettyExprs. -/
import Derived.Test.YtnahgfdoiflacaaGreatDoorY
set_option linter.unusedSimpArgs false
set_option linter.unusedVariables false
namespace Go.Proofs.YtnahgfdoiflacaaGreatDoor
open Go.RowKit Go.Lib Go.Shelf

theorem exprT_false {e : Ex} (h : mayX e = false) : exprT e = ⟨#[]⟩ ∧ exprN e = 2 := by unfold exprT exprN; rw [h]; exact ⟨rfl, rfl⟩
theorem exprT_long {e : Ex} (h : mayX e = true) (h2 : 65536 < (txS e).size) : exprT e = ⟨#[]⟩ ∧ exprN e = 3 := by
  unfold exprT exprN shortT shortN
  rw [h, if_pos rfl, if_pos rfl, if_neg (by omega), if_neg (by omega)]
  exact ⟨rfl, rfl⟩
theorem exprT_ok {e : Ex} (h : mayX e = true) (h2 : ¬ 65536 < (txS e).size) : exprT e = txS e ∧ exprN e = 0 := by
  unfold exprT exprN shortT shortN
  rw [h, if_pos rfl, if_pos rfl, if_pos (by omega), if_pos (by omega)]
  exact ⟨rfl, rfl⟩
set_option maxRecDepth 100000 in
set_option maxHeartbeats 8000000 in
theorem prettyExprs_any (e : Ex) (A : Option Addr) (c : Nat) (W : World) (hE : Env W) (h : ExAt W e A) (hu : e.u < 18446744073709551616) : Calls Tryz.prog 3 #[exV e A c] W (BoolPost true W) := by
  obtain ⟨W1, hW1⟩ : ∃ W1, W.alloc (.cells #[.int .i64 e.op, .int .u64 e.u, .string e.nm, .slice A e.ars.length c] 26) = W1 := ⟨_, rfl⟩
  have hb1 : Below W.heap.size W W1 := by rw [← hW1]; exact (Below.refl _ W).alloc (Nat.le_refl _) _
  have hx1 : W1.heap[W.heap.size]? = some (.cells #[.int .i64 e.op, .int .u64 e.u, .string e.nm, .slice A e.ars.length c] 26 (0, 0)) := by rw [← hW1]; exact heap_alloc_new _ _
  have hlong := long_any e A c 5000 W1 (h.keep hb1) (by omega)
  have hk := Lib.hid (fun (W2 : World) (hb : Below W.heap.size W W2) => known_any W2 (hE.below hb))
  have cells : ∀ W2 : World, Below W1.heap.size W1 W2 → W2.cell? ⟨W.heap.size, 0, none⟩ = some (.int .i64 e.op) ∧ W2.cell? ⟨W.heap.size, 1, none⟩ = some (.int .u64 e.u) ∧ W2.cell? ⟨W.heap.size, 2, none⟩ = some (.string e.nm) ∧ W2.cell? ⟨W.heap.size, 3, none⟩ = some (.slice A e.ars.length c) := fun W2 hb => by
    have h := (hb.block W.heap.size (blk_lt hx1)).trans hx1
    exact ⟨by rw [blk_cell h]; rfl, by rw [blk_cell h]; rfl, by rw [blk_cell h]; rfl, by rw [blk_cell h]; rfl⟩
  have cells := Lib.hid cells
  have hb1' := Lib.hid hb1
  obtain ⟨g0, g1, g2, g3⟩ := cells.out W1 (Below.refl _ _)
  by_cases hq : 5000 < cntE e
  · rw [decide_eq_true hq] at hlong
    unfold exV at hlong ⊢
    have hlong := Lib.hid hlong
    clear hx1 hb1 hq h hE hu
    go_enter Tryz.func3, Tryz.ntmps3
    go_wp2_with fail
    refine hlong.out.mono ?_
    rintro e w2 ⟨rfl, hb2⟩
    have hb2 := Lib.hid (Below.next hb1'.out hb2)
    go_wp2_with fail
    refine (hk.out _ hb2.out).mono ?_
    rintro e w3 ⟨rfl, hb3⟩
    have hb3 := Lib.hid (Below.next hb2.out hb3)
    go_wp2
    go_ret
    exact ⟨rfl, hb3.out⟩
  · rw [decide_eq_false hq] at hlong
    have hq9 : cntE e ≤ 9000 := by omega
    have hx := Lib.hid (fun (W2 : World) (hb : Below W.heap.size W W2) => exprX_any e A c W2 (hE.below hb) (h.keep hb) hq9 hu)
    have hd := Lib.hid (fun (W2 : World) (hb : Below W.heap.size W W2) => depth_any W e A h hq9 c W2 hb)
    have hrd := Lib.hid (fun (W2 : World) (hb : Below W.heap.size W W2) => refDepth_any W e A h hq9 c W2 hb)
    have hrm := Lib.hid (fun (W2 : World) (hb : Below W.heap.size W W2) => refMayX_any e A c W2 (h.keep hb) hq9)
    have hre := Lib.hid (fun (W2 : World) (hb : Below W.heap.size W W2) (hm : mayE nameB e = true) => refExpr_any W hE e A h hq9 hm hu c W2 hb)
    have hn := Lib.hid (fun (n : Int) W' => num16_any n W')
    have hmm : mayX e = true → mayE nameB e = true := fun h => by unfold mayX at h; rw [Bool.and_eq_true] at h; exact h.2
    have hmm := Lib.hid hmm
    have hF := Lib.hid (exprT_false (e := e))
    have hL := Lib.hid (exprT_long (e := e))
    have hO := Lib.hid (exprT_ok (e := e))
    obtain ⟨m, hm⟩ : ∃ m, mayX e = m := ⟨_, rfl⟩
    rw [hm] at hrm hF hL hO hmm
    obtain ⟨d, hdd⟩ : ∃ d, depE e = d := ⟨_, rfl⟩
    rw [hdd] at hd hrd
    generalize exprT e = T at hx hF hL hO
    generalize exprN e = N at hx hF hL hO
    generalize txS e = S at hre hL hO
    unfold exV at hlong hx hd hrd hrm hre ⊢
    have hlong := Lib.hid hlong
    have hW1' := Lib.hid hW1
    clear hx1 hb1 hq h hE hu hm hdd hq9 hW1
    go_enter Tryz.func3, Tryz.ntmps3
    go_wp2_with fail
    rw [hW1'.out]
    go_wp2_with fail
    refine hlong.out.mono ?_
    rintro r w2 ⟨rfl, hb2⟩
    have c2 := Lib.hid hb2
    have hb2 := Lib.hid (Below.next hb1'.out hb2)
    clear g0 g1 g2 g3
    obtain ⟨g0, g1, g2, g3⟩ := cells.out _ c2.out
    go_wp2_with fail
    refine (hx.out _ hb2.out).mono ?_
    rintro r w3 ⟨rfl, hb3⟩
    have c3 := Lib.hid (Below.next c2.out hb3)
    have hb3 := Lib.hid (Below.next hb2.out hb3)
    clear g0 g1 g2 g3
    obtain ⟨g0, g1, g2, g3⟩ := cells.out _ c3.out
    have g0 := Sub.cell g0
    have g1 := Sub.cell g1
    have g2 := Sub.cell g2
    have g3 := Sub.cell g3
    have sd := Lib.hid (fun s : Sub w3 => hd.out s.val (Below.next hb3.out s.property))
    have srd := Lib.hid (fun s : Sub w3 => hrd.out s.val (Below.next hb3.out s.property))
    go_wp2_with fail
    refine wp_region_below (by kernel_rfl) (by kernel_rfl) ?_
    repeat (go_big_quiet_step (first | (go_at_call 13; with_reducible exact Sub.call (sd.out _)) | (go_at_call 14; with_reducible exact Sub.call (srd.out _))))
    refine wpQuiet_nil ?_
    rintro w4 ⟨s4, hs4⟩
    have hb4 : Below w3.heap.size w3 w4 := hs4 ▸ s4.property
    clear hs4 s4 g0 g1 g2 g3
    have c4 := Lib.hid (Below.next c3.out hb4)
    have hb4 := Lib.hid (Below.next hb3.out hb4)
    obtain ⟨g0, g1, g2, g3⟩ := cells.out _ c4.out
    go_wp2_with fail
    refine (hrm.out _ hb4.out).mono ?_
    rintro r w5 ⟨rfl, hb5⟩
    have c5 := Lib.hid (Below.next c4.out hb5)
    have hb5 := Lib.hid (Below.next hb4.out hb5)
    clear g0 g1 g2 g3
    obtain ⟨g0, g1, g2, g3⟩ := cells.out _ c5.out
    cases m
    · obtain ⟨rfl, rfl⟩ := hF.out rfl
      go_wp2_with fail
      refine (hn.out _ _).mono ?_
      rintro r w6 ⟨rfl, rfl⟩
      go_wp2_with fail
      refine (hk.out _ hb5.out).mono ?_
      rintro r w7 ⟨rfl, hb7⟩
      have hb7 := Lib.hid (Below.next hb5.out hb7)
      go_wp2
      go_ret
      exact ⟨rfl, hb7.out⟩
    · go_wp2_with fail
      refine (hre.out _ hb5.out (hmm.out trivial)).mono ?_
      rintro r w6 ⟨rfl, hb6⟩
      have hb6 := Lib.hid (Below.next hb5.out hb6)
      by_cases hS : 65536 < S.size
      · have e0 : (65536 : Int) < (S.size : Int) := by omega
        obtain ⟨rfl, rfl⟩ := hL.out trivial hS
        clear hS
        go_wp2_with fail
        refine (hn.out _ _).mono ?_
        rintro r w7 ⟨rfl, rfl⟩
        go_wp2_with fail
        refine (hk.out _ hb6.out).mono ?_
        rintro r w7 ⟨rfl, hb7⟩
        have hb7 := Lib.hid (Below.next hb6.out hb7)
        go_wp2
        go_ret
        exact ⟨rfl, hb7.out⟩
      · have e0 : ¬ (65536 : Int) < (S.size : Int) := by omega
        obtain ⟨rfl, rfl⟩ := hO.out trivial hS
        clear hS
        go_wp2_with fail
        refine (hn.out _ _).mono ?_
        rintro r w7 ⟨rfl, rfl⟩
        go_wp2_with fail
        refine (hk.out _ hb6.out).mono ?_
        rintro r w7 ⟨rfl, hb7⟩
        have hb7 := Lib.hid (Below.next hb6.out hb7)
        go_wp2
        go_ret
        exact ⟨rfl, hb7.out⟩
end Go.Proofs.YtnahgfdoiflacaaGreatDoor
