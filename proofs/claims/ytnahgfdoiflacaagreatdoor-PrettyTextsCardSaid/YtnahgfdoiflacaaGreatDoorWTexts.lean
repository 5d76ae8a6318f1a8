/- The walk of PrettyTexts. -/
import Derived.Test.YtnahgfdoiflacaaGreatDoorY
import Derived.Test.YtnahgfdoiflacaaGreatDoorCI
import Derived.Test.YtnahgfdoiflacaaGreatDoorDP
import Derived.Test.YtnahgfdoiflacaaGreatDoorED
import Derived.BigQuiet
set_option linter.unusedSimpArgs false
set_option linter.unusedVariables false
namespace Go.Proofs.YtnahgfdoiflacaaGreatDoor
open Go.RowKit Go.Lib Go.Shelf

theorem textM_false {p : Pg} (h : mayPg p = false) : (textM p).1 = ⟨#[]⟩ ∧ (textM p).2 = 2 := by unfold textM; rw [h]; exact ⟨rfl, rfl⟩
theorem textM_long {p : Pg} (h : mayPg p = true) (h2 : 65536 < (textP p).size) : (textM p).1 = ⟨#[]⟩ ∧ (textM p).2 = 3 := by
  unfold textM shortT shortN
  rw [if_pos h, if_neg (by omega), if_neg (by omega)]
  exact ⟨rfl, rfl⟩
theorem textM_ok {p : Pg} (h : mayPg p = true) (h2 : ¬ 65536 < (textP p).size) : (textM p).1 = textP p ∧ (textM p).2 = 0 := by
  unfold textM shortT shortN
  rw [if_pos h, if_pos (by omega), if_pos (by omega)]
  exact ⟨rfl, rfl⟩
set_option maxRecDepth 100000 in
set_option maxHeartbeats 16000000 in
theorem prettyTexts_any (p : Pg) (A B : Option Addr) (c d : Nat) (W : World) (hE : Env W) (hr : CellsAt 4 cellsR W p.rs A) (hf : FnsAt W p.fs B) (hl1 : p.rs.length ≤ 1000000000000000 ∧ p.fs.length ≤ 1000000000000000) (hrk : ∀ q ∈ p.rs, RegOk q) :
    Calls Tryz.prog 4 #[pgV p A c B d] W (BoolPost true W) := by
  have hlong := fun (W' : World) (hb : Below W.heap.size W W') => longP_any W p A B c d hr hf 5000 W' hb (by omega) hl1.1 hl1.2
  have hT := fun (hp : cntP p ≤ 5000) (W' : World) (hb : Below W.heap.size W W') => text19_any W hE p A B c d hr hf hrk W' hb (by omega)
  have hM := fun (hp : cntP p ≤ 5000) (W' : World) (hb : Below W.heap.size W W') => may20_any W p A B c d hr hf W' hb (by omega)
  have hRM := fun (hp : cntP p ≤ 5000) (W' : World) (hb : Below W.heap.size W W') => refMay21_any W p A B c d hr hf W' hb (by omega)
  have hRT := fun (hp : cntP p ≤ 5000) (hm : mayPg p = true) (W' : World) (hb : Below W.heap.size W W') => refText_any W hE p A B c d hr hf hrk W' hb (by omega) hm
  have hk := Lib.hid (fun (W2 : World) (hb : Below W.heap.size W W2) => known_any W2 (hE.below hb))
  have hn := Lib.hid (fun (n : Int) W' => num16_any n W')
  have hF := textM_false (p := p)
  have hL := textM_long (p := p)
  have hO := textM_ok (p := p)
  unfold TextPost at hT
  unfold pgV at hlong hT hM hRM hRT ⊢
  obtain ⟨t, ht⟩ : ∃ t, mayPg p = t := ⟨_, rfl⟩
  rw [ht] at hM hRM hRT hF hL hO
  generalize (textM p).1 = T at hT hF hL hO
  generalize (textM p).2 = N at hT hF hL hO
  generalize textP p = S at hRT hL hO
  obtain ⟨n1, hn1⟩ : ∃ n, p.rs.length = n := ⟨_, rfl⟩
  obtain ⟨n2, hn2⟩ : ∃ n, p.fs.length = n := ⟨_, rfl⟩
  rw [hn1, hn2] at hlong hT hM hRM hRT ⊢
  have hlong := Lib.hid hlong
  have hT := Lib.hid hT
  have hM := Lib.hid hM
  have hRM := Lib.hid hRM
  have hRT := Lib.hid hRT
  have hF := Lib.hid hF
  have hL := Lib.hid hL
  have hO := Lib.hid hO
  obtain ⟨W1, hW1⟩ : ∃ W1, W.alloc (.cells #[.slice A n1 c, .slice B n2 d] 39) = W1 := ⟨_, rfl⟩
  have hb1 : Below W.heap.size W W1 := by rw [← hW1]; exact (Below.refl _ W).alloc (Nat.le_refl _) _
  have hX : W1.heap[W.heap.size]? = some (.cells #[.slice A n1 c, .slice B n2 d] 39 (0, 0)) := by rw [← hW1]; exact heap_alloc_new _ _
  obtain ⟨a0, a1⟩ := box2 hX
  have hX := Lib.hid hX
  have hb1 := Lib.hid hb1
  have hW1' := Lib.hid hW1
  have up := Lib.hid fun (W' : World) (h : Below W1.heap.size W1 W') => (Below.next hb1.out h : Below W.heap.size W W')
  clear hr hf hrk hE hn1 hn2 ht hl1 hW1
  go_enter Tryz.func4, Tryz.ntmps4
  go_wp2_with fail
  rw [hW1'.out]
  go_wp2_with fail
  refine (hlong.out _ hb1.out).mono ?_
  rintro e w3 ⟨b1, rfl, hq1, hb3⟩
  have hx1q := Lib.hid hq1
  clear hq1
  have c3 := Lib.hid hb3
  clear a0 a1 hb3
  obtain ⟨a0, a1⟩ := box2 ((c3.out.block _ (blk_lt hX.out)).trans hX.out)
  cases b1
  rotate_left
  · as_aux_lemma =>
      go_wp2_with fail
      refine (hk.out _ (up.out _ c3.out)).mono ?_
      rintro e wk ⟨rfl, hbk⟩
      have hbk := Lib.hid (Below.next (up.out _ c3.out) hbk)
      go_wp2
      go_ret
      exact ⟨rfl, hbk.out⟩
  have hq1 := Lib.hid (show cntP p ≤ 5000 by have h := hx1q.out; simpa using h)
  clear hx1q
  go_wp2_with fail
  refine (hT.out hq1.out _ (up.out _ c3.out)).mono ?_
  rintro e w4 ⟨rfl, hb4⟩
  have c4 := Lib.hid (Below.next c3.out hb4)
  clear a0 a1 hb4
  obtain ⟨a0, a1⟩ := box2 ((c4.out.block _ (blk_lt hX.out)).trans hX.out)
  go_upto_region 4 with fail
  have a0 := Sub.cell a0
  have a1 := Sub.cell a1
  have sM := Lib.hid (fun s : Sub w4 => hM.out hq1.out s.val (up.out _ (Below.next c4.out s.property)))
  have sR := Lib.hid (fun s : Sub w4 => hRM.out hq1.out s.val (up.out _ (Below.next c4.out s.property)))
  have htt : (t != t) = false := by simp
  cases t
  · as_aux_lemma =>
      refine wp_region_below (by kernel_rfl) (by kernel_rfl) ?_
      repeat (go_big_quiet_step (first | (go_at_call 20; with_reducible exact Sub.call (sM.out _)) | (go_at_call 21; with_reducible exact Sub.call (sR.out _))))
      refine wpQuiet_nil ?_
      rintro w5 ⟨s5, hs5⟩
      have hb5 := hs5 ▸ s5.property
      have c5 := Lib.hid (Below.next c4.out hb5)
      clear hs5 s5 a0 a1 hb5
      obtain ⟨a0, a1⟩ := box2 ((c5.out.block _ (blk_lt hX.out)).trans hX.out)
      obtain ⟨rfl, rfl⟩ := hF.out rfl
      go_wp2_with fail
      refine (hRM.out hq1.out _ (up.out _ c5.out)).mono ?_
      rintro e w6 ⟨rfl, hb6⟩
      have c6 := Lib.hid (Below.next c5.out hb6)
      clear hb6
      go_wp2_with fail
      refine (hn.out _ _).mono ?_
      rintro e w7 ⟨rfl, rfl⟩
      go_wp2_with fail
      refine (hk.out _ (up.out _ c6.out)).mono ?_
      rintro e wk ⟨rfl, hbk⟩
      have hbk := Lib.hid (Below.next (up.out _ c6.out) hbk)
      go_wp2
      go_ret
      exact ⟨rfl, hbk.out⟩
  · as_aux_lemma =>
      refine wp_region_below (by kernel_rfl) (by kernel_rfl) ?_
      repeat (go_big_quiet_step (first | (go_at_call 20; with_reducible exact Sub.call (sM.out _)) | (go_at_call 21; with_reducible exact Sub.call (sR.out _))))
      refine wpQuiet_nil ?_
      rintro w5 ⟨s5, hs5⟩
      have hb5 := hs5 ▸ s5.property
      have c5 := Lib.hid (Below.next c4.out hb5)
      clear hs5 s5 a0 a1 hb5
      obtain ⟨a0, a1⟩ := box2 ((c5.out.block _ (blk_lt hX.out)).trans hX.out)
      go_wp2_with fail
      refine (hRM.out hq1.out _ (up.out _ c5.out)).mono ?_
      rintro e w6 ⟨rfl, hb6⟩
      have c6 := Lib.hid (Below.next c5.out hb6)
      clear hb6 a0 a1
      obtain ⟨a0, a1⟩ := box2 ((c6.out.block _ (blk_lt hX.out)).trans hX.out)
      go_wp2_with fail
      refine (hRT.out hq1.out trivial _ (up.out _ c6.out)).mono ?_
      rintro e w7 ⟨rfl, hb7⟩
      have c7 := Lib.hid (Below.next c6.out hb7)
      clear hb7 a0 a1
      by_cases hS : 65536 < S.size
      · have e0 : (65536 : Int) < (S.size : Int) := by omega
        obtain ⟨rfl, rfl⟩ := hL.out trivial hS
        clear hS
        go_wp2_with fail
        refine (hn.out _ _).mono ?_
        rintro e w8 ⟨rfl, rfl⟩
        go_wp2_with fail
        refine (hk.out _ (up.out _ c7.out)).mono ?_
        rintro e wk ⟨rfl, hbk⟩
        have hbk := Lib.hid (Below.next (up.out _ c7.out) hbk)
        go_wp2
        go_ret
        exact ⟨rfl, hbk.out⟩
      · have e0 : ¬ (65536 : Int) < (S.size : Int) := by omega
        obtain ⟨rfl, rfl⟩ := hO.out trivial hS
        clear hS
        go_wp2_with fail
        refine (hn.out _ _).mono ?_
        rintro e w8 ⟨rfl, rfl⟩
        go_wp2_with fail
        refine (hk.out _ (up.out _ c7.out)).mono ?_
        rintro e wk ⟨rfl, hbk⟩
        have hbk := Lib.hid (Below.next (up.out _ c7.out) hbk)
        go_wp2
        go_ret
        exact ⟨rfl, hbk.out⟩
end Go.Proofs.YtnahgfdoiflacaaGreatDoor
