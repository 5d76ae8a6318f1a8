/- The reference's reading of an address. -/
import Derived.Test.YtmimmnjdgpdjlaaGreatDoorDC
set_option linter.unusedSimpArgs false
set_option linter.unusedVariables false
namespace Go.Proofs.YtmimmnjdgpdjlaaGreatDoor
open Go.RowKit Go.Lib Go.Shelf

theorem cut_le (c : UInt8) (s : ByteArray) (hs : s.size ≤ 2000000) : (bt (cutL c s.data.toList).1).size ≤ 2000000 ∧ (bt (cutL c s.data.toList).2).size ≤ 2000000 := by
  have h := cut_len c s.data.toList
  rw [size_list] at h
  rw [bt_size, bt_size]
  omega
theorem empty_bt (l : List UInt8) : (bt l).toList.isEmpty = l.isEmpty := by rw [ByteArray.toList_eq]; rfl
theorem set5b {W : World} {b : Nat} {t : TypeId} {c0 c1 c2 c3 c4 : Value} (h : W.heap[b]? = some (.cells #[c0, c1, c2, c3, c4] t (0, 0))) (v0 v2 : Value) : ((W.setCell ⟨b, 2, none⟩ v2).setCell ⟨b, 0, none⟩ v0).heap[b]? = some (.cells #[v0, c1, v2, c3, c4] t (0, 0)) := by
  rw [heap_setCell_same _ _ _ _ _ _ (heap_setCell_same _ _ _ _ _ _ h)]
  rfl
theorem set5x {W : World} {b : Nat} {t : TypeId} {c0 c1 c2 c3 c4 : Value} (h : W.heap[b]? = some (.cells #[c0, c1, c2, c3, c4] t (0, 0))) (v1 v3 : Value) : ((W.setCell ⟨b, 3, none⟩ v3).setCell ⟨b, 1, none⟩ v1).heap[b]? = some (.cells #[c0, v1, c2, v3, c4] t (0, 0)) := by
  rw [heap_setCell_same _ _ _ _ _ _ (heap_setCell_same _ _ _ _ _ _ h)]
  rfl
theorem set_oth {W : World} {b b' o : Nat} {x : Obj} {v : Value} (h : W.heap[b]? = some x) (hne : b ≠ b') : (W.setCell ⟨b', o, none⟩ v).heap[b]? = some x := (Go.Deep.blk_setCell_other _ _ _ _ hne).trans h
theorem below_set5 {w W : World} {b : Nat} {v0 v1 v2 v3 v4 : Value} (h : Below w.heap.size w W) (hb : w.heap.size ≤ b) : Below w.heap.size w (((((W.setCell ⟨b, 0, none⟩ v0).setCell ⟨b, 1, none⟩ v1).setCell ⟨b, 2, none⟩ v2).setCell ⟨b, 3, none⟩ v3).setCell ⟨b, 4, none⟩ v4) :=
  ((((h.setCell (p := ⟨b, 0, none⟩) hb _).setCell (p := ⟨b, 1, none⟩) hb _).setCell (p := ⟨b, 2, none⟩) hb _).setCell (p := ⟨b, 3, none⟩) hb _).setCell (p := ⟨b, 4, none⟩) hb _
set_option maxRecDepth 100000 in
set_option maxHeartbeats 8000000 in
theorem unaddr92_any (s : ByteArray) (w : World) (hs : s.size ≤ 2000000) : Calls Tryz.prog 92 #[.string s] w fun e w' => e = .returned (AdV (unaddrR s.data.toList)) ∧ Below w.heap.size w w' := by
  obtain ⟨l1, hl1⟩ : ∃ l1, (cutL 40 s.data.toList).1 = l1 := ⟨_, rfl⟩
  obtain ⟨l2, hl2⟩ : ∃ l2, (cutL 40 s.data.toList).2 = l2 := ⟨_, rfl⟩
  have z1 := cut_le 40 s hs
  have k1 := fun W => cut42_any s 40 40 rfl W hs
  rw [hl1, hl2] at k1 z1
  have k2 := fun W => signed90_any (bt l1) W z1.1
  rw [bt_list] at k2
  obtain ⟨l3, hl3⟩ : ∃ l3, (cutL 41 l2).1 = l3 := ⟨_, rfl⟩
  have z3 := cut_le 41 (bt l2) z1.2
  have k3 := fun W => cut42_any (bt l2) 41 41 rfl W z1.2
  rw [bt_list, hl3] at k3 z3
  obtain ⟨l4, hl4⟩ : ∃ l4, (cutL 44 l3).1 = l4 := ⟨_, rfl⟩
  obtain ⟨l5, hl5⟩ : ∃ l5, (cutL 44 l3).2 = l5 := ⟨_, rfl⟩
  have z4 := cut_le 44 (bt l3) z3.1
  have k4 := fun W => cut42_any (bt l3) 44 44 rfl W z3.1
  rw [bt_list, hl4, hl5] at k4 z4
  have k5 := fun W => unreg89_any (bt l4) W z4.1
  rw [bt_list] at k5
  have z6 := cut_le 44 (bt l5) z4.2
  have k6 := fun W => cut42_any (bt l5) 44 44 rfl W z4.2
  obtain ⟨l6, hl6⟩ : ∃ l6, (cutL 44 l5).1 = l6 := ⟨_, rfl⟩
  rw [bt_list, hl6] at k6 z6
  have k7 := fun W => unreg89_any (bt l6) W z6.1
  rw [bt_list] at k7
  obtain ⟨u, hu⟩ : ∃ u, numP l1 = u := ⟨_, rfl⟩
  have hul : u < 18446744073709551616 := by rw [← hu]; exact numP_lt l1
  obtain ⟨sg, hsg⟩ : ∃ sg, sgn u = sg := ⟨_, rfl⟩
  have hwrap : IntKind.wrap .i64 (u : Int) = sg := by rw [wrap_sgn u hul, hsg]
  have hA : unaddrR s.data.toList = ⟨if l4 = [] then 0 else unregR l4, if l5 = [] then 0 else unregR l6, !l4.isEmpty, !l5.isEmpty, sg⟩ := by
    unfold unaddrR
    dsimp only
    rw [hl1, hl2, hl3, hl4, hl5, hl6, hu, hsg]
  have he4 := empty_bt l4
  have he5 := empty_bt l5
  rw [hA]
  rw [hu] at k2
  obtain ⟨rb, hrb⟩ : ∃ rb, unregR l4 = rb := ⟨_, rfl⟩
  obtain ⟨rx, hrx⟩ : ∃ rx, unregR l6 = rx := ⟨_, rfl⟩
  rw [hrb] at k5 ⊢
  rw [hrx] at k7 ⊢
  obtain ⟨D, hD⟩ : ∃ D, bt l1 = D := ⟨_, rfl⟩
  obtain ⟨E, hEE⟩ : ∃ D, bt l2 = D := ⟨_, rfl⟩
  obtain ⟨I, hI⟩ : ∃ D, bt l3 = D := ⟨_, rfl⟩
  obtain ⟨X, hX⟩ : ∃ D, bt (cutL 41 l2).2 = D := ⟨_, rfl⟩
  obtain ⟨B, hB⟩ : ∃ D, bt l4 = D := ⟨_, rfl⟩
  obtain ⟨J, hJ⟩ : ∃ D, bt l5 = D := ⟨_, rfl⟩
  obtain ⟨G, hG⟩ : ∃ D, bt l6 = D := ⟨_, rfl⟩
  obtain ⟨Y, hY⟩ : ∃ D, bt (cutL 44 l5).2 = D := ⟨_, rfl⟩
  rw [hD, hEE] at k1
  rw [hD] at k2
  rw [hEE, hI, hX] at k3
  rw [hI, hB, hJ] at k4
  rw [hB] at k5 he4
  rw [hJ, hG, hY] at k6
  rw [hG] at k7
  rw [hJ] at he5
  obtain ⟨W1, hW1⟩ : ∃ W1, w.alloc (.cells #[.int .i64 0, .int .i64 0, .bool false, .bool false, .int .i64 0] 30) = W1 := ⟨_, rfl⟩
  have hb1 := Lib.hid (show Below w.heap.size w W1 by rw [← hW1]; exact below_new w _)
  have hx := Lib.hid (show W1.heap[w.heap.size]? = some (.cells #[.int .i64 0, .int .i64 0, .bool false, .bool false, .int .i64 0] 30 (0, 0)) from by rw [← hW1]; exact heap_alloc_new _ _)
  have hW1' := Lib.hid hW1
  have hbw := hb1
  have k1 := Lib.hid k1
  have k2 := Lib.hid k2
  have k3 := Lib.hid k3
  have k4 := Lib.hid k4
  have k5 := Lib.hid k5
  have k6 := Lib.hid k6
  have k7 := Lib.hid k7
  clear z1 z3 z4 z6 hl1 hl2 hl3 hl4 hl5 hl6 hu hsg hul hA hrb hrx hD hEE hI hX hB hJ hG hY hW1 hb1 hs
  by_cases h4 : l4 = []
  · by_cases h5e : l5 = []
    · have hr4 := Lib.hid (show (if l4 = [] then (0 : Int) else rb) = 0 ∧ (!l4.isEmpty) = false from by subst h4; simp)
      have hz4 : B.toList.isEmpty = true := by rw [he4, h4]; rfl
      have hr5 := Lib.hid (show (if l5 = [] then (0 : Int) else rx) = 0 ∧ (!l5.isEmpty) = false from by subst h5e; simp)
      have hz5 : J.toList.isEmpty = true := by rw [he5, h5e]; rfl
      clear h4 h5e he4 he5
      obtain ⟨P, hP⟩ : ∃ P : Ad, (⟨if l4 = [] then 0 else rb, if l5 = [] then 0 else rx, !l4.isEmpty, !l5.isEmpty, sg⟩ : Ad) = P := ⟨_, rfl⟩
      rw [hP]
      have hP := Lib.hid (show P = ⟨0, 0, false, false, sg⟩ from by rw [← hP, hr4.out.1, hr5.out.1, hr4.out.2, hr5.out.2])
      clear hr4 hr5
      go_enter Tryz.func92, Tryz.ntmps92
      go_wp2_with fail
      rw [hW1'.out]
      refine (k1.out _).mono ?_
      rintro e w2 ⟨rfl, hb2⟩
      have hx := Lib.hid ((hb2.block _ (blk_lt hx.out)).trans hx.out)
      have hbw := Lib.hid (Below.next hbw.out hb2)
      clear hb2
      go_wp2_with fail
      refine (k2.out _).mono ?_
      rintro e w3 ⟨rfl, rfl⟩
      obtain ⟨W4, hW4⟩ : ∃ W4, w2.alloc (.cells #[.int .i64 0, .int .i64 0, .bool false, .bool false, .int .i64 sg] 30) = W4 := ⟨_, rfl⟩
      have hb4 : Below w2.heap.size w2 W4 := by rw [← hW4]; exact below_new _ _
      have h5 := Lib.hid (show W4.heap[w2.heap.size]? = some (.cells #[.int .i64 0, .int .i64 0, .bool false, .bool false, .int .i64 sg] 30 (0, 0)) from by rw [← hW4]; exact heap_alloc_new _ _)
      have hlt := Lib.hid (show w.heap.size < w2.heap.size from blk_lt hx.out)
      have hx := Lib.hid ((hb4.block _ (blk_lt hx.out)).trans hx.out)
      have hbw := Lib.hid (Below.next hbw.out hb4)
      have hW4' := Lib.hid hW4
      clear hb4 hW4
      go_wp2_with fail
      rw [hW4'.out]
      obtain ⟨b5, hb5⟩ : ∃ b5, w2.heap.size = b5 := ⟨_, rfl⟩
      rw [hb5] at h5 hlt ⊢
      clear hb5
      refine (k3.out _).mono ?_
      rintro e w5 ⟨rfl, hb5⟩
      have hx := Lib.hid ((hb5.block _ (blk_lt hx.out)).trans hx.out)
      have hbw := Lib.hid (Below.next hbw.out hb5)
      have h5 := Lib.hid ((hb5.block _ (blk_lt h5.out)).trans h5.out)
      clear hb5
      go_wp2_with fail
      refine (k4.out _).mono ?_
      rintro e w6 ⟨rfl, hb6⟩
      have hx := Lib.hid ((hb6.block _ (blk_lt hx.out)).trans hx.out)
      have hbw := Lib.hid (Below.next hbw.out hb6)
      have h5 := Lib.hid ((hb6.block _ (blk_lt h5.out)).trans h5.out)
      clear hb6
      obtain ⟨q0, q1, q2, q3, q4⟩ := box5 h5.out
      obtain ⟨p0, p1, p2, p3, p4⟩ := box5 hx.out
      have hfx := frz hx.out
      have hfz := frz h5.out
      have hne1 : ¬ w.heap.size = b5 := by have := hlt.out; omega
      have hne2 : ¬ b5 = w.heap.size := by have := hlt.out; omega
      go_wp2_with fail
      refine bodyPost_ret (v := AdV P) ?_ rfl ⟨rfl, below_set5 hbw.out (Nat.le_refl _)⟩
      obtain ⟨z0, z1, z2, z3, z4⟩ := box5 (set5_cells hx.out (.int .i64 0) (.int .i64 0) (.bool false) (.bool false) (.int .i64 sg))
      rw [hP.out]
      simp [results, Tryz.f92, go_sem, z0, z1, z2, z3, z4, AdV, adV]
    · have hr4 := Lib.hid (show (if l4 = [] then (0 : Int) else rb) = 0 ∧ (!l4.isEmpty) = false from by subst h4; simp)
      have hz4 : B.toList.isEmpty = true := by rw [he4, h4]; rfl
      have hr5 := Lib.hid (show (if l5 = [] then (0 : Int) else rx) = rx ∧ (!l5.isEmpty) = true from by rw [if_neg h5e]; simp [h5e])
      have hz5 : J.toList.isEmpty = false := by rw [he5]; simp [h5e]
      clear h4 h5e he4 he5
      obtain ⟨P, hP⟩ : ∃ P : Ad, (⟨if l4 = [] then 0 else rb, if l5 = [] then 0 else rx, !l4.isEmpty, !l5.isEmpty, sg⟩ : Ad) = P := ⟨_, rfl⟩
      rw [hP]
      have hP := Lib.hid (show P = ⟨0, rx, false, true, sg⟩ from by rw [← hP, hr4.out.1, hr5.out.1, hr4.out.2, hr5.out.2])
      clear hr4 hr5
      go_enter Tryz.func92, Tryz.ntmps92
      go_wp2_with fail
      rw [hW1'.out]
      refine (k1.out _).mono ?_
      rintro e w2 ⟨rfl, hb2⟩
      have hx := Lib.hid ((hb2.block _ (blk_lt hx.out)).trans hx.out)
      have hbw := Lib.hid (Below.next hbw.out hb2)
      clear hb2
      go_wp2_with fail
      refine (k2.out _).mono ?_
      rintro e w3 ⟨rfl, rfl⟩
      obtain ⟨W4, hW4⟩ : ∃ W4, w2.alloc (.cells #[.int .i64 0, .int .i64 0, .bool false, .bool false, .int .i64 sg] 30) = W4 := ⟨_, rfl⟩
      have hb4 : Below w2.heap.size w2 W4 := by rw [← hW4]; exact below_new _ _
      have h5 := Lib.hid (show W4.heap[w2.heap.size]? = some (.cells #[.int .i64 0, .int .i64 0, .bool false, .bool false, .int .i64 sg] 30 (0, 0)) from by rw [← hW4]; exact heap_alloc_new _ _)
      have hlt := Lib.hid (show w.heap.size < w2.heap.size from blk_lt hx.out)
      have hx := Lib.hid ((hb4.block _ (blk_lt hx.out)).trans hx.out)
      have hbw := Lib.hid (Below.next hbw.out hb4)
      have hW4' := Lib.hid hW4
      clear hb4 hW4
      go_wp2_with fail
      rw [hW4'.out]
      obtain ⟨b5, hb5⟩ : ∃ b5, w2.heap.size = b5 := ⟨_, rfl⟩
      rw [hb5] at h5 hlt ⊢
      clear hb5
      refine (k3.out _).mono ?_
      rintro e w5 ⟨rfl, hb5⟩
      have hx := Lib.hid ((hb5.block _ (blk_lt hx.out)).trans hx.out)
      have hbw := Lib.hid (Below.next hbw.out hb5)
      have h5 := Lib.hid ((hb5.block _ (blk_lt h5.out)).trans h5.out)
      clear hb5
      go_wp2_with fail
      refine (k4.out _).mono ?_
      rintro e w6 ⟨rfl, hb6⟩
      have hx := Lib.hid ((hb6.block _ (blk_lt hx.out)).trans hx.out)
      have hbw := Lib.hid (Below.next hbw.out hb6)
      have h5 := Lib.hid ((hb6.block _ (blk_lt h5.out)).trans h5.out)
      clear hb6
      go_wp2_with fail
      refine (k6.out _).mono ?_
      rintro e w8 ⟨rfl, hb8⟩
      have hx := Lib.hid ((hb8.block _ (blk_lt hx.out)).trans hx.out)
      have hbw := Lib.hid (Below.next hbw.out hb8)
      have h5 := Lib.hid ((hb8.block _ (blk_lt h5.out)).trans h5.out)
      clear hb8
      go_wp2_with fail
      refine (k7.out _).mono ?_
      rintro e w9 ⟨rfl, hb9⟩
      have hx := Lib.hid ((hb9.block _ (blk_lt hx.out)).trans hx.out)
      have hbw := Lib.hid (Below.next hbw.out hb9)
      have h5 := Lib.hid ((hb9.block _ (blk_lt h5.out)).trans h5.out)
      clear hb9
      obtain ⟨q0, q1, q2, q3, q4⟩ := box5 h5.out
      obtain ⟨p0, p1, p2, p3, p4⟩ := box5 hx.out
      have hfx := frz hx.out
      have hfz := frz h5.out
      have hne1 : ¬ w.heap.size = b5 := by have := hlt.out; omega
      have hne2 : ¬ b5 = w.heap.size := by have := hlt.out; omega
      have h5n := Lib.hid (set5x h5.out (.int .i64 rx) (.bool true))
      have hxn := Lib.hid (set_oth (o := 1) (v := .int .i64 rx) (set_oth (o := 3) (v := .bool true) hx.out hne1) hne1)
      have hbn := Lib.hid ((hbw.out.setCell (p := ⟨b5, 3, none⟩) (by show w.heap.size ≤ b5; have := hlt.out; omega) (.bool true)).setCell (p := ⟨b5, 1, none⟩) (by show w.heap.size ≤ b5; have := hlt.out; omega) (.int .i64 rx))
      go_wp2_with fail
      refine bodyPost_ret (v := AdV P) ?_ rfl ⟨rfl, below_set5 hbn.out (Nat.le_refl _)⟩
      obtain ⟨z0, z1, z2, z3, z4⟩ := box5 (set5_cells hxn.out (.int .i64 0) (.int .i64 rx) (.bool false) (.bool true) (.int .i64 sg))
      rw [hP.out]
      simp [results, Tryz.f92, go_sem, z0, z1, z2, z3, z4, AdV, adV]
  · by_cases h5e : l5 = []
    · have hr4 := Lib.hid (show (if l4 = [] then (0 : Int) else rb) = rb ∧ (!l4.isEmpty) = true from by rw [if_neg h4]; simp [h4])
      have hz4 : B.toList.isEmpty = false := by rw [he4]; simp [h4]
      have hr5 := Lib.hid (show (if l5 = [] then (0 : Int) else rx) = 0 ∧ (!l5.isEmpty) = false from by subst h5e; simp)
      have hz5 : J.toList.isEmpty = true := by rw [he5, h5e]; rfl
      clear h4 h5e he4 he5
      obtain ⟨P, hP⟩ : ∃ P : Ad, (⟨if l4 = [] then 0 else rb, if l5 = [] then 0 else rx, !l4.isEmpty, !l5.isEmpty, sg⟩ : Ad) = P := ⟨_, rfl⟩
      rw [hP]
      have hP := Lib.hid (show P = ⟨rb, 0, true, false, sg⟩ from by rw [← hP, hr4.out.1, hr5.out.1, hr4.out.2, hr5.out.2])
      clear hr4 hr5
      go_enter Tryz.func92, Tryz.ntmps92
      go_wp2_with fail
      rw [hW1'.out]
      refine (k1.out _).mono ?_
      rintro e w2 ⟨rfl, hb2⟩
      have hx := Lib.hid ((hb2.block _ (blk_lt hx.out)).trans hx.out)
      have hbw := Lib.hid (Below.next hbw.out hb2)
      clear hb2
      go_wp2_with fail
      refine (k2.out _).mono ?_
      rintro e w3 ⟨rfl, rfl⟩
      obtain ⟨W4, hW4⟩ : ∃ W4, w2.alloc (.cells #[.int .i64 0, .int .i64 0, .bool false, .bool false, .int .i64 sg] 30) = W4 := ⟨_, rfl⟩
      have hb4 : Below w2.heap.size w2 W4 := by rw [← hW4]; exact below_new _ _
      have h5 := Lib.hid (show W4.heap[w2.heap.size]? = some (.cells #[.int .i64 0, .int .i64 0, .bool false, .bool false, .int .i64 sg] 30 (0, 0)) from by rw [← hW4]; exact heap_alloc_new _ _)
      have hlt := Lib.hid (show w.heap.size < w2.heap.size from blk_lt hx.out)
      have hx := Lib.hid ((hb4.block _ (blk_lt hx.out)).trans hx.out)
      have hbw := Lib.hid (Below.next hbw.out hb4)
      have hW4' := Lib.hid hW4
      clear hb4 hW4
      go_wp2_with fail
      rw [hW4'.out]
      obtain ⟨b5, hb5⟩ : ∃ b5, w2.heap.size = b5 := ⟨_, rfl⟩
      rw [hb5] at h5 hlt ⊢
      clear hb5
      refine (k3.out _).mono ?_
      rintro e w5 ⟨rfl, hb5⟩
      have hx := Lib.hid ((hb5.block _ (blk_lt hx.out)).trans hx.out)
      have hbw := Lib.hid (Below.next hbw.out hb5)
      have h5 := Lib.hid ((hb5.block _ (blk_lt h5.out)).trans h5.out)
      clear hb5
      go_wp2_with fail
      refine (k4.out _).mono ?_
      rintro e w6 ⟨rfl, hb6⟩
      have hx := Lib.hid ((hb6.block _ (blk_lt hx.out)).trans hx.out)
      have hbw := Lib.hid (Below.next hbw.out hb6)
      have h5 := Lib.hid ((hb6.block _ (blk_lt h5.out)).trans h5.out)
      clear hb6
      go_wp2_with fail
      refine (k5.out _).mono ?_
      rintro e w7 ⟨rfl, hb7⟩
      have hx := Lib.hid ((hb7.block _ (blk_lt hx.out)).trans hx.out)
      have hbw := Lib.hid (Below.next hbw.out hb7)
      have h5 := Lib.hid ((hb7.block _ (blk_lt h5.out)).trans h5.out)
      clear hb7
      have hfz : ∀ k, w7.frozen? ⟨b5, k, none⟩ = false := fun k => by simp [World.frozen?, h5.out]
      obtain ⟨c0, c1, c2, c3, c4⟩ := box5 h5.out
      have hne1 : ¬ w.heap.size = b5 := by have := hlt.out; omega
      have hne2 : ¬ b5 = w.heap.size := by have := hlt.out; omega
      have hx0 := hx
      obtain ⟨V7, hV7⟩ : ∃ V, (w7.setCell ⟨b5, 2, none⟩ (.bool true)).setCell ⟨b5, 0, none⟩ (.int .i64 rb) = V := ⟨_, rfl⟩
      have h5 := Lib.hid (by have := set5b h5.out (.int .i64 rb) (.bool true); rw [hV7] at this; exact this)
      have hx := Lib.hid (by have := set_oth (o := 0) (v := .int .i64 rb) (set_oth (o := 2) (v := .bool true) hx.out hne1) hne1; rw [hV7] at this; exact this)
      have hbw := Lib.hid (by have := (hbw.out.setCell (p := ⟨b5, 2, none⟩) (by show w.heap.size ≤ b5; have := hlt.out; omega) (.bool true)).setCell (p := ⟨b5, 0, none⟩) (by show w.heap.size ≤ b5; have := hlt.out; omega) (.int .i64 rb); rw [hV7] at this; exact this)
      subst hV7
      obtain ⟨p0, p1, p2, p3, p4⟩ := box5 hx0.out
      have hfx := frz hx0.out
      go_wp2_with fail
      refine bodyPost_ret (v := AdV P) ?_ rfl ⟨rfl, below_set5 hbw.out (Nat.le_refl _)⟩
      obtain ⟨z0, z1, z2, z3, z4⟩ := box5 (set5_cells hx.out (.int .i64 rb) (.int .i64 0) (.bool true) (.bool false) (.int .i64 sg))
      rw [hP.out]
      simp [results, Tryz.f92, go_sem, z0, z1, z2, z3, z4, AdV, adV]
    · have hr4 := Lib.hid (show (if l4 = [] then (0 : Int) else rb) = rb ∧ (!l4.isEmpty) = true from by rw [if_neg h4]; simp [h4])
      have hz4 : B.toList.isEmpty = false := by rw [he4]; simp [h4]
      have hr5 := Lib.hid (show (if l5 = [] then (0 : Int) else rx) = rx ∧ (!l5.isEmpty) = true from by rw [if_neg h5e]; simp [h5e])
      have hz5 : J.toList.isEmpty = false := by rw [he5]; simp [h5e]
      clear h4 h5e he4 he5
      obtain ⟨P, hP⟩ : ∃ P : Ad, (⟨if l4 = [] then 0 else rb, if l5 = [] then 0 else rx, !l4.isEmpty, !l5.isEmpty, sg⟩ : Ad) = P := ⟨_, rfl⟩
      rw [hP]
      have hP := Lib.hid (show P = ⟨rb, rx, true, true, sg⟩ from by rw [← hP, hr4.out.1, hr5.out.1, hr4.out.2, hr5.out.2])
      clear hr4 hr5
      go_enter Tryz.func92, Tryz.ntmps92
      go_wp2_with fail
      rw [hW1'.out]
      refine (k1.out _).mono ?_
      rintro e w2 ⟨rfl, hb2⟩
      have hx := Lib.hid ((hb2.block _ (blk_lt hx.out)).trans hx.out)
      have hbw := Lib.hid (Below.next hbw.out hb2)
      clear hb2
      go_wp2_with fail
      refine (k2.out _).mono ?_
      rintro e w3 ⟨rfl, rfl⟩
      obtain ⟨W4, hW4⟩ : ∃ W4, w2.alloc (.cells #[.int .i64 0, .int .i64 0, .bool false, .bool false, .int .i64 sg] 30) = W4 := ⟨_, rfl⟩
      have hb4 : Below w2.heap.size w2 W4 := by rw [← hW4]; exact below_new _ _
      have h5 := Lib.hid (show W4.heap[w2.heap.size]? = some (.cells #[.int .i64 0, .int .i64 0, .bool false, .bool false, .int .i64 sg] 30 (0, 0)) from by rw [← hW4]; exact heap_alloc_new _ _)
      have hlt := Lib.hid (show w.heap.size < w2.heap.size from blk_lt hx.out)
      have hx := Lib.hid ((hb4.block _ (blk_lt hx.out)).trans hx.out)
      have hbw := Lib.hid (Below.next hbw.out hb4)
      have hW4' := Lib.hid hW4
      clear hb4 hW4
      go_wp2_with fail
      rw [hW4'.out]
      obtain ⟨b5, hb5⟩ : ∃ b5, w2.heap.size = b5 := ⟨_, rfl⟩
      rw [hb5] at h5 hlt ⊢
      clear hb5
      refine (k3.out _).mono ?_
      rintro e w5 ⟨rfl, hb5⟩
      have hx := Lib.hid ((hb5.block _ (blk_lt hx.out)).trans hx.out)
      have hbw := Lib.hid (Below.next hbw.out hb5)
      have h5 := Lib.hid ((hb5.block _ (blk_lt h5.out)).trans h5.out)
      clear hb5
      go_wp2_with fail
      refine (k4.out _).mono ?_
      rintro e w6 ⟨rfl, hb6⟩
      have hx := Lib.hid ((hb6.block _ (blk_lt hx.out)).trans hx.out)
      have hbw := Lib.hid (Below.next hbw.out hb6)
      have h5 := Lib.hid ((hb6.block _ (blk_lt h5.out)).trans h5.out)
      clear hb6
      go_wp2_with fail
      refine (k5.out _).mono ?_
      rintro e w7 ⟨rfl, hb7⟩
      have hx := Lib.hid ((hb7.block _ (blk_lt hx.out)).trans hx.out)
      have hbw := Lib.hid (Below.next hbw.out hb7)
      have h5 := Lib.hid ((hb7.block _ (blk_lt h5.out)).trans h5.out)
      clear hb7
      have hfz : ∀ k, w7.frozen? ⟨b5, k, none⟩ = false := fun k => by simp [World.frozen?, h5.out]
      obtain ⟨c0, c1, c2, c3, c4⟩ := box5 h5.out
      have hne1 : ¬ w.heap.size = b5 := by have := hlt.out; omega
      have hne2 : ¬ b5 = w.heap.size := by have := hlt.out; omega
      obtain ⟨V7, hV7⟩ : ∃ V, (w7.setCell ⟨b5, 2, none⟩ (.bool true)).setCell ⟨b5, 0, none⟩ (.int .i64 rb) = V := ⟨_, rfl⟩
      have h5 := Lib.hid (by have := set5b h5.out (.int .i64 rb) (.bool true); rw [hV7] at this; exact this)
      have hx := Lib.hid (by have := set_oth (o := 0) (v := .int .i64 rb) (set_oth (o := 2) (v := .bool true) hx.out hne1) hne1; rw [hV7] at this; exact this)
      have hbw := Lib.hid (by have := (hbw.out.setCell (p := ⟨b5, 2, none⟩) (by show w.heap.size ≤ b5; have := hlt.out; omega) (.bool true)).setCell (p := ⟨b5, 0, none⟩) (by show w.heap.size ≤ b5; have := hlt.out; omega) (.int .i64 rb); rw [hV7] at this; exact this)
      have hV := Lib.hid hV7
      clear hV7 hne1 hne2
      go_wp2_with fail
      rw [hV.out]
      clear hfz c0 c1 c2 c3 c4
      refine (k6.out _).mono ?_
      rintro e w8 ⟨rfl, hb8⟩
      have hx := Lib.hid ((hb8.block _ (blk_lt hx.out)).trans hx.out)
      have hbw := Lib.hid (Below.next hbw.out hb8)
      have h5 := Lib.hid ((hb8.block _ (blk_lt h5.out)).trans h5.out)
      clear hb8
      go_wp2_with fail
      refine (k7.out _).mono ?_
      rintro e w9 ⟨rfl, hb9⟩
      have hx := Lib.hid ((hb9.block _ (blk_lt hx.out)).trans hx.out)
      have hbw := Lib.hid (Below.next hbw.out hb9)
      have h5 := Lib.hid ((hb9.block _ (blk_lt h5.out)).trans h5.out)
      clear hb9
      obtain ⟨q0, q1, q2, q3, q4⟩ := box5 h5.out
      obtain ⟨p0, p1, p2, p3, p4⟩ := box5 hx.out
      have hfx := frz hx.out
      have hfz := frz h5.out
      have hne1 : ¬ w.heap.size = b5 := by have := hlt.out; omega
      have hne2 : ¬ b5 = w.heap.size := by have := hlt.out; omega
      have h5n := Lib.hid (set5x h5.out (.int .i64 rx) (.bool true))
      have hxn := Lib.hid (set_oth (o := 1) (v := .int .i64 rx) (set_oth (o := 3) (v := .bool true) hx.out hne1) hne1)
      have hbn := Lib.hid ((hbw.out.setCell (p := ⟨b5, 3, none⟩) (by show w.heap.size ≤ b5; have := hlt.out; omega) (.bool true)).setCell (p := ⟨b5, 1, none⟩) (by show w.heap.size ≤ b5; have := hlt.out; omega) (.int .i64 rx))
      go_wp2_with fail
      refine bodyPost_ret (v := AdV P) ?_ rfl ⟨rfl, below_set5 hbn.out (Nat.le_refl _)⟩
      obtain ⟨z0, z1, z2, z3, z4⟩ := box5 (set5_cells hxn.out (.int .i64 rb) (.int .i64 rx) (.bool true) (.bool true) (.int .i64 sg))
      rw [hP.out]
      simp [results, Tryz.f92, go_sem, z0, z1, z2, z3, z4, AdV, adV]
end Go.Proofs.YtmimmnjdgpdjlaaGreatDoor
