/- The walk of PrettyApart. -/
import Derived.Test.YtnahgfdoiflacaaGreatDoorY
import Derived.Test.YtnahgfdoiflacaaGreatDoorCI
import Derived.Test.YtnahgfdoiflacaaGreatDoorCK
import Derived.Test.YtnahgfdoiflacaaGreatDoorEC
import Derived.Test.YtnahgfdoiflacaaGreatDoorFC
import Derived.BigQuiet
set_option linter.unusedSimpArgs false
set_option linter.unusedVariables false
namespace Go.Proofs.YtnahgfdoiflacaaGreatDoor
open Go.RowKit Go.Lib Go.Shelf

theorem uP_at {w : World} {p : Pg} {B : Option Addr} (h : FnsAt w p.fs B) : uP p := fun f hf => by
  obtain ⟨i, hi⟩ := List.getElem?_of_mem hf
  obtain ⟨blk, off, x, r, _, hx, _, hn⟩ := h.at_ (List.getElem?_eq_some_iff.1 hi).1
  obtain rfl : x = f := Option.some.inj (hx.symm.trans hi)
  exact uSs_at hn.bdA
theorem textM_n (p : Pg) : (textM p).2 = 0 ∨ (textM p).2 = 2 ∨ (textM p).2 = 3 := by
  unfold textM shortN
  split
  · dsimp only
    split
    · exact .inl rfl
    · exact .inr (.inr rfl)
  · exact .inr (.inl rfl)
theorem textM_zero {p : Pg} (h : (textM p).2 = 0) : mayPg p = true ∧ (textM p).1 = textP p := by
  unfold textM shortN shortT at *
  split at h
  · rename_i hm
    dsimp only at h
    split at h
    · rename_i hs
      rw [if_pos hm]
      dsimp only
      rw [if_pos hs]
      exact ⟨hm, rfl⟩
    · cases h
  · cases h
theorem apart_law {p q : Pg} (up : uP p) (uq : uP q) (h1 : (textM p).2 = 0) (h2 : (textM q).2 = 0) : ((textM p).1.toList == (textM q).1.toList) = same p q := by
  obtain ⟨m1, t1⟩ := textM_zero h1
  obtain ⟨m2, t2⟩ := textM_zero h2
  rw [t1, t2]
  by_cases h : p = q
  · subst h
    rw [same_true.2 rfl]
    simp
  · rw [same_false.2 h, beq_eq_false_iff_ne]
    intro e
    refine h (text_inj m1 m2 up uq (ba_ext ?_))
    rw [ByteArray.toList_eq, ByteArray.toList_eq] at e
    exact e
set_option maxRecDepth 100000 in
set_option maxHeartbeats 16000000 in
theorem prettyApart_any (p q : Pg) (A B A' B' : Option Addr) (c d c' d' : Nat) (W : World) (hE : Env W) (hr : CellsAt 4 cellsR W p.rs A) (hf : FnsAt W p.fs B) (hr' : CellsAt 4 cellsR W q.rs A') (hf' : FnsAt W q.fs B')
    (hl1 : p.rs.length ≤ 1000000000000000 ∧ p.fs.length ≤ 1000000000000000) (hl2 : q.rs.length ≤ 1000000000000000 ∧ q.fs.length ≤ 1000000000000000) (hrk : ∀ x ∈ p.rs, RegOk x) (hrk' : ∀ x ∈ q.rs, RegOk x) :
    Calls Tryz.prog 5 #[pgV p A c B d, pgV q A' c' B' d'] W (BoolPost true W) := by
  have hlongA := fun (W' : World) (hb : Below W.heap.size W W') => longP_any W p A B c d hr hf 5000 W' hb (by omega) hl1.1 hl1.2
  have hlongB := fun (W' : World) (hb : Below W.heap.size W W') => longP_any W q A' B' c' d' hr' hf' 5000 W' hb (by omega) hl2.1 hl2.2
  have hRS := fun (hp : cntP p ≤ 5000) (hq : cntP q ≤ 5000) (W' : World) (hb : Below W.heap.size W W') => refSame_any W p q A B A' B' c d c' d' hr hf hr' hf' W' hb (by omega) (by omega)
  have hTA := fun (hp : cntP p ≤ 5000) (W' : World) (hb : Below W.heap.size W W') => text19_any W hE p A B c d hr hf hrk W' hb (by omega)
  have hTB := fun (hq : cntP q ≤ 5000) (W' : World) (hb : Below W.heap.size W W') => text19_any W hE q A' B' c' d' hr' hf' hrk' W' hb (by omega)
  have hk := Lib.hid (fun (W2 : World) (hb : Below W.heap.size W W2) => known_any W2 (hE.below hb))
  have hn := Lib.hid (fun (n : Int) W' => num16_any n W')
  have hap := apart_law (uP_at hf) (uP_at hf')
  have hN1 := textM_n p
  have hN2 := textM_n q
  obtain ⟨t, ht⟩ : ∃ t, same p q = t := ⟨_, rfl⟩
  rw [ht] at hRS hap
  unfold TextPost at hTA hTB
  unfold pgV at hlongA hlongB hRS hTA hTB ⊢
  generalize (textM p).1 = T1 at hTA hap
  generalize (textM p).2 = N1 at hTA hap hN1
  generalize (textM q).1 = T2 at hTB hap
  generalize (textM q).2 = N2 at hTB hap hN2
  obtain ⟨n1, hn1⟩ : ∃ n, p.rs.length = n := ⟨_, rfl⟩
  obtain ⟨n2, hn2⟩ : ∃ n, p.fs.length = n := ⟨_, rfl⟩
  obtain ⟨m1, hm1⟩ : ∃ n, q.rs.length = n := ⟨_, rfl⟩
  obtain ⟨m2, hm2⟩ : ∃ n, q.fs.length = n := ⟨_, rfl⟩
  rw [hn1, hn2] at hlongA hRS hTA ⊢
  rw [hm1, hm2] at hlongB hRS hTB ⊢
  replace hlongA := Lib.hid hlongA
  replace hlongB := Lib.hid hlongB
  replace hRS := Lib.hid hRS
  replace hTA := Lib.hid hTA
  replace hTB := Lib.hid hTB
  replace hap := Lib.hid hap
  replace hN1 := Lib.hid hN1
  replace hN2 := Lib.hid hN2
  clear hr hf hr' hf' hE hn1 hn2 hm1 hm2 ht hl1 hl2 hrk hrk'
  obtain ⟨W1, hW1⟩ : ∃ W1, W.alloc (.cells #[.slice A n1 c, .slice B n2 d] 39) = W1 := ⟨_, rfl⟩
  obtain ⟨W2, hW2⟩ : ∃ W2, W1.alloc (.cells #[.slice A' m1 c', .slice B' m2 d'] 39) = W2 := ⟨_, rfl⟩
  have hb1 : Below W.heap.size W W1 := by rw [← hW1]; exact (Below.refl _ W).alloc (Nat.le_refl _) _
  have hb2 : Below W.heap.size W W2 := by rw [← hW2]; exact hb1.alloc hb1.size _
  have hs1 : W1.heap.size = W.heap.size + 1 := by rw [← hW1]; simp
  have hx1 : W1.heap[W.heap.size]? = some (.cells #[.slice A n1 c, .slice B n2 d] 39 (0, 0)) := by rw [← hW1]; exact heap_alloc_new _ _
  have hY : W2.heap[W1.heap.size]? = some (.cells #[.slice A' m1 c', .slice B' m2 d'] 39 (0, 0)) := by rw [← hW2]; exact heap_alloc_new _ _
  have hX : W2.heap[W.heap.size]? = some (.cells #[.slice A n1 c, .slice B n2 d] 39 (0, 0)) := by rw [← hW2, heap_alloc_old _ _ (by omega)]; exact hx1
  obtain ⟨a0, a1⟩ := box2 hX
  obtain ⟨d0, d1⟩ := box2 hY
  replace hX := Lib.hid hX
  replace hY := Lib.hid hY
  replace hb2 := Lib.hid hb2
  have up := Lib.hid fun (W' : World) (h : Below W2.heap.size W2 W') => (Below.next hb2.out h : Below W.heap.size W W')
  clear hb1 hs1 hx1
  go_enter Tryz.func5, Tryz.ntmps5
  go_wp2_with fail
  refine (hk.out _ hb2.out).mono ?_
  rintro e w0 ⟨rfl, hb0⟩
  replace hb0 := Lib.hid hb0
  clear a0 a1 d0 d1
  obtain ⟨a0, a1⟩ := box2 ((hb0.out.block _ (blk_lt hX.out)).trans hX.out)
  obtain ⟨d0, d1⟩ := box2 ((hb0.out.block _ (blk_lt hY.out)).trans hY.out)
  go_wp2_with fail
  refine (hlongA.out _ (up.out _ hb0.out)).mono ?_
  rintro e w3 ⟨b1, rfl, hq1, hb3⟩
  have hx1q := Lib.hid hq1
  clear hq1
  have hb3 := Lib.hid (Below.next hb0.out hb3)
  clear a0 a1 d0 d1
  obtain ⟨a0, a1⟩ := box2 ((hb3.out.block _ (blk_lt hX.out)).trans hX.out)
  obtain ⟨d0, d1⟩ := box2 ((hb3.out.block _ (blk_lt hY.out)).trans hY.out)
  cases b1
  rotate_left
  · as_aux_lemma =>
      go_wp2
      go_ret
      exact ⟨rfl, up.out _ hb3.out⟩
  have hq1 := Lib.hid (show cntP p ≤ 5000 by have h := hx1q.out; simpa using h)
  clear hx1q
  go_wp2_with fail
  refine (hlongB.out _ (up.out _ hb3.out)).mono ?_
  rintro e w4 ⟨b2, rfl, hq2, hb4⟩
  have hx2q := Lib.hid hq2
  clear hq2
  have hb4 := Lib.hid (Below.next hb3.out hb4)
  clear a0 a1 d0 d1
  obtain ⟨a0, a1⟩ := box2 ((hb4.out.block _ (blk_lt hX.out)).trans hX.out)
  obtain ⟨d0, d1⟩ := box2 ((hb4.out.block _ (blk_lt hY.out)).trans hY.out)
  cases b2
  rotate_left
  · as_aux_lemma =>
      go_wp2
      go_ret
      exact ⟨rfl, up.out _ hb4.out⟩
  have hq2 := Lib.hid (show cntP q ≤ 5000 by have h := hx2q.out; simpa using h)
  clear hx2q
  go_wp2_with fail
  refine (hTA.out hq1.out _ (up.out _ hb4.out)).mono ?_
  rintro e w5 ⟨rfl, hb5⟩
  have hb5 := Lib.hid (Below.next hb4.out hb5)
  clear a0 a1 d0 d1
  obtain ⟨a0, a1⟩ := box2 ((hb5.out.block _ (blk_lt hX.out)).trans hX.out)
  obtain ⟨d0, d1⟩ := box2 ((hb5.out.block _ (blk_lt hY.out)).trans hY.out)
  go_wp2_with fail
  refine (hTB.out hq2.out _ (up.out _ hb5.out)).mono ?_
  rintro e w6 ⟨rfl, hb6⟩
  have hb6 := Lib.hid (Below.next hb5.out hb6)
  clear a0 a1 d0 d1
  obtain ⟨a0, a1⟩ := box2 ((hb6.out.block _ (blk_lt hX.out)).trans hX.out)
  obtain ⟨d0, d1⟩ := box2 ((hb6.out.block _ (blk_lt hY.out)).trans hY.out)
  by_cases h0 : N1 = 0 ∧ N2 = 0
  · obtain ⟨rfl, rfl⟩ := h0
    have hap := hap.out rfl rfl
    clear hN1 hN2
    as_aux_lemma =>
      go_wp2_with fail
      refine (hn.out _ _).mono ?_
      rintro e w7 ⟨rfl, rfl⟩
      go_wp2_with fail
      refine (hn.out _ _).mono ?_
      rintro e w8 ⟨rfl, rfl⟩
      go_wp2_with fail
      refine (hRS.out hq1.out hq2.out _ (up.out _ hb6.out)).mono ?_
      rintro e w9 ⟨rfl, hb9⟩
      have hb9 := Lib.hid (Below.next hb6.out hb9)
      clear a0 a1 d0 d1
      cases t
      all_goals
        go_wp2
        go_ret
        exact ⟨rfl, up.out _ hb9.out⟩
  · rcases (show (N1 = 0 ∧ N2 = 2) ∨ (N1 = 0 ∧ N2 = 3) ∨ (N1 = 2 ∧ N2 = 0) ∨ (N1 = 2 ∧ N2 = 2) ∨ (N1 = 2 ∧ N2 = 3) ∨ (N1 = 3 ∧ N2 = 0) ∨ (N1 = 3 ∧ N2 = 2) ∨ (N1 = 3 ∧ N2 = 3) by have := hN1.out; have := hN2.out; omega) with ⟨rfl, rfl⟩ | ⟨rfl, rfl⟩ | ⟨rfl, rfl⟩ | ⟨rfl, rfl⟩ | ⟨rfl, rfl⟩ | ⟨rfl, rfl⟩ | ⟨rfl, rfl⟩ | ⟨rfl, rfl⟩
    all_goals
      clear h0 hN1 hN2
      as_aux_lemma =>
        go_wp2_with fail
        refine (hn.out _ _).mono ?_
        rintro e w7 ⟨rfl, rfl⟩
        go_wp2_with fail
        refine (hn.out _ _).mono ?_
        rintro e w8 ⟨rfl, rfl⟩
        clear a0 a1 d0 d1
        go_wp2
        go_ret
        exact ⟨rfl, up.out _ hb6.out⟩
end Go.Proofs.YtnahgfdoiflacaaGreatDoor
