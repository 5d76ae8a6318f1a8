/- The reference's reading of a register's operand. -/
import Derived.Test.YtmimmnjdgpdjlaaGreatDoorDB
set_option linter.unusedSimpArgs false
set_option linter.unusedVariables false
namespace Go.Proofs.YtmimmnjdgpdjlaaGreatDoor
open Go.RowKit Go.Lib Go.Shelf

set_option maxRecDepth 100000 in
set_option maxHeartbeats 4000000 in
theorem unreg89_any (s : ByteArray) (w : World) (hs : s.size ≤ 2000000) : Calls Tryz.prog 89 #[.string s] w fun e w' => e = .returned (.int .i64 (unregR s.data.toList)) ∧ Below w.heap.size w w' := by
  by_cases h0 : s.size = 0
  · have hv := Lib.hid (show (0 : Int) = unregR s.data.toList by
      unfold unregR
      rw [bt_empty_iff s h0, if_neg (by simp)])
    have e0 : ¬ (0 : Int) < (s.size : Int) := by omega
    clear h0
    go_enter Tryz.func89, Tryz.ntmps89
    go_wp2
    go_ret
    exact ⟨by rw [← hv.out]; rfl, Below.refl _ _⟩
  have hp : 0 < s.size := by omega
  have e0 : (0 : Int) < (s.size : Int) := by omega
  have hh := head_get s hp
  by_cases hc : s[0]'hp = 37
  · have e1 : (((s[0]'hp).toNat : Int) == 37) = true := by rw [hc]; rfl
    have hv := Lib.hid (show max ((((idxW regW (s.extract 1 s.size).data.toList).getD 0 : Nat) : Int)) ((((idxW lowW (s.extract 1 s.size).data.toList).getD 0 : Nat) : Int)) = unregR s.data.toList by
      unfold unregR
      rw [if_pos (by rw [hh, hc]), tail_extract, bt_list]
      omega)
    have hw1 : (1 : Int) ≤ (s.size : Int) := by omega
    obtain ⟨t, ht⟩ : ∃ t, s.extract 1 s.size = t := ⟨_, rfl⟩
    rw [ht] at hv
    have hW := rwords_any w.drew
    have hb1 : Below w.heap.size w (w.drew.alloc (.cells (lisC regW) 9)) := (Below.refl _ _).drew.alloc (Nat.le_refl _) _
    have hx1 : (w.drew.alloc (.cells (lisC regW) 9)).heap[w.heap.size]? = some (.cells (lisC regW) 9 (0, 0)) := heap_alloc_new w.drew _
    obtain ⟨w1, hw1e⟩ : ∃ w1, w.drew.alloc (.cells (lisC regW) 9) = w1 := ⟨_, rfl⟩
    have hW := Lib.hid (hW.mono (R' := fun e w' => e = .returned (.slice (some ⟨w.heap.size, 0, none⟩) 16 16) ∧ w' = w1) fun e w' h => ⟨h.1, h.2.trans hw1e⟩)
    rw [hw1e] at hb1 hx1
    have hX := rlows_any w1
    have hb2 : Below w1.heap.size w1 (w1.alloc (.cells (lisC lowW) 9)) := below_new _ _
    have hx2 : (w1.alloc (.cells (lisC lowW) 9)).heap[w1.heap.size]? = some (.cells (lisC lowW) 9 (0, 0)) := heap_alloc_new _ _
    obtain ⟨w2, hw2e⟩ : ∃ w2, w1.alloc (.cells (lisC lowW) 9) = w2 := ⟨_, rfl⟩
    have hX := Lib.hid (hX.mono (R' := fun e w' => e = .returned (.slice (some ⟨w1.heap.size, 0, none⟩) 16 16) ∧ w' = w2) fun e w' h => ⟨h.1, h.2.trans hw2e⟩)
    rw [hw2e] at hb2 hx2
    have hbw := Lib.hid (Below.next hb1 hb2)
    have hF1 := Lib.hid (find93_any regW 16 rfl (by omega) w.heap.size w1 hx1 t)
    have hF2 := Lib.hid (find93_any lowW 16 rfl (by omega) w1.heap.size w2 hx2 t)
    have hl1 : (((idxW regW t.data.toList).getD 0 : Nat) : Int) = (((idxW regW t.data.toList).getD 0 : Nat) : Int) := rfl
    obtain ⟨a, ha⟩ : ∃ a : Int, (((idxW regW t.data.toList).getD 0 : Nat) : Int) = a := ⟨_, rfl⟩
    obtain ⟨b, hb⟩ : ∃ b : Int, (((idxW lowW t.data.toList).getD 0 : Nat) : Int) = b := ⟨_, rfl⟩
    rw [ha, hb] at hv
    rw [ha] at hF1
    rw [hb] at hF2
    clear hh hc h0 hb1 hx1 hw1e hb2 hx2 hw2e hl1 ha hb
    go_enter Tryz.func89, Tryz.ntmps89
    go_wp2_with fail
    refine wp_region_held (S := fun _ => True) (by kernel_rfl) ?_
    show wpAnyH _ _ _ _ _ _ _ _ w.drew
    refine wpAnyH_take (i := 1) (v := .string s) rfl (by kernel_rfl) (by kernel_rfl) (by kernel_rfl) (fun _ _ _ h => h) (Or.inl ⟨by rfl, fun V hV => by go_simp⟩) trivial ?_
    simp only [Act.put, List.getElem_toArray, List.getElem_cons_zero, List.getElem_cons_succ, List.setIfInBounds_toArray, List.set_cons_zero, List.set_cons_succ]
    refine wpAnyH_take (i := 2) (v := .string t) rfl (by kernel_rfl) (by kernel_rfl) (by kernel_rfl) (fun _ _ _ h => h) (Or.inl ⟨by rfl, fun V hV => by go_simp⟩) trivial ?_
    simp only [Act.put, List.getElem_toArray, List.getElem_cons_zero, List.getElem_cons_succ, List.setIfInBounds_toArray, List.set_cons_zero, List.set_cons_succ]
    refine wpAnyH_take (i := 5) (v := .string s) rfl (by kernel_rfl) (by kernel_rfl) (by kernel_rfl) (fun _ _ _ h => h) (Or.inl ⟨by rfl, fun V hV => by go_simp⟩) trivial ?_
    simp only [Act.put, List.getElem_toArray, List.getElem_cons_zero, List.getElem_cons_succ, List.setIfInBounds_toArray, List.set_cons_zero, List.set_cons_succ]
    refine wpAnyH_take (i := 6) (v := .string t) rfl (by kernel_rfl) (by kernel_rfl) (by kernel_rfl) (fun _ _ _ h => h) (Or.inl ⟨by rfl, fun V hV => by go_simp⟩) trivial ?_
    simp only [Act.put, List.getElem_toArray, List.getElem_cons_zero, List.getElem_cons_succ, List.setIfInBounds_toArray, List.set_cons_zero, List.set_cons_succ]
    refine wpAnyH_all (rs := [0]) (by kernel_rfl) (by simp) ?_
    intro ii hii
    rcases (by simpa using hii : ii = 0) with rfl
    refine wpOp_call (f := 38) (args := #[]) rfl (by rfl) (by go_simp) (hW.out) ?_
    rintro e w3 ⟨rfl, hq⟩
    obtain rfl := hq.symm
    refine ⟨_, rfl, trivial, ?_⟩
    simp only [Act.put, List.getElem_toArray, List.getElem_cons_zero, List.getElem_cons_succ, List.setIfInBounds_toArray, List.set_cons_zero, List.set_cons_succ]
    refine wpAnyH_all (rs := [3]) (by kernel_rfl) (by simp) ?_
    intro ii hii
    rcases (by simpa using hii : ii = 3) with rfl
    refine wpOp_call (f := 93) (args := #[.slice (some ⟨w.heap.size, 0, none⟩) 16 16, .string t]) rfl (by rfl) (by go_simp) (hF1.out) ?_
    rintro e w4 ⟨rfl, rfl⟩
    refine ⟨_, rfl, trivial, ?_⟩
    simp only [Act.put, List.getElem_toArray, List.getElem_cons_zero, List.getElem_cons_succ, List.setIfInBounds_toArray, List.set_cons_zero, List.set_cons_succ]
    refine wpAnyH_all (rs := [4]) (by kernel_rfl) (by simp) ?_
    intro ii hii
    rcases (by simpa using hii : ii = 4) with rfl
    refine wpOp_call (f := 108) (args := #[]) rfl (by rfl) (by go_simp) (hX.out) ?_
    rintro e w5 ⟨rfl, hq⟩
    obtain rfl := hq.symm
    refine ⟨_, rfl, trivial, ?_⟩
    simp only [Act.put, List.getElem_toArray, List.getElem_cons_zero, List.getElem_cons_succ, List.setIfInBounds_toArray, List.set_cons_zero, List.set_cons_succ]
    refine wpAnyH_all (rs := [7]) (by kernel_rfl) (by simp) ?_
    intro ii hii
    rcases (by simpa using hii : ii = 7) with rfl
    refine wpOp_call (f := 93) (args := #[.slice (some ⟨w1.heap.size, 0, none⟩) 16 16, .string t]) rfl (by rfl) (by go_simp) (hF2.out) ?_
    rintro e w6 ⟨rfl, rfl⟩
    refine ⟨_, rfl, trivial, ?_⟩
    simp only [Act.put, List.getElem_toArray, List.getElem_cons_zero, List.getElem_cons_succ, List.setIfInBounds_toArray, List.set_cons_zero, List.set_cons_succ]
    refine wpAnyH_take (i := 8) (v := .int .i64 (max a b)) rfl (by kernel_rfl) (by kernel_rfl) (by kernel_rfl) (fun _ _ _ h => h) (Or.inl ⟨by rfl, fun V hV => by go_simp⟩) trivial ?_
    simp only [Act.put, List.getElem_toArray, List.getElem_cons_zero, List.getElem_cons_succ, List.setIfInBounds_toArray, List.set_cons_zero, List.set_cons_succ]
    refine wpAnyH_take (i := 9) (v := .int .i64 (max a b)) rfl (by kernel_rfl) (by kernel_rfl) (by kernel_rfl) (fun _ _ _ h => h) (Or.inl ⟨by rfl, fun V hV => by go_simp⟩) trivial ?_
    simp only [Act.put, List.getElem_toArray, List.getElem_cons_zero, List.getElem_cons_succ, List.setIfInBounds_toArray, List.set_cons_zero, List.set_cons_succ]
    refine wpAnyH_done (by kernel_rfl) ?_ _
    go_wp2
    go_ret
    exact ⟨by rw [← hv.out]; rfl, hbw.out⟩
  · have e1 : (((s[0]'hp).toNat : Int) == 37) = false := by
      have : (s[0]'hp).toNat ≠ (37 : UInt8).toNat := fun e => hc (UInt8.toNat_inj.1 e)
      have h37 : (37 : UInt8).toNat = 37 := rfl
      simp; omega
    have hv := Lib.hid (show (0 : Int) = unregR s.data.toList by
      unfold unregR
      rw [if_neg (by rw [hh]; intro e; exact hc (Option.some.inj e))])
    clear hh hc h0
    go_enter Tryz.func89, Tryz.ntmps89
    go_wp2
    go_ret
    exact ⟨by rw [← hv.out]; rfl, Below.refl _ _⟩
end Go.Proofs.YtmimmnjdgpdjlaaGreatDoor
