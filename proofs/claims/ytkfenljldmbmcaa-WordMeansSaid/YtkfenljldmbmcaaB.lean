/- The contracts of the small functions of word and of its reference. -/
import Derived.Test.YtkfenljldmbmcaaA
set_option linter.unusedSimpArgs false
set_option linter.unusedVariables false
namespace Go.Proofs.Ytkfenljldmbmcaa
open Go.RowKit

set_option maxHeartbeats 400000 in
theorem num_any (a : Int) (w : World) :
    Calls Try.prog 16 #[.int .i64 a] w fun e w' => e = .returned (.int .i64 a) ∧ w = w' := by
  go_enter Try.func16, Try.ntmps16
  go_wp2
  go_ret
  exact ⟨rfl, rfl⟩

set_option maxHeartbeats 400000 in
theorem may_any (wd : Int) (w : World) :
    Calls Try.prog 40 #[.int .i64 wd] w fun e w' => e = .returned (.bool (mayB wd)) ∧ w = w' := by
  go_enter Try.func40, Try.ntmps40
  go_wp2
  all_goals go_ret
  all_goals exact ⟨ret_bool (by simp [mayB, *]), rfl⟩

set_option maxHeartbeats 400000 in
theorem MayW_any (wd : Int) (w : World) :
    Calls Try.prog 19 #[.int .i64 wd] w fun e w' => e = .returned (.bool (mayB wd)) ∧ w = w' := by
  go_enter Try.func19, Try.ntmps19
  go_wp2
  all_goals go_ret
  all_goals exact ⟨ret_bool (by simp [mayB, *]), rfl⟩

set_option maxHeartbeats 400000 in
theorem low_any (wd a : Int) (w : World) (hw : MayW wd) (h : U64 a) :
    Calls Try.prog 41 #[.int .i64 wd, .int .u64 a] w fun e w' => e = .returned (.int .u64 (lowI wd a)) ∧ w = w' := by
  obtain ⟨h2, h3⟩ := h
  rcases hw with rfl | rfl | rfl | rfl
  all_goals
    go_enter Try.func41, Try.ntmps41
    go_wp2
    go_ret
    exact ⟨ret_u64 (by simp [lowI, IntKind.wrap_u64]; omega), rfl⟩

set_option maxHeartbeats 400000 in
theorem top_any (wd a : Int) (w : World) (h0 : 1 ≤ wd) (h1 : wd ≤ 64) (h : U64 a) :
    Calls Try.prog 47 #[.int .i64 wd, .int .u64 a] w fun e w' => e = .returned (.bool (topB wd a)) ∧ w = w' := by
  obtain ⟨h2, h3⟩ := h
  go_enter Try.func47, Try.ntmps47
  go_wp2
  go_ret
  refine ⟨ret_bool ?_, rfl⟩
  have e1 : 0 ≤ a / 2 ^ (wd.toNat - 1) := Int.ediv_nonneg h2 (by exact Int.le_of_lt (Int.pow_pos (by omega)))
  have e2 : a / 2 ^ (wd.toNat - 1) ≤ a := Int.ediv_le_self _ h2
  show (bits BinOp.and IntKind.u64 (a / 2 ^ (wd.toNat - 1)) 1 == 1) = _
  rw [and_one_u64 _ e1 (by omega)]
  rfl

set_option maxHeartbeats 400000 in
theorem signed_any (wd a : Int) (w : World) (hw : MayW wd) (h : U64 a) :
    Calls Try.prog 48 #[.int .i64 wd, .int .u64 a] w fun e w' => e = .returned (.int .u64 (signI wd a)) ∧ w = w' := by
  obtain ⟨h2, h3⟩ := h
  rcases hw with rfl | rfl | rfl | rfl
  all_goals
    go_enter Try.func48, Try.ntmps48
    go_wp2
    go_ret
    refine ⟨ret_u64 ?_, rfl⟩
    simp [IntKind.wrap_u64, wrap64, sgn8, sgn16, sgn32, sg8, sg16, sg32, ← sg64 a h2 h3]
    try omega

set_option maxHeartbeats 400000 in
theorem Top_any (wd a : Int) (w : World) (h0 : 1 ≤ wd) (h1 : wd ≤ 64) (h : U64 a) :
    Calls Try.prog 44 #[.int .i64 wd, .int .u64 a] w fun e w' => e = .returned (.bool (topB wd a)) ∧ w = w' := by
  obtain ⟨h2, h3⟩ := h
  go_enter Try.func44, Try.ntmps44
  go_wp2
  go_ret
  refine ⟨ret_bool ?_, rfl⟩
  have e1 : 0 ≤ a / 2 ^ (wd.toNat - 1) := Int.ediv_nonneg h2 (by exact Int.le_of_lt (Int.pow_pos (by omega)))
  show ((a / 2 ^ (wd.toNat - 1)).tmod 2 == 1) = _
  rw [Int.tmod_eq_emod_of_nonneg e1]
  rfl

set_option maxHeartbeats 400000 in
theorem Low_any (wd a : Int) (w : World) (hw : MayW wd) (h : U64 a) :
    Calls Try.prog 32 #[.int .i64 wd, .int .u64 a] w fun e w' => e = .returned (.int .u64 (lowI wd a)) ∧ w = w' := by
  obtain ⟨h2, h3⟩ := h
  rcases hw with rfl | rfl | rfl | rfl
  all_goals
    go_enter Try.func32, Try.ntmps32
    go_wp2
    go_ret
    refine ⟨ret_u64 ?_, rfl⟩
    simp [lowI]
    try omega

theorem ones_any (a : Int) (w : World) (h0 : 0 ≤ a) (h1 : a < 256) :
    Calls Try.prog 82 #[.int .u8 a] w fun e w' => e = .returned (.int .i64 (onesI a)) ∧ w = w' :=
  (Try.bits_OnesCount8 a w h0 (by omega)).mono fun _ _ ⟨he, hw⟩ => ⟨by rw [he, ones_of a h0 h1], hw.symm⟩

set_option maxHeartbeats 400000 in
theorem by_any (wd a : Int) (c z s o p : Bool) (w : World) (h0 : 1 ≤ wd) (h1 : wd ≤ 64) (h : U64 a) :
    Calls Try.prog 42 #[.int .i64 wd, .int .u64 a, .agg #[.bool c, .bool z, .bool s, .bool o, .bool p]] w fun e w' =>
      e = .returned (.agg #[.bool c, .bool (a == 0), .bool (topB wd a), .bool o, .bool (parB a)]) ∧ Below w.heap.size w w' := by
  have ho := ones_bd (a % 256)
  go_enter Try.func42, Try.ntmps42
  go_wp2_with (first | (go_at_call 47; refine (top_any _ _ _ h0 h1 h).mono ?_; rintro e w' ⟨rfl, rfl⟩) | (go_at_call 82; refine (ones_any _ _ (by omega) (by omega)).mono ?_; rintro e w' ⟨rfl, rfl⟩))
  refine bodyPost_ret (v := .agg #[.bool c, .bool (a == 0), .bool (topB wd a), .bool o, .bool (onesI (a % 256) % 2 == 0)]) (by simp [results, Try.results42, go_sem]) rfl ⟨?_, ?_⟩
  · rw [ones_mod a h.1]; rfl
  · exact ((Below.refl _ _).alloc (Nat.le_refl _) _).alloc (by simp) _

set_option maxHeartbeats 400000 in
theorem By_any (wd a : Int) (c z s o p : Bool) (w : World) (h0 : 1 ≤ wd) (h1 : wd ≤ 64) (h : U64 a) :
    Calls Try.prog 46 #[.int .i64 wd, .int .u64 a, .agg #[.bool c, .bool z, .bool s, .bool o, .bool p]] w fun e w' =>
      e = .returned (.agg #[.bool c, .bool (a == 0), .bool (topB wd a), .bool o, .bool (parB a)]) ∧ Below w.heap.size w w' := by
  have ho := ones_bd (a % 256)
  go_enter Try.func46, Try.ntmps46
  go_wp2_with (first | (go_at_call 44; refine (Top_any _ _ _ h0 h1 h).mono ?_; rintro e w' ⟨rfl, rfl⟩))
  go_loop [7, 8] (fun n i => ∃ k : Nat, k ≤ 8 ∧ i = .int .i64 k ∧ n = .int .i64 (onesN a k)) (fun _ i => 8 - (intOf i).toNat)
  case atStart => exact ⟨0, by omega, rfl, rfl⟩
  case round =>
    obtain ⟨k, hk, rfl, rfl⟩ := hrel
    have hb := onesN_bd a k
    have hq := sh_bd a h.1 k
    by_cases hlt : k < 8
    · go_wp2
      exact ⟨⟨k + 1, by omega, by go_num, rfl⟩, by simp [intOf]; omega⟩
    · obtain rfl : k = 8 := by omega
      go_wp2
      refine bodyPost_ret (v := .agg #[.bool c, .bool (a == 0), .bool (topB wd a), .bool o, .bool (onesN a 8 % 2 == 0)]) (by simp [results, Try.results46, go_sem]) rfl ⟨?_, ?_⟩
      · rw [onesN_8]; rfl
      · exact ((Below.refl _ _).alloc (Nat.le_refl _) _).alloc (by simp) _


end Go.Proofs.Ytkfenljldmbmcaa
