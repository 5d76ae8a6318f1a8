/- The contract of the reference's step. -/
import Derived.Test.YtkfenljldmbmcaaK
import Derived.Test.YtkfenljldmbmcaaM4
set_option linter.unusedSimpArgs false
set_option linter.unusedVariables false
namespace Go.Proofs.Ytkfenljldmbmcaa
open Go.RowKit Go.MapKept

theorem low_wrap2 {wd : Int} (hw : MayW wd) (v : Int) : lowI wd (IntKind.u64.wrap (v * 2)) = lowI wd (v * 2) := by
  rw [IntKind.wrap_u64, low_mod hw]; rfl
theorem MayW_8 : MayW 8 := .inl rfl
theorem MayW_16 : MayW 16 := .inr (.inl rfl)
theorem MayW_32 : MayW 32 := .inr (.inr (.inl rfl))
theorem MayW_64 : MayW 64 := .inr (.inr (.inr rfl))
theorem low_even8 (v : Int) : 0 ≤ lowI 8 (v * 2) ∧ lowI 8 (v * 2) ≤ 254 := by
  have e : lowI 8 (v * 2) = v * 2 % 256 := rfl
  rw [e]; omega
theorem rol_8 (v : Int) : rol1 8 v = lowI 8 (v * 2) + if topB 8 v then 1 else 0 := by
  unfold rol1 topB lowI
  have e : (2 : Int) ^ (8 - 1) = 128 := rfl
  have e2 : (2 : Int) ^ ((8 : Int).toNat - 1) = 128 := rfl
  have e3 : (2 : Int) ^ 8 = 256 := rfl
  have e4 : (2 : Int) ^ (8 : Int).toNat = 256 := rfl
  rw [e, e2, e3, e4]
  by_cases h : v / 128 % 2 = 1 <;> simp [h] <;> omega
theorem low_even16 (v : Int) : 0 ≤ lowI 16 (v * 2) ∧ lowI 16 (v * 2) ≤ 65534 := by
  have e : lowI 16 (v * 2) = v * 2 % 65536 := rfl
  rw [e]; omega
theorem rol_16 (v : Int) : rol1 16 v = lowI 16 (v * 2) + if topB 16 v then 1 else 0 := by
  unfold rol1 topB lowI
  have e : (2 : Int) ^ (16 - 1) = 32768 := rfl
  have e2 : (2 : Int) ^ ((16 : Int).toNat - 1) = 32768 := rfl
  have e3 : (2 : Int) ^ 16 = 65536 := rfl
  have e4 : (2 : Int) ^ (16 : Int).toNat = 65536 := rfl
  rw [e, e2, e3, e4]
  by_cases h : v / 32768 % 2 = 1 <;> simp [h] <;> omega
theorem low_even32 (v : Int) : 0 ≤ lowI 32 (v * 2) ∧ lowI 32 (v * 2) ≤ 4294967294 := by
  have e : lowI 32 (v * 2) = v * 2 % 4294967296 := rfl
  rw [e]; omega
theorem rol_32 (v : Int) : rol1 32 v = lowI 32 (v * 2) + if topB 32 v then 1 else 0 := by
  unfold rol1 topB lowI
  have e : (2 : Int) ^ (32 - 1) = 2147483648 := rfl
  have e2 : (2 : Int) ^ ((32 : Int).toNat - 1) = 2147483648 := rfl
  have e3 : (2 : Int) ^ 32 = 4294967296 := rfl
  have e4 : (2 : Int) ^ (32 : Int).toNat = 4294967296 := rfl
  rw [e, e2, e3, e4]
  by_cases h : v / 2147483648 % 2 = 1 <;> simp [h] <;> omega
theorem low_even64 (v : Int) : 0 ≤ lowI 64 (v * 2) ∧ lowI 64 (v * 2) ≤ 18446744073709551614 := by
  have e : lowI 64 (v * 2) = v * 2 % 18446744073709551616 := rfl
  rw [e]; omega
theorem rol_64 (v : Int) : rol1 64 v = lowI 64 (v * 2) + if topB 64 v then 1 else 0 := by
  unfold rol1 topB lowI
  have e : (2 : Int) ^ (64 - 1) = 9223372036854775808 := rfl
  have e2 : (2 : Int) ^ ((64 : Int).toNat - 1) = 9223372036854775808 := rfl
  have e3 : (2 : Int) ^ 64 = 18446744073709551616 := rfl
  have e4 : (2 : Int) ^ (64 : Int).toNat = 18446744073709551616 := rfl
  rw [e, e2, e3, e4]
  by_cases h : v / 9223372036854775808 % 2 = 1 <;> simp [h] <;> omega
def StepPost (op wd v : Int) (w : World) (e : Ending) (w' : World) : Prop := e = .returned (.tuple #[.int .u64 (stO op wd v), .bool (stB op wd v)]) ∧ w = w'

set_option maxHeartbeats 1000000 in
theorem step_1 (wd v : Int) (w : World) (hw : MayW wd) (h0 : U64 v) (h1 : v < 2 ^ wd.toNat) : Calls Try.prog 49 #[.int .i64 1, .int .i64 wd, .int .u64 v] w (StepPost 1 wd v w) := by
  have hl := Lib.hid (low_wrap2 hw v)
  have hu := wrap_u (v * 2)
  obtain ⟨hW, hW2, _⟩ := W_bd hw
  go_enter Try.func49, Try.ntmps49
  go_wp2_with (first | (go_at_call 44; refine (Top_any _ _ _ (by omega) (by omega) h0).mono ?_; rintro e w1 ⟨rfl, rfl⟩) | (go_at_call 32; refine (Low_any _ _ _ hw hu).mono ?_; rw [hl.out]; rintro e w1 ⟨rfl, rfl⟩))
  go_ret2
  exact ⟨by simp [stO, stB], rfl⟩
set_option maxHeartbeats 1000000 in
theorem step_2_8 (v : Int) (w : World) (h0 : U64 v) (h1 : v < 256) : Calls Try.prog 49 #[.int .i64 2, .int .i64 8, .int .u64 v] w (StepPost 2 8 v w) := by
  have hv0 := h0.1
  go_enter Try.func49, Try.ntmps49
  go_wp2_with (first | (go_at_call 44; refine (Top_any _ _ _ (by omega) (by omega) h0).mono ?_; rintro e w1 ⟨rfl, rfl⟩))
  all_goals
    go_ret2
    refine ⟨?_, rfl⟩
    simp [stO, stB, *]
set_option maxHeartbeats 1000000 in
theorem step_2_16 (v : Int) (w : World) (h0 : U64 v) (h1 : v < 65536) : Calls Try.prog 49 #[.int .i64 2, .int .i64 16, .int .u64 v] w (StepPost 2 16 v w) := by
  have hv0 := h0.1
  go_enter Try.func49, Try.ntmps49
  go_wp2_with (first | (go_at_call 44; refine (Top_any _ _ _ (by omega) (by omega) h0).mono ?_; rintro e w1 ⟨rfl, rfl⟩))
  all_goals
    go_ret2
    refine ⟨?_, rfl⟩
    simp [stO, stB, *]
set_option maxHeartbeats 1000000 in
theorem step_2_32 (v : Int) (w : World) (h0 : U64 v) (h1 : v < 4294967296) : Calls Try.prog 49 #[.int .i64 2, .int .i64 32, .int .u64 v] w (StepPost 2 32 v w) := by
  have hv0 := h0.1
  go_enter Try.func49, Try.ntmps49
  go_wp2_with (first | (go_at_call 44; refine (Top_any _ _ _ (by omega) (by omega) h0).mono ?_; rintro e w1 ⟨rfl, rfl⟩))
  all_goals
    go_ret2
    refine ⟨?_, rfl⟩
    simp [stO, stB, *]
set_option maxHeartbeats 1000000 in
theorem step_2_64 (v : Int) (w : World) (h0 : U64 v) (h1 : v < 18446744073709551616) : Calls Try.prog 49 #[.int .i64 2, .int .i64 64, .int .u64 v] w (StepPost 2 64 v w) := by
  have hv0 := h0.1
  go_enter Try.func49, Try.ntmps49
  go_wp2_with (first | (go_at_call 44; refine (Top_any _ _ _ (by omega) (by omega) h0).mono ?_; rintro e w1 ⟨rfl, rfl⟩))
  all_goals
    go_ret2
    refine ⟨?_, rfl⟩
    simp [stO, stB, *]
set_option maxHeartbeats 1000000 in
theorem step_3_8 (v : Int) (w : World) (h0 : U64 v) (h1 : v < 256) : Calls Try.prog 49 #[.int .i64 3, .int .i64 8, .int .u64 v] w (StepPost 3 8 v w) := by
  have hv0 := h0.1
  go_enter Try.func49, Try.ntmps49
  go_wp2_with (first | (go_at_call 44; refine (Top_any _ _ _ (by omega) (by omega) h0).mono ?_; rintro e w1 ⟨rfl, rfl⟩))
  all_goals
    go_ret2
    refine ⟨?_, rfl⟩
    simp [stO, stB, *]
set_option maxHeartbeats 1000000 in
theorem step_3_16 (v : Int) (w : World) (h0 : U64 v) (h1 : v < 65536) : Calls Try.prog 49 #[.int .i64 3, .int .i64 16, .int .u64 v] w (StepPost 3 16 v w) := by
  have hv0 := h0.1
  go_enter Try.func49, Try.ntmps49
  go_wp2_with (first | (go_at_call 44; refine (Top_any _ _ _ (by omega) (by omega) h0).mono ?_; rintro e w1 ⟨rfl, rfl⟩))
  all_goals
    go_ret2
    refine ⟨?_, rfl⟩
    simp [stO, stB, *]
set_option maxHeartbeats 1000000 in
theorem step_3_32 (v : Int) (w : World) (h0 : U64 v) (h1 : v < 4294967296) : Calls Try.prog 49 #[.int .i64 3, .int .i64 32, .int .u64 v] w (StepPost 3 32 v w) := by
  have hv0 := h0.1
  go_enter Try.func49, Try.ntmps49
  go_wp2_with (first | (go_at_call 44; refine (Top_any _ _ _ (by omega) (by omega) h0).mono ?_; rintro e w1 ⟨rfl, rfl⟩))
  all_goals
    go_ret2
    refine ⟨?_, rfl⟩
    simp [stO, stB, *]
set_option maxHeartbeats 1000000 in
theorem step_3_64 (v : Int) (w : World) (h0 : U64 v) (h1 : v < 18446744073709551616) : Calls Try.prog 49 #[.int .i64 3, .int .i64 64, .int .u64 v] w (StepPost 3 64 v w) := by
  have hv0 := h0.1
  go_enter Try.func49, Try.ntmps49
  go_wp2_with (first | (go_at_call 44; refine (Top_any _ _ _ (by omega) (by omega) h0).mono ?_; rintro e w1 ⟨rfl, rfl⟩))
  all_goals
    go_ret2
    refine ⟨?_, rfl⟩
    simp [stO, stB, *]
set_option maxHeartbeats 1000000 in
theorem step_4_8 (v : Int) (w : World) (h0 : U64 v) (h1 : v < 256) : Calls Try.prog 49 #[.int .i64 4, .int .i64 8, .int .u64 v] w (StepPost 4 8 v w) := by
  have hv0 := h0.1
  have hu : U64 (v * 2) := ⟨by omega, by omega⟩
  have hlb := low_even8 v
  go_enter Try.func49, Try.ntmps49
  go_wp2_with (first | (go_at_call 44; refine (Top_any _ _ _ (by omega) (by omega) h0).mono ?_; rintro e w1 ⟨rfl, rfl⟩) | (go_at_call 32; refine (Low_any _ _ _ (MayW_8) hu).mono ?_; rintro e w1 ⟨rfl, rfl⟩))
  all_goals
    go_ret2
    refine ⟨?_, rfl⟩
    simp [stO, stB, *]
    rw [rol_8 v]; simp [*]
set_option maxHeartbeats 1000000 in
theorem step_4_16 (v : Int) (w : World) (h0 : U64 v) (h1 : v < 65536) : Calls Try.prog 49 #[.int .i64 4, .int .i64 16, .int .u64 v] w (StepPost 4 16 v w) := by
  have hv0 := h0.1
  have hu : U64 (v * 2) := ⟨by omega, by omega⟩
  have hlb := low_even16 v
  go_enter Try.func49, Try.ntmps49
  go_wp2_with (first | (go_at_call 44; refine (Top_any _ _ _ (by omega) (by omega) h0).mono ?_; rintro e w1 ⟨rfl, rfl⟩) | (go_at_call 32; refine (Low_any _ _ _ (MayW_16) hu).mono ?_; rintro e w1 ⟨rfl, rfl⟩))
  all_goals
    go_ret2
    refine ⟨?_, rfl⟩
    simp [stO, stB, *]
    rw [rol_16 v]; simp [*]
set_option maxHeartbeats 1000000 in
theorem step_4_32 (v : Int) (w : World) (h0 : U64 v) (h1 : v < 4294967296) : Calls Try.prog 49 #[.int .i64 4, .int .i64 32, .int .u64 v] w (StepPost 4 32 v w) := by
  have hv0 := h0.1
  have hu : U64 (v * 2) := ⟨by omega, by omega⟩
  have hlb := low_even32 v
  go_enter Try.func49, Try.ntmps49
  go_wp2_with (first | (go_at_call 44; refine (Top_any _ _ _ (by omega) (by omega) h0).mono ?_; rintro e w1 ⟨rfl, rfl⟩) | (go_at_call 32; refine (Low_any _ _ _ (MayW_32) hu).mono ?_; rintro e w1 ⟨rfl, rfl⟩))
  all_goals
    go_ret2
    refine ⟨?_, rfl⟩
    simp [stO, stB, *]
    rw [rol_32 v]; simp [*]
set_option maxHeartbeats 1000000 in
theorem step_4_64 (v : Int) (w : World) (h0 : U64 v) (h1 : v < 18446744073709551616) : Calls Try.prog 49 #[.int .i64 4, .int .i64 64, .int .u64 v] w (StepPost 4 64 v w) := by
  have hv0 := h0.1
  have hl := Lib.hid (low_wrap2 MayW_64 v)
  have hu := wrap_u (v * 2)
  have hlb := low_even64 v
  go_enter Try.func49, Try.ntmps49
  go_wp2_with (first | (go_at_call 44; refine (Top_any _ _ _ (by omega) (by omega) h0).mono ?_; rintro e w1 ⟨rfl, rfl⟩) | (go_at_call 32; refine (Low_any _ _ _ (MayW_64) hu).mono ?_; rw [hl.out]; rintro e w1 ⟨rfl, rfl⟩))
  all_goals
    go_ret2
    refine ⟨?_, rfl⟩
    simp [stO, stB, *]
    rw [rol_64 v]; simp [*]
set_option maxHeartbeats 1000000 in
theorem step_5_8 (v : Int) (w : World) (h0 : U64 v) (h1 : v < 256) : Calls Try.prog 49 #[.int .i64 5, .int .i64 8, .int .u64 v] w (StepPost 5 8 v w) := by
  have hv0 := h0.1
  go_enter Try.func49, Try.ntmps49
  go_wp2_with (first | (go_at_call 44; refine (Top_any _ _ _ (by omega) (by omega) h0).mono ?_; rintro e w1 ⟨rfl, rfl⟩))
  all_goals
    go_ret2
    refine ⟨?_, rfl⟩
    simp [stO, stB, *]
    unfold ror1
    rw [show (2 : Int) ^ (8 - 1) = 128 from rfl]
    rcases Int.emod_two_eq v with e | e <;> simp_all
set_option maxHeartbeats 1000000 in
theorem step_5_16 (v : Int) (w : World) (h0 : U64 v) (h1 : v < 65536) : Calls Try.prog 49 #[.int .i64 5, .int .i64 16, .int .u64 v] w (StepPost 5 16 v w) := by
  have hv0 := h0.1
  go_enter Try.func49, Try.ntmps49
  go_wp2_with (first | (go_at_call 44; refine (Top_any _ _ _ (by omega) (by omega) h0).mono ?_; rintro e w1 ⟨rfl, rfl⟩))
  all_goals
    go_ret2
    refine ⟨?_, rfl⟩
    simp [stO, stB, *]
    unfold ror1
    rw [show (2 : Int) ^ (16 - 1) = 32768 from rfl]
    rcases Int.emod_two_eq v with e | e <;> simp_all
set_option maxHeartbeats 1000000 in
theorem step_5_32 (v : Int) (w : World) (h0 : U64 v) (h1 : v < 4294967296) : Calls Try.prog 49 #[.int .i64 5, .int .i64 32, .int .u64 v] w (StepPost 5 32 v w) := by
  have hv0 := h0.1
  go_enter Try.func49, Try.ntmps49
  go_wp2_with (first | (go_at_call 44; refine (Top_any _ _ _ (by omega) (by omega) h0).mono ?_; rintro e w1 ⟨rfl, rfl⟩))
  all_goals
    go_ret2
    refine ⟨?_, rfl⟩
    simp [stO, stB, *]
    unfold ror1
    rw [show (2 : Int) ^ (32 - 1) = 2147483648 from rfl]
    rcases Int.emod_two_eq v with e | e <;> simp_all
set_option maxHeartbeats 1000000 in
theorem step_5_64 (v : Int) (w : World) (h0 : U64 v) (h1 : v < 18446744073709551616) : Calls Try.prog 49 #[.int .i64 5, .int .i64 64, .int .u64 v] w (StepPost 5 64 v w) := by
  have hv0 := h0.1
  go_enter Try.func49, Try.ntmps49
  go_wp2_with (first | (go_at_call 44; refine (Top_any _ _ _ (by omega) (by omega) h0).mono ?_; rintro e w1 ⟨rfl, rfl⟩))
  all_goals
    go_ret2
    refine ⟨?_, rfl⟩
    simp [stO, stB, *]
    unfold ror1
    rw [show (2 : Int) ^ (64 - 1) = 9223372036854775808 from rfl]
    rcases Int.emod_two_eq v with e | e <;> simp_all

theorem step_any (op wd v : Int) (w : World) (hw : MayW wd) (h0 : U64 v) (h1 : v < 2 ^ wd.toNat) (hop : op = 1 ∨ op = 2 ∨ op = 3 ∨ op = 4 ∨ op = 5) : Calls Try.prog 49 #[.int .i64 op, .int .i64 wd, .int .u64 v] w (StepPost op wd v w) := by
  rcases hop with rfl | rfl | rfl | rfl | rfl
  · exact step_1 wd v w hw h0 h1
  · rcases hw with rfl | rfl | rfl | rfl
    · exact step_2_8 v w h0 h1
    · exact step_2_16 v w h0 h1
    · exact step_2_32 v w h0 h1
    · exact step_2_64 v w h0 h1
  · rcases hw with rfl | rfl | rfl | rfl
    · exact step_3_8 v w h0 h1
    · exact step_3_16 v w h0 h1
    · exact step_3_32 v w h0 h1
    · exact step_3_64 v w h0 h1
  · rcases hw with rfl | rfl | rfl | rfl
    · exact step_4_8 v w h0 h1
    · exact step_4_16 v w h0 h1
    · exact step_4_32 v w h0 h1
    · exact step_4_64 v w h0 h1
  · rcases hw with rfl | rfl | rfl | rfl
    · exact step_5_8 v w h0 h1
    · exact step_5_16 v w h0 h1
    · exact step_5_32 v w h0 h1
    · exact step_5_64 v w h0 h1

end Go.Proofs.Ytkfenljldmbmcaa
