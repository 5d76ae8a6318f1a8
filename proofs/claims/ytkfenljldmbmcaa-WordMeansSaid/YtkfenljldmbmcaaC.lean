/- The contracts of the reference's loops over bits. -/
import Derived.Test.YtkfenljldmbmcaaB
import Derived.Test.YtkfenljldmbmcaaM
set_option linter.unusedSimpArgs false
set_option linter.unusedVariables false
namespace Go.Proofs.Ytkfenljldmbmcaa
open Go.RowKit

set_option maxHeartbeats 400000 in
theorem Signed_any (wd a : Int) (w : World) (hw : MayW wd) (h : U64 a) :
    Calls Try.prog 33 #[.int .i64 wd, .int .u64 a] w fun e w' => e = .returned (.int .u64 (signI wd a)) ∧ w = w' := by
  have hl := low_lt (a := a) hw
  have hp1 : 1 ≤ wd := by rcases hw with rfl | rfl | rfl | rfl <;> omega
  have hp2 : wd ≤ 64 := by rcases hw with rfl | rfl | rfl | rfl <;> omega
  go_enter Try.func33, Try.ntmps33
  go_wp2_with (first | (go_at_call 32; refine (Low_any _ _ _ hw h).mono ?_; rintro e w' ⟨rfl, rfl⟩))
  go_loop [1, 5] (fun x i => ∃ (k : Nat) (y : Int), k ≤ 64 ∧ SgnR wd a k y ∧ U64 y ∧ i = .int .i64 k ∧ x = .int .u64 y) (fun _ i => 64 - (intOf i).toNat)
  case atStart => exact ⟨wd.toNat, _, by omega, SgnR_start wd a, hl, by rw [Int.toNat_of_nonneg (by omega)], rfl⟩
  case round =>
    obtain ⟨k, y, hk, hy, hu, rfl, rfl⟩ := hrel
    by_cases hlt : k < 64
    · cases ht : topB wd y
      · go_wp2_with (first | (go_at_call 44; refine (Top_any _ _ _ hp1 hp2 hu).mono ?_; rintro e w' ⟨rfl, rfl⟩))
        go_ret
        exact ⟨ret_u64 (SgnR_no wd a k y hw hy ht), rfl⟩
      · go_wp2_with (first | (go_at_call 44; refine (Top_any _ _ _ hp1 hp2 hu).mono ?_; rintro e w' ⟨rfl, rfl⟩))
        have hs := SgnR_step wd a k y hw hy hu hlt ht
        exact ⟨⟨k + 1, _, by omega, hs.1, hs.2, by go_num, rfl⟩, by simp [intOf]; omega⟩
    · obtain rfl : k = 64 := by omega
      go_wp2
      go_ret
      exact ⟨ret_u64 (SgnR_end wd a y hw hy), rfl⟩

theorem AddR_u64 {a b : Int} {c q : Bool} {k : Nat} {y : Int} (h : AddR a b c k y q) (hk : k ≤ 64) : U64 y := by
  obtain ⟨rfl, _⟩ := h
  have h0 := Int.emod_nonneg (addK a b c k) (Int.ne_of_gt (two_pow_pos k))
  have h1 := Int.emod_lt_of_pos (addK a b c k) (two_pow_pos k)
  have h2 := two_pow_le k 64 hk
  exact ⟨h0, by omega⟩

set_option maxHeartbeats 400000 in
theorem add_any (wd a b : Int) (c : Bool) (w : World) (hw : MayW wd) (h : U64 a) (hb : U64 b) :
    Calls Try.prog 43 #[.int .i64 wd, .int .u64 a, .int .u64 b, .bool c] w fun e w' =>
      e = .returned (.tuple #[.int .u64 (addK a b c wd.toNat % 2 ^ wd.toNat), .bool (decide (addK a b c wd.toNat / 2 ^ wd.toNat = 1))]) ∧ w = w' := by
  have hp1 : 1 ≤ wd := by rcases hw with rfl | rfl | rfl | rfl <;> omega
  have hp2 : wd ≤ 64 := by rcases hw with rfl | rfl | rfl | rfl <;> omega
  go_enter Try.func43, Try.ntmps43
  go_wp2
  go_loop [3, 10, 11] (fun q o i => ∃ (k : Nat) (y : Int) (r : Bool), (k : Int) ≤ wd ∧ AddR a b c k y r ∧ i = .int .i64 k ∧ o = .int .u64 y ∧ q = .bool r) (fun _ _ i => (wd - intOf i).toNat)
  case atStart => exact ⟨0, 0, c, by omega, AddR_0 a b c, rfl, rfl, rfl⟩
  case round =>
    obtain ⟨k, y, r, hk, hy, rfl, rfl, rfl⟩ := hrel
    have ha' := sh_bd a h.1 k
    have hb' := sh_bd b hb.1 k
    by_cases hlt : (k : Int) < wd
    · cases r
      · go_wp2
        have hs := AddR_step a b c false k y (by omega) hy (a / 2 ^ k % 2 + b / 2 ^ k % 2) (by simp)
        rw [show (a / 2 ^ k % 2 + b / 2 ^ k % 2) % 2 = (a / 2 ^ k + b / 2 ^ k) % 2 from by omega] at hs
        exact ⟨⟨k + 1, _, _, by omega, hs, by go_num, rfl, rfl⟩, by simp [intOf]; omega⟩
      · go_wp2
        have hs := AddR_step a b c true k y (by omega) hy (a / 2 ^ k % 2 + b / 2 ^ k % 2 + 1) (by simp; omega)
        exact ⟨⟨k + 1, _, _, by omega, hs, by go_num, rfl, rfl⟩, by simp [intOf]; omega⟩
    · obtain rfl : wd = (k : Int) := by omega
      go_wp2
      obtain ⟨rfl, rfl⟩ := hy
      go_ret2
      exact ⟨by simp, rfl⟩

end Go.Proofs.Ytkfenljldmbmcaa
