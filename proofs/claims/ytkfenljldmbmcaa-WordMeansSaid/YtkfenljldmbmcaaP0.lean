/- Plain arithmetic: what Shift reckons is the chapter's answer. -/
import Derived.Test.YtkfenljldmbmcaaM4
set_option linter.unusedSimpArgs false
set_option linter.unusedVariables false
namespace Go.Proofs.Ytkfenljldmbmcaa
open Go.RowKit

theorem rot_or {wd A : Int} (hw : MayW wd) (h0 : 0 ≤ A) (h1 : A < 2 ^ wd.toNat) (r q : Nat) (hr : r < wd.toNat) (hq : q = wd.toNat - r) :
    lowI wd (bits BinOp.or IntKind.u64 (IntKind.u64.wrap (A * 2 ^ r)) (A / 2 ^ q)) = rotl wd.toNat r A := by
  obtain ⟨hW1, hW2, _⟩ := W_bd hw
  obtain ⟨e, a, b, _, _⟩ := rotl_halves (r := r) (by omega) h0 h1
  obtain ⟨rb0, rb1⟩ := rotl_bd (r := r) (by omega) h0 h1
  have hM64 := two_pow_le wd.toNat 64 hW2
  have hr64 := two_pow_le r 64 (by omega)
  subst hq
  have hP := two_pow_pos r
  have hU : IntKind.u64.wrap (A * 2 ^ r) = 2 ^ r * (A % 2 ^ (64 - r)) := by
    rw [IntKind.wrap_u64, show (18446744073709551616 : Int) = 2 ^ r * 2 ^ (64 - r) from (pow_split 64 r (by omega)), Int.mul_comm A, Int.mul_emod_mul_of_pos _ _ hP]
  have hUu : 0 ≤ IntKind.u64.wrap (A * 2 ^ r) ∧ IntKind.u64.wrap (A * 2 ^ r) < 18446744073709551616 := by rw [IntKind.wrap_u64]; omega
  have hx0 := Int.emod_nonneg A (Int.ne_of_gt (two_pow_pos (64 - r)))
  have hor : bits BinOp.or IntKind.u64 (IntKind.u64.wrap (A * 2 ^ r)) (A / 2 ^ (wd.toNat - r)) = IntKind.u64.wrap (A * 2 ^ r) + A / 2 ^ (wd.toNat - r) := by
    rw [u64_or _ _ hUu.1 hUu.2 a (by omega), nat_join r]
    · omega
    · rw [hU]
      obtain ⟨X, hX⟩ := Int.eq_ofNat_of_zero_le hx0
      rw [hX]
      have : ((2 : Int) ^ r * (X : Int)).toNat = 2 ^ r * X := by
        have : ((2 ^ r * X : Nat) : Int) = (2 : Int) ^ r * (X : Int) := by simp
        omega
      rw [this]; exact Nat.mul_mod_right _ _
    · have : ((2 ^ r : Nat) : Int) = (2 : Int) ^ r := by simp
      omega
  rw [hor]
  have hlow : lowI wd (IntKind.u64.wrap (A * 2 ^ r)) = A * 2 ^ r % 2 ^ wd.toNat := by rw [IntKind.wrap_u64]; exact low_mod hw _
  unfold lowI at hlow ⊢
  have hre : rotl wd.toNat r A = A * 2 ^ r % 2 ^ wd.toNat + A / 2 ^ (wd.toNat - r) := rfl
  rw [hre] at rb0 rb1 ⊢
  rw [← hlow] at rb0 rb1 ⊢
  rw [← Int.emod_add_emod, Int.emod_eq_of_lt rb0 rb1]
theorem low_shl {wd A : Int} (hw : MayW wd) (n : Nat) : lowI wd (IntKind.u64.wrap (A * 2 ^ n)) = shO 1 wd A n := by
  rw [IntKind.wrap_u64, low_mod hw]; simp [shO]
theorem top_shl {wd A : Int} (hw : MayW wd) (n : Nat) : topB wd (IntKind.u64.wrap (A * 2 ^ n)) = topB wd (A * 2 ^ n) := by
  rw [IntKind.wrap_u64]
  unfold topB
  rw [decide_eq_decide]
  rcases hw with rfl | rfl | rfl | rfl <;> simp <;> omega
theorem low_sar {wd A : Int} (hw : MayW wd) (n : Nat) : lowI wd (IntKind.u64.wrap (wrap64 (signI wd A) / 2 ^ n)) = shO 3 wd A n := by
  rw [IntKind.wrap_u64, low_mod hw, wrap64_sign hw]; simp [shO]
theorem and1_i64 (n : Int) : bits BinOp.and IntKind.i64 n 1 = n % 2 := by
  have h127 : (BitVec.ofInt 64 1).toNat = 2 ^ 1 - 1 := by decide
  have key : (BitVec.ofInt 64 n &&& BitVec.ofInt 64 1).toNat = (n % ((2 ^ 64 : Nat) : Int)).toNat % 2 ^ 1 := by
    rw [BitVec.toNat_and, BitVec.toNat_ofInt, h127, Nat.and_two_pow_sub_one_eq_mod]
  show IntKind.i64.wrap ((BitVec.ofInt 64 n &&& BitVec.ofInt 64 1).toNat : Nat) = n % 2
  rw [key, IntKind.wrap_i64]
  omega
theorem and31_u64 (x : Int) (h : U64 x) : bits BinOp.and IntKind.u64 x 31 = x % 32 := by
  obtain ⟨h0, h1⟩ := h
  rw [u64_and _ _ h0 h1 (by omega) (by omega), show (31 : Int).toNat = 31 from rfl, nat_mask5]
  omega
theorem and63_u64 (x : Int) (h : U64 x) : bits BinOp.and IntKind.u64 x 63 = x % 64 := by
  obtain ⟨h0, h1⟩ := h
  rw [u64_and _ _ h0 h1 (by omega) (by omega), show (63 : Int).toNat = 63 from rfl, nat_mask6]
  omega

end Go.Proofs.Ytkfenljldmbmcaa
