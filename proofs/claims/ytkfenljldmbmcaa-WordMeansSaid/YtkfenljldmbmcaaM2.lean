/- Plain arithmetic: products with signs. -/
import Derived.Test.YtkfenljldmbmcaaM
set_option linter.unusedSimpArgs false
set_option linter.unusedVariables false
namespace Go.Proofs.Ytkfenljldmbmcaa
open Go.RowKit

def sgnS (wd a : Int) : Int := if topB wd (lowI wd a) then lowI wd a - 2 ^ wd.toNat else lowI wd a
def prodS (wd a b : Int) : Int := sgnS wd a * sgnS wd b
def mulO (wd a b : Int) : Int := prodS wd a b % 2 ^ wd.toNat
def mulC (wd a b : Int) : Bool := !decide (sgnS wd (mulO wd a b) = prodS wd a b)

theorem low_bd (wd a : Int) : 0 ≤ lowI wd a ∧ lowI wd a < 2 ^ wd.toNat := ⟨Int.emod_nonneg _ (Int.ne_of_gt (two_pow_pos _)), Int.emod_lt_of_pos _ (two_pow_pos _)⟩
theorem sgn_bd8 (l : Int) (h0 : 0 ≤ l) (h1 : l < 256) : (topB 8 l = true → 128 ≤ l) ∧ (topB 8 l = false → l < 128) := by
  have e : topB 8 l = decide (l / 128 % 2 = 1) := rfl
  rw [e, decide_eq_true_eq, decide_eq_false_iff_not]; omega
theorem sgn_bd16 (l : Int) (h0 : 0 ≤ l) (h1 : l < 65536) : (topB 16 l = true → 32768 ≤ l) ∧ (topB 16 l = false → l < 32768) := by
  have e : topB 16 l = decide (l / 32768 % 2 = 1) := rfl
  rw [e, decide_eq_true_eq, decide_eq_false_iff_not]; omega
theorem sgn_bd32 (l : Int) (h0 : 0 ≤ l) (h1 : l < 4294967296) : (topB 32 l = true → 2147483648 ≤ l) ∧ (topB 32 l = false → l < 2147483648) := by
  have e : topB 32 l = decide (l / 2147483648 % 2 = 1) := rfl
  rw [e, decide_eq_true_eq, decide_eq_false_iff_not]; omega
theorem sgn_bd64 (l : Int) (h0 : 0 ≤ l) (h1 : l < 18446744073709551616) : (topB 64 l = true → 9223372036854775808 ≤ l) ∧ (topB 64 l = false → l < 9223372036854775808) := by
  have e : topB 64 l = decide (l / 9223372036854775808 % 2 = 1) := rfl
  rw [e, decide_eq_true_eq, decide_eq_false_iff_not]; omega
theorem sgnS_bd {wd : Int} (hw : MayW wd) (a : Int) : -9223372036854775808 ≤ sgnS wd a ∧ sgnS wd a < 9223372036854775808 := by
  obtain ⟨h0, h1⟩ := low_bd wd a
  unfold sgnS
  generalize lowI wd a = l at *
  rcases hw with rfl | rfl | rfl | rfl
  · have h2 := sgn_bd8 l h0 h1
    have h1' : l < 256 := h1
    have e : (2 : Int) ^ (8 : Int).toNat = 256 := rfl
    rw [e]; split <;> omega
  · have h2 := sgn_bd16 l h0 h1
    have h1' : l < 65536 := h1
    have e : (2 : Int) ^ (16 : Int).toNat = 65536 := rfl
    rw [e]; split <;> omega
  · have h2 := sgn_bd32 l h0 h1
    have h1' : l < 4294967296 := h1
    have e : (2 : Int) ^ (32 : Int).toNat = 4294967296 := rfl
    rw [e]; split <;> omega
  · have h2 := sgn_bd64 l h0 h1
    have h1' : l < 18446744073709551616 := h1
    have e : (2 : Int) ^ (64 : Int).toNat = 18446744073709551616 := rfl
    rw [e]
    cases ht : topB 64 l
    · have := h2.2 ht; simp; omega
    · have := h2.1 ht; simp; omega
theorem signI_sgn {wd : Int} (hw : MayW wd) (a : Int) : signI wd a = sgnS wd a % 18446744073709551616 := by
  cases h : topB wd (lowI wd a) <;> rcases hw with rfl | rfl | rfl | rfl <;> simp [sgnS, signI, h] <;> simp [lowI] <;> omega
theorem signI_cases {wd : Int} (hw : MayW wd) (a : Int) : (0 ≤ sgnS wd a ∧ signI wd a = sgnS wd a) ∨ (sgnS wd a < 0 ∧ signI wd a = sgnS wd a + 18446744073709551616) := by
  have h1 := signI_sgn hw a
  have h2 := sgnS_bd hw a
  omega
theorem wrap64_sign {wd : Int} (hw : MayW wd) (a : Int) : wrap64 (signI wd a) = sgnS wd a := by
  have h1 := signI_sgn hw a
  have h2 := sgnS_bd hw a
  unfold wrap64
  omega
theorem sgnS_mod {wd : Int} (hw : MayW wd) (a : Int) : sgnS wd a % 2 ^ wd.toNat = a % 2 ^ wd.toNat := by
  cases h : topB wd (lowI wd a) <;> rcases hw with rfl | rfl | rfl | rfl <;> simp [sgnS, h] <;> simp [lowI]
theorem prodS_bd {wd : Int} (hw : MayW wd) (a b : Int) : -85070591730234615865843651857942052864 ≤ prodS wd a b ∧ prodS wd a b ≤ 85070591730234615865843651857942052864 := by
  have h1 := sgnS_bd hw a
  have h2 := sgnS_bd hw b
  have h3 : (prodS wd a b).natAbs ≤ 9223372036854775808 * 9223372036854775808 := by
    unfold prodS
    rw [Int.natAbs_mul]
    exact Nat.mul_le_mul (by omega) (by omega)
  omega
/-- the low half of the product of the two words, and the high half less what the signs add -/
theorem prod_halves {wd : Int} (hw : MayW wd) (a b : Int) :
    signI wd a * signI wd b % 18446744073709551616 = prodS wd a b % 18446744073709551616 ∧
    (signI wd a * signI wd b / 18446744073709551616 - ((if sgnS wd a < 0 then signI wd b else 0) + (if sgnS wd b < 0 then signI wd a else 0))) % 18446744073709551616 = prodS wd a b / 18446744073709551616 % 18446744073709551616 := by
  have hp := prodS_bd hw a b
  rcases signI_cases hw a with ⟨ha, ea⟩ | ⟨ha, ea⟩ <;> rcases signI_cases hw b with ⟨hb, eb⟩ | ⟨hb, eb⟩ <;> rw [ea, eb] <;>
    (try simp only [Int.add_mul, Int.mul_add]) <;> (rw [show sgnS wd a * sgnS wd b = prodS wd a b from rfl]; generalize prodS wd a b = p at *; generalize sgnS wd a = x at *; generalize sgnS wd b = y at *; (try split) <;> (try split) <;> constructor <;> omega)
theorem mul_key (t p : Int) (h1 : -9223372036854775808 ≤ t) (h2 : t < 9223372036854775808) (h3 : -85070591730234615865843651857942052864 ≤ p) (h4 : p ≤ 85070591730234615865843651857942052864) :
    (t % 18446744073709551616 = p % 18446744073709551616 ∧ p / 18446744073709551616 % 18446744073709551616 = t / 9223372036854775808 % 18446744073709551616) ↔ t = p := by
  have hK : -4611686018427387904 ≤ p / 18446744073709551616 ∧ p / 18446744073709551616 ≤ 4611686018427387904 := by omega
  have ht : (t < 0 ∧ t / 9223372036854775808 = -1) ∨ (0 ≤ t ∧ t / 9223372036854775808 = 0) := by omega
  constructor
  · rintro ⟨e1, e2⟩
    rcases ht with ⟨h, ht⟩ | ⟨h, ht⟩
    · have : p / 18446744073709551616 = -1 := by rw [ht] at e2; omega
      omega
    · have : p / 18446744073709551616 = 0 := by rw [ht] at e2; omega
      omega
  · rintro rfl
    refine ⟨rfl, ?_⟩
    rcases ht with ⟨h, ht⟩ | ⟨h, ht⟩
    · rw [ht, show t / 18446744073709551616 = -1 from by omega]
    · rw [ht, show t / 18446744073709551616 = 0 from by omega]
theorem prodS_low {wd : Int} (hw : MayW wd) (a b : Int) : mulO wd a b = lowI wd (a * b) := by
  unfold mulO lowI prodS
  rw [Int.mul_emod, sgnS_mod hw, sgnS_mod hw, ← Int.mul_emod]
theorem low_mod {wd : Int} (hw : MayW wd) (p : Int) : lowI wd (p % 18446744073709551616) = p % 2 ^ wd.toNat := by
  unfold lowI
  rcases hw with rfl | rfl | rfl | rfl <;> simp <;> omega
theorem and_all (y : Int) (h : U64 y) : bits BinOp.and IntKind.u64 18446744073709551615 y = y := by
  obtain ⟨h0, h1⟩ := h
  rw [u64_and _ _ (by omega) (by omega) h0 h1]
  have : (18446744073709551615 : Int).toNat = 2 ^ 64 - 1 := rfl
  rw [this, Nat.and_comm, Nat.and_two_pow_sub_one_eq_mod, Nat.mod_eq_of_lt (by omega)]
  omega
theorem and_none (y : Int) (h : U64 y) : bits BinOp.and IntKind.u64 0 y = 0 := by
  obtain ⟨h0, h1⟩ := h
  rw [u64_and _ _ (by omega) (by omega) h0 h1]
  simp
theorem and_sign {x y : Int} (hx1 : -9223372036854775808 ≤ x) (hx2 : x < 9223372036854775808) (h : U64 y) :
    bits BinOp.and IntKind.u64 (IntKind.u64.wrap (x / 9223372036854775808)) y = if x < 0 then y else 0 := by
  rw [IntKind.wrap_u64]
  split
  · rw [show x / 9223372036854775808 % 18446744073709551616 = 18446744073709551615 from by omega, and_all y h]
  · rw [show x / 9223372036854775808 % 18446744073709551616 = 0 from by omega, and_none y h]
theorem mulO_u {wd : Int} (hw : MayW wd) (a b : Int) : U64 (mulO wd a b) := by
  rw [prodS_low hw]; exact low_lt hw
theorem wrap_wrap64 (x : Int) (h : U64 x) : IntKind.u64.wrap (wrap64 x) = x := by
  obtain ⟨h0, h1⟩ := h
  rw [IntKind.wrap_u64]; unfold wrap64; omega
/-- what times says of a product that does not fit -/
theorem mul_wide {wd : Int} (hw : MayW wd) (a b : Int) :
    mulC wd a b = (signI wd (mulO wd a b) != prodS wd a b % 18446744073709551616 || prodS wd a b / 18446744073709551616 % 18446744073709551616 != IntKind.u64.wrap (wrap64 (signI wd (mulO wd a b)) / 9223372036854775808)) := by
  have h1 := sgnS_bd hw (mulO wd a b)
  have h2 := prodS_bd hw a b
  have hk := mul_key (sgnS wd (mulO wd a b)) (prodS wd a b) h1.1 h1.2 h2.1 h2.2
  rw [wrap64_sign hw, signI_sgn hw, IntKind.wrap_u64]
  unfold mulC
  rw [Bool.eq_iff_iff]
  simp only [Bool.not_eq_true', decide_eq_false_iff_not, Bool.or_eq_true, bne_iff_ne, ne_eq, ← hk, Classical.not_and_iff_not_or_not]

end Go.Proofs.Ytkfenljldmbmcaa
