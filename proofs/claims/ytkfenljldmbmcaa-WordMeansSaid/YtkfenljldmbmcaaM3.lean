/- Plain arithmetic: shifts and rotations. -/
import Derived.Test.YtkfenljldmbmcaaM2
set_option linter.unusedSimpArgs false
set_option linter.unusedVariables false
namespace Go.Proofs.Ytkfenljldmbmcaa
open Go.RowKit

/-- a rotation to the left, by r at most W -/
def rotl (W r : Nat) (A : Int) : Int := A * 2 ^ r % 2 ^ W + A / 2 ^ (W - r)
/-- .. by one -/
def rol1 (W : Nat) (v : Int) : Int := v * 2 % 2 ^ W + v / 2 ^ (W - 1) % 2
def ror1 (W : Nat) (v : Int) : Int := v / 2 + v % 2 * 2 ^ (W - 1)

theorem pow_split (W r : Nat) (h : r ≤ W) : (2 : Int) ^ W = 2 ^ r * 2 ^ (W - r) := by
  rw [← Int.pow_add]; congr 1; omega
/-- A rotation's halves: A = Q h + l. -/
theorem rotl_halves {W r : Nat} {A : Int} (hr : r ≤ W) (h0 : 0 ≤ A) (h1 : A < 2 ^ W) :
    rotl W r A = A % 2 ^ (W - r) * 2 ^ r + A / 2 ^ (W - r) ∧ 0 ≤ A / 2 ^ (W - r) ∧ A / 2 ^ (W - r) < 2 ^ r ∧ 0 ≤ A % 2 ^ (W - r) ∧ A % 2 ^ (W - r) < 2 ^ (W - r) := by
  have hP := two_pow_pos r
  have hQ := two_pow_pos (W - r)
  have e := pow_split W r hr
  generalize hPd : (2 : Int) ^ r = P at *
  generalize hQd : (2 : Int) ^ (W - r) = Q at *
  have hl0 := Int.emod_nonneg A (Int.ne_of_gt hQ)
  have hl1 := Int.emod_lt_of_pos A hQ
  have hh0 := Int.ediv_nonneg h0 (Int.le_of_lt hQ)
  have hh1 : A / Q < P := Int.ediv_lt_of_lt_mul hQ (by rw [← e]; exact h1)
  have hA := Int.emod_add_mul_ediv A Q
  have hlP : A % Q * P < 2 ^ W := by
    rw [e, Int.mul_comm P Q]; exact Int.mul_lt_mul_of_pos_right hl1 hP
  have hm : A * P % 2 ^ W = A % Q * P := by
    refine emod_of _ _ (A / Q) _ ?_ (Int.mul_nonneg hl0 (Int.le_of_lt hP)) hlP
    conv => lhs; rw [← hA]
    rw [Int.add_mul, e]
    congr 1
    rw [Int.mul_assoc, Int.mul_comm (A / Q) P, ← Int.mul_assoc, Int.mul_comm Q P]
  exact ⟨by unfold rotl; rw [hPd, hQd, hm], hh0, hh1, hl0, hl1⟩
theorem rotl_bd {W r : Nat} {A : Int} (hr : r ≤ W) (h0 : 0 ≤ A) (h1 : A < 2 ^ W) : 0 ≤ rotl W r A ∧ rotl W r A < 2 ^ W := by
  obtain ⟨e, a, b, c, d⟩ := rotl_halves hr h0 h1
  have hP := two_pow_pos r
  have es := pow_split W r hr
  rw [e, es]
  generalize (2 : Int) ^ r = P at *
  generalize (2 : Int) ^ (W - r) = Q at *
  generalize A % Q = l at *
  generalize A / Q = h at *
  have h2 : l * P ≤ (Q - 1) * P := Int.mul_le_mul_of_nonneg_right (by omega) (by omega)
  have h3 := Int.mul_nonneg c (Int.le_of_lt hP)
  rw [Int.sub_mul, Int.one_mul, Int.mul_comm Q P] at h2
  omega
theorem rotl_0 {W : Nat} {A : Int} (h0 : 0 ≤ A) (h1 : A < 2 ^ W) : rotl W 0 A = A := by
  unfold rotl
  simp [Int.emod_eq_of_lt h0 h1, Int.ediv_eq_zero_of_lt h0 h1]
theorem rotl_W {W : Nat} {A : Int} : rotl W W A = A := by simp [rotl]
theorem rotl_succ {W r : Nat} {A : Int} (hr : r + 1 ≤ W) (h0 : 0 ≤ A) (h1 : A < 2 ^ W) : rol1 W (rotl W r A) = rotl W (r + 1) A := by
  obtain ⟨e, a, b, c, d⟩ := rotl_halves (r := r) (by omega) h0 h1
  obtain ⟨e', a', b', c', d'⟩ := rotl_halves (r := r + 1) hr h0 h1
  have hP := two_pow_pos r
  have hQ := two_pow_pos (W - (r + 1))
  have eQ : (2 : Int) ^ (W - r) = 2 ^ (W - (r + 1)) * 2 := by rw [← two_pow_succ]; congr 1; omega
  have eM : (2 : Int) ^ (W - 1) = 2 ^ r * 2 ^ (W - (r + 1)) := by rw [← Int.pow_add]; congr 1; omega
  have eM2 : (2 : Int) ^ W = 2 ^ r * 2 ^ (W - (r + 1)) * 2 := by rw [← eM, ← two_pow_succ]; congr 1; omega
  have hA := Int.emod_add_mul_ediv A (2 ^ (W - (r + 1)))
  rw [e, e']
  unfold rol1
  rw [eM, eM2, two_pow_succ]
  rw [eQ] at a b c d ⊢
  generalize (2 : Int) ^ r = P at *
  generalize (2 : Int) ^ (W - (r + 1)) = Q at *
  -- A = Q h' + l'; h' = 2 h + t
  have ht : A / (Q * 2) = A / Q / 2 := (Int.ediv_ediv_of_nonneg (by omega)).symm
  have hl : A % (Q * 2) = A % Q + Q * (A / Q % 2) := emod_two A Q hQ
  rw [ht, hl]
  generalize A / Q = h at *
  generalize A % Q = l at *
  have hv : (l + Q * (h % 2)) * P + h / 2 = (l * P + h / 2) + P * Q * (h % 2) := by
    rw [Int.add_mul, Int.mul_right_comm, Int.mul_comm Q P]; omega
  rw [hv]
  have h2 : l * P ≤ (Q - 1) * P := Int.mul_le_mul_of_nonneg_right (by omega) (by omega)
  have h3 := Int.mul_nonneg c' (Int.le_of_lt hP)
  rw [Int.sub_mul, Int.one_mul, Int.mul_comm Q P] at h2
  rw [two_pow_succ] at b'
  have hPQ : 0 < P * Q := Int.mul_pos hP hQ
  have hu0 : 0 ≤ l * P + h / 2 := by omega
  have hu1 : l * P + h / 2 < P * Q := by omega
  have hd : (l * P + h / 2 + P * Q * (h % 2)) / (P * Q) = h % 2 := ediv_of _ _ _ _ rfl hu0 hu1
  have hm : (l * P + h / 2 + P * Q * (h % 2)) * 2 % (P * Q * 2) = (l * P + h / 2) * 2 := by
    refine emod_of _ _ (h % 2) _ ?_ (by omega) (by omega)
    rw [Int.add_mul]; congr 1; rw [Int.mul_right_comm]
  rw [hd, hm]
  have : l * (P * 2) = l * P * 2 := by rw [Int.mul_assoc]
  omega
theorem ror1_rol1 {W : Nat} {v : Int} (hW : 1 ≤ W) (h0 : 0 ≤ v) (h1 : v < 2 ^ W) : ror1 W (rol1 W v) = v := by
  have hp := two_pow_pos (W - 1)
  have eM : (2 : Int) ^ W = 2 ^ (W - 1) * 2 := by rw [← two_pow_succ]; congr 1; omega
  unfold ror1 rol1
  rw [eM] at h1 ⊢
  generalize (2 : Int) ^ (W - 1) = M at *
  have hA := Int.emod_add_mul_ediv v M
  have hl0 := Int.emod_nonneg v (Int.ne_of_gt hp)
  have hl1 := Int.emod_lt_of_pos v hp
  have hd0 := Int.ediv_nonneg h0 (Int.le_of_lt hp)
  have hd1 : v / M < 2 := Int.ediv_lt_of_lt_mul hp (by omega)
  have ht : v / M = 0 ∨ v / M = 1 := by omega
  generalize v / M = t at *
  generalize v % M = l at *
  subst hA
  have hm : (l + M * t) * 2 % (M * 2) = l * 2 := by
    refine emod_of _ _ t _ ?_ (by omega) (by omega)
    rw [Int.add_mul]; congr 1; rw [Int.mul_right_comm]
  rw [hm]
  rcases ht with rfl | rfl <;> simp <;> omega

end Go.Proofs.Ytkfenljldmbmcaa
