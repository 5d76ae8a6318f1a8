/- Plain arithmetic: the shifts and rotations of the chapter, and the reference's steps. -/
import Derived.Test.YtkfenljldmbmcaaM3
set_option linter.unusedSimpArgs false
set_option linter.unusedVariables false
namespace Go.Proofs.Ytkfenljldmbmcaa
open Go.RowKit

/-- the answer of a shift by n -/
def shO (op wd A : Int) (n : Nat) : Int :=
  if op = 1 then A * 2 ^ n % 2 ^ wd.toNat else if op = 2 then A / 2 ^ n else if op = 3 then sgnS wd A / 2 ^ n % 2 ^ wd.toNat
  else if op = 4 then rotl wd.toNat (n % wd.toNat) A else rotl wd.toNat ((wd.toNat - n % wd.toNat) % wd.toNat) A
/-- C, behind a shift by n, which is not 0 -/
def shC (op wd A : Int) (n : Nat) : Bool :=
  if op = 1 then decide (n ≤ wd.toNat) && topB wd (A * 2 ^ (n - 1)) else if op = 2 then (A / 2 ^ (n - 1) % 2 == 1) else if op = 3 then (sgnS wd A / 2 ^ (n - 1) % 2 == 1)
  else if op = 4 then (shO 4 wd A n % 2 == 1) else topB wd (shO op wd A n)
def shV (op wd A : Int) (n : Nat) : Bool :=
  if op = 1 then shC 1 wd A n != topB wd (shO 1 wd A n) else if op = 2 then topB wd A else if op = 3 then false
  else if op = 4 then shC 4 wd A n != topB wd (shO 4 wd A n) else shC op wd A n != topB (wd - 1) (shO op wd A n)
/-- one step, and the bit that goes out -/
def stO (op wd v : Int) : Int :=
  if op = 1 then lowI wd (v * 2) else if op = 2 then v / 2 else if op = 3 then v / 2 + (if topB wd v then 2 ^ (wd.toNat - 1) else 0) else if op = 4 then rol1 wd.toNat v else ror1 wd.toNat v
def stB (op wd v : Int) : Bool := if op = 1 ∨ op = 4 then topB wd v else (v % 2 == 1)

theorem W_bd {wd : Int} (hw : MayW wd) : 8 ≤ wd.toNat ∧ wd.toNat ≤ 64 ∧ (wd.toNat : Int) = wd := by rcases hw with rfl | rfl | rfl | rfl <;> simp
theorem top_lt {wd v : Int} (hw : MayW wd) (h0 : 0 ≤ v) (h1 : v < 2 ^ wd.toNat) : topB wd v = decide (2 ^ (wd.toNat - 1) ≤ v) ∧ v / 2 ^ (wd.toNat - 1) % 2 = (if topB wd v then 1 else 0) := by
  obtain ⟨hW, _, _⟩ := W_bd hw
  have eM : (2 : Int) ^ wd.toNat = 2 ^ (wd.toNat - 1) * 2 := by rw [← two_pow_succ]; congr 1; omega
  have hp := two_pow_pos (wd.toNat - 1)
  rw [eM] at h1
  unfold topB
  generalize (2 : Int) ^ (wd.toNat - 1) = M at *
  by_cases h : M ≤ v
  · have : v / M = 1 := ediv_of v M 1 (v - M) (by omega) (by omega) (by omega)
    rw [this]; simp [h]
  · have : v / M = 0 := Int.ediv_eq_zero_of_lt h0 (by omega)
    rw [this]; simp [h]
theorem sgnS_low {wd A : Int} (hw : MayW wd) (h0 : 0 ≤ A) (h1 : A < 2 ^ wd.toNat) : sgnS wd A = if topB wd A then A - 2 ^ wd.toNat else A := by
  unfold sgnS lowI
  rw [Int.emod_eq_of_lt h0 h1]
theorem sgnS_half {wd A : Int} (hw : MayW wd) (h0 : 0 ≤ A) (h1 : A < 2 ^ wd.toNat) : -2 ^ (wd.toNat - 1) ≤ sgnS wd A ∧ sgnS wd A < 2 ^ (wd.toNat - 1) ∧ (topB wd A = decide (sgnS wd A < 0)) := by
  obtain ⟨hW, _, _⟩ := W_bd hw
  have eM : (2 : Int) ^ wd.toNat = 2 ^ (wd.toNat - 1) * 2 := by rw [← two_pow_succ]; congr 1; omega
  have hp := two_pow_pos (wd.toNat - 1)
  have ht := (top_lt hw h0 h1).1
  rw [sgnS_low hw h0 h1, ht]
  rw [eM] at h1 ⊢
  generalize (2 : Int) ^ (wd.toNat - 1) = M at *
  by_cases h : M ≤ A <;> simp [h] <;> omega
theorem shO_bd {op wd A : Int} (hw : MayW wd) (h0 : 0 ≤ A) (h1 : A < 2 ^ wd.toNat) (n : Nat) : 0 ≤ shO op wd A n ∧ shO op wd A n < 2 ^ wd.toNat := by
  obtain ⟨hW, _, _⟩ := W_bd hw
  have hp := two_pow_pos wd.toNat
  unfold shO
  split
  · exact ⟨Int.emod_nonneg _ (Int.ne_of_gt hp), Int.emod_lt_of_pos _ hp⟩
  split
  · exact ⟨sh_bd A h0 n, Int.lt_of_le_of_lt (Int.ediv_le_self _ h0) h1⟩
  split
  · exact ⟨Int.emod_nonneg _ (Int.ne_of_gt hp), Int.emod_lt_of_pos _ hp⟩
  split
  · exact rotl_bd (Nat.le_of_lt (Nat.mod_lt _ (by omega))) h0 h1
  · exact rotl_bd (Nat.le_of_lt (Nat.mod_lt _ (by omega))) h0 h1
theorem shO_u {op wd A : Int} (hw : MayW wd) (h0 : 0 ≤ A) (h1 : A < 2 ^ wd.toNat) (n : Nat) : U64 (shO op wd A n) := by
  obtain ⟨a, b⟩ := shO_bd (op := op) hw h0 h1 n
  have := two_pow_le wd.toNat 64 (W_bd hw).2.1
  exact ⟨a, by omega⟩
theorem shO_0 {op wd A : Int} (hw : MayW wd) (h0 : 0 ≤ A) (h1 : A < 2 ^ wd.toNat) : shO op wd A 0 = A := by
  obtain ⟨hW, _, _⟩ := W_bd hw
  unfold shO
  split
  · simp [Int.emod_eq_of_lt h0 h1]
  split
  · simp
  split
  · simp [sgnS_mod hw, Int.emod_eq_of_lt h0 h1]
  split
  · simp [rotl_0 h0 h1]
  · simp [rotl_0 h0 h1]
theorem stO_shO {op wd A : Int} (hw : MayW wd) (h0 : 0 ≤ A) (h1 : A < 2 ^ wd.toNat) (hop : op = 1 ∨ op = 2 ∨ op = 3 ∨ op = 4 ∨ op = 5) (n : Nat) : stO op wd (shO op wd A n) = shO op wd A (n + 1) := by
  obtain ⟨hW, _, _⟩ := W_bd hw
  have hb := shO_bd (op := op) hw h0 h1 n
  have eM : (2 : Int) ^ wd.toNat = 2 ^ (wd.toNat - 1) * 2 := by rw [← two_pow_succ]; congr 1; omega
  rcases hop with rfl | rfl | rfl | rfl | rfl
  · simp only [stO, shO, if_true, lowI]
    rw [two_pow_succ, ← Int.mul_assoc, Int.mul_emod, Int.emod_emod, ← Int.mul_emod]
  · simp [stO, shO]
    rw [two_pow_succ, Int.ediv_ediv_of_nonneg (Int.le_of_lt (two_pow_pos n))]
  · have h := top_lt hw hb.1 hb.2
    obtain ⟨s0, s1, _⟩ := sgnS_half hw h0 h1
    have e1 : shO 3 wd A n = sgnS wd A / 2 ^ n % 2 ^ wd.toNat := by simp [shO]
    have e2 : shO 3 wd A (n + 1) = sgnS wd A / 2 ^ (n + 1) % 2 ^ wd.toNat := by simp [shO]
    have e3 : stO 3 wd (shO 3 wd A n) = shO 3 wd A n / 2 + (if topB wd (shO 3 wd A n) then 2 ^ (wd.toNat - 1) else 0) := by simp [stO]
    rw [e3, e2, two_pow_succ, ← Int.ediv_ediv_of_nonneg (Int.le_of_lt (two_pow_pos n))]
    have x0 : -2 ^ (wd.toNat - 1) ≤ sgnS wd A / 2 ^ n := by
      refine (Int.le_ediv_iff_mul_le (two_pow_pos n)).2 ?_
      have := two_pow_pos n
      have hp := two_pow_pos (wd.toNat - 1)
      have h2 : 2 ^ (wd.toNat - 1) * 1 ≤ (2 : Int) ^ (wd.toNat - 1) * 2 ^ n := Int.mul_le_mul_of_nonneg_left (by omega) (by omega)
      rw [Int.neg_mul]; omega
    have x1 : sgnS wd A / 2 ^ n < 2 ^ (wd.toNat - 1) := by
      refine Int.ediv_lt_of_lt_mul (two_pow_pos n) ?_
      have := two_pow_pos n
      have hp := two_pow_pos (wd.toNat - 1)
      have h2 : 2 ^ (wd.toNat - 1) * 1 ≤ (2 : Int) ^ (wd.toNat - 1) * 2 ^ n := Int.mul_le_mul_of_nonneg_left (by omega) (by omega)
      omega
    rw [h.1, e1]
    rw [eM] at *
    generalize sgnS wd A / 2 ^ n = x at *
    generalize (2 : Int) ^ (wd.toNat - 1) = M at *
    by_cases hx : x < 0
    · have m1 : x % (M * 2) = x + M * 2 := emod_of _ _ (-1) _ (by omega) (by omega) (by omega)
      have m2 : x / 2 % (M * 2) = x / 2 + M * 2 := emod_of _ _ (-1) _ (by omega) (by omega) (by omega)
      rw [m1, m2, decide_eq_true (by omega)]
      simp; omega
    · have m1 : x % (M * 2) = x := Int.emod_eq_of_lt (by omega) (by omega)
      have m2 : x / 2 % (M * 2) = x / 2 := Int.emod_eq_of_lt (by omega) (by omega)
      rw [m1, m2, decide_eq_false (by omega)]
      simp
  · have e : ∀ n, shO 4 wd A n = rotl wd.toNat (n % wd.toNat) A := fun n => by simp [shO]
    have e2 : ∀ v, stO 4 wd v = rol1 wd.toNat v := fun v => by simp [stO]
    rw [e, e, e2, rotl_succ (Nat.mod_lt _ (by omega)) h0 h1]
    have hlt := Nat.mod_lt n (show wd.toNat > 0 by omega)
    rw [Nat.add_mod n 1 wd.toNat, Nat.mod_eq_of_lt (a := 1) (by omega)]
    by_cases h : n % wd.toNat + 1 < wd.toNat
    · rw [Nat.mod_eq_of_lt h]
    · have : n % wd.toNat + 1 = wd.toNat := by omega
      rw [this, Nat.mod_self, rotl_W, rotl_0 h0 h1]
  · have e : ∀ n, shO 5 wd A n = rotl wd.toNat ((wd.toNat - n % wd.toNat) % wd.toNat) A := fun n => by simp [shO]
    have e2 : ∀ v, stO 5 wd v = ror1 wd.toNat v := fun v => by simp [stO]
    rw [e, e, e2]
    have hlt := Nat.mod_lt n (show wd.toNat > 0 by omega)
    have hs : ∀ r, r + 1 ≤ wd.toNat → ror1 wd.toNat (rotl wd.toNat (r + 1) A) = rotl wd.toNat r A := fun r hr => by
      rw [← rotl_succ hr h0 h1]
      obtain ⟨a, b⟩ := rotl_bd (r := r) (by omega) h0 h1
      exact ror1_rol1 (by omega) a b
    rw [Nat.add_mod n 1 wd.toNat, Nat.mod_eq_of_lt (a := 1) (by omega)]
    by_cases hz : n % wd.toNat = 0
    · rw [hz, Nat.sub_zero, Nat.mod_self, rotl_0 h0 h1, Nat.zero_add, Nat.mod_eq_of_lt (a := 1) (by omega), Nat.mod_eq_of_lt (by omega)]
      have := hs (wd.toNat - 1) (by omega)
      rw [show wd.toNat - 1 + 1 = wd.toNat from by omega, rotl_W] at this
      exact this
    · rw [Nat.mod_eq_of_lt (a := wd.toNat - n % wd.toNat) (by omega)]
      by_cases h : n % wd.toNat + 1 < wd.toNat
      · rw [Nat.mod_eq_of_lt h, Nat.mod_eq_of_lt (a := wd.toNat - (n % wd.toNat + 1)) (by omega)]
        have := hs (wd.toNat - (n % wd.toNat + 1)) (by omega)
        rw [show wd.toNat - (n % wd.toNat + 1) + 1 = wd.toNat - n % wd.toNat from by omega] at this
        exact this
      · have h2 : n % wd.toNat + 1 = wd.toNat := by omega
        rw [h2, Nat.mod_self, Nat.sub_zero, Nat.mod_self]
        have := hs 0 (by omega)
        rw [show wd.toNat - n % wd.toNat = 0 + 1 from by omega]
        exact this

end Go.Proofs.Ytkfenljldmbmcaa
