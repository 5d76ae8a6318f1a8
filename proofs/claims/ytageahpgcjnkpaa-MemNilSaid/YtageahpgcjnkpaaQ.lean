/- Plain laws of words and bytes. -/
import Derived.Test.YtageahpgcjnkpaaH
set_option linter.unusedSimpArgs false
set_option linter.unusedVariables false
namespace Go.Proofs.Ytageahpgcjnkpaa
open Go.RowKit

theorem put_at (f : Nat → Int) (a : Nat) (x : Int) (i : Nat) (hi : i < 8) : put8 f a x (a + i) = x / 256 ^ i % 256 := by
  unfold put8 putN
  rw [if_pos (by omega), show a + i - a = i from by omega]
theorem put_far (f : Nat → Int) (a : Nat) (x : Int) (k : Nat) (h : k < a ∨ a + 8 ≤ k) : put8 f a x k = f k := by
  unfold put8 putN
  rw [if_neg (by omega)]
theorem getN_congr {f g : Nat → Int} {a : Nat} : ∀ k, (∀ i, i < k → f (a + i) = g (a + i)) → getN f a k = getN g a k
  | 0, _ => rfl
  | k + 1, h => by
    simp only [getN]
    rw [getN_congr k (fun i hi => h i (by omega)), h k (by omega)]
theorem mod_split (x p : Int) (hp : 0 < p) : x % (p * 256) = x % p + x / p % 256 * p := by
  have e1 := Int.emod_add_mul_ediv x p
  have e2 := Int.emod_add_mul_ediv (x / p) 256
  have r0 := Int.emod_nonneg x (Int.ne_of_gt hp)
  have r1 := Int.emod_lt_of_pos x hp
  have s0 := Int.emod_nonneg (x / p) (show (256 : Int) ≠ 0 by omega)
  have s1 := Int.emod_lt_of_pos (x / p) (show (0 : Int) < 256 by omega)
  generalize x % p = r at *
  generalize x / p % 256 = s at *
  generalize x / p / 256 = t at *
  rw [← e2] at e1
  have e3 : x = (r + s * p) + (p * 256) * t := by
    rw [← e1, Int.mul_add, Int.mul_comm p s, Int.mul_assoc]
    omega
  have h1 : s * p ≤ 255 * p := Int.mul_le_mul_of_nonneg_right (by omega) (Int.le_of_lt hp)
  have h2 : 0 ≤ s * p := Int.mul_nonneg s0 (Int.le_of_lt hp)
  rw [e3, Int.add_mul_emod_self_left]
  exact Int.emod_eq_of_lt (by omega) (by omega)
theorem getN_mod (f : Nat → Int) (a : Nat) (x : Int) (hx : 0 ≤ x) : ∀ k, (∀ i, i < k → f (a + i) = x / 256 ^ i % 256) → getN f a k = x % 256 ^ k
  | 0, _ => by simp [getN, Int.emod_one]
  | k + 1, h => by
    simp only [getN]
    rw [getN_mod f a x hx k (fun i hi => h i (by omega)), h k (by omega)]
    have hp := pow_pos256 k
    rw [Int.pow_succ, mod_split _ _ hp]
theorem get_put (f : Nat → Int) (a : Nat) (x : Int) (h0 : 0 ≤ x) (h1 : x < 18446744073709551616) : get8 (put8 f a x) a = x := by
  unfold get8
  rw [getN_mod _ a x h0 8 (fun i hi => put_at f a x i hi)]
  exact Int.emod_eq_of_lt h0 h1
theorem get_far (f : Nat → Int) (a b : Nat) (x : Int) (h : b + 8 ≤ a ∨ a + 8 ≤ b) : get8 (put8 f a x) b = get8 f b := by
  unfold get8
  exact getN_congr 8 (fun i hi => put_far f a x (b + i) (by omega))

/-- an address has a region, or is the stack's -/
theorem place_ok {L : List Reg} {a : Int} : (placeI L a).1 ≠ -2 ↔ a < 65536 ∧ (49152 ≤ a ∨ ∃ r ∈ L, hasB a r = true) := by
  unfold placeI
  by_cases h1 : 65536 ≤ a
  · rw [if_pos h1]; simp; omega
  · rw [if_neg h1]
    by_cases h2 : 49152 ≤ a
    · rw [if_pos h2]; simp; omega
    · rw [if_neg h2]
      cases hf : findI L a with
      | none =>
        unfold findI at hf
        rw [List.findIdx?_eq_none_iff] at hf
        simp only [ne_eq, not_true_eq_false, false_iff, not_and, not_or, not_exists]
        intro _
        refine ⟨h2, fun r hr => ?_⟩
        rw [hf r hr]
        exact Bool.false_ne_true
      | some i =>
        obtain ⟨r, hr, hh⟩ := find_at hf
        refine ⟨fun _ => ⟨by omega, .inr ⟨r, List.mem_of_getElem? hr, hh⟩⟩, fun _ => ?_⟩
        show (i : Int) ≠ -2
        omega
theorem hasB_iff {a : Int} {r : Reg} : hasB a r = true ↔ r.addr ≤ a ∧ a < r.addr + 8 * r.size := by
  unfold hasB Reg.end_; simp
/-- the bytes of a word that lies within lie within -/
theorem ask_bytes {L : List Reg} {a : Int} (hm : ∀ r ∈ L, mayB r = true) (h : askI L a 8 = 0) (i : Int) (h0 : 0 ≤ i) (h1 : i < 8) : askI L (a + i) 1 = 0 := by
  obtain ⟨k1, k2, k3⟩ := ask_0 h hm
  rw [place_ok] at k3
  have hp : (placeI L (a + i)).1 ≠ -2 := by
    rw [place_ok]
    refine ⟨by omega, ?_⟩
    rcases k3.2 with k | ⟨r, hr, hh⟩
    · left; omega
    · right
      refine ⟨r, hr, ?_⟩
      rw [hasB_iff] at hh ⊢
      obtain ⟨m1, m2, m3, m4, m5, m6, m7⟩ := (mayB_iff r).1 (hm r hr)
      omega
  unfold askI
  rw [if_neg (by omega), if_neg hp]
end Go.Proofs.Ytageahpgcjnkpaa
