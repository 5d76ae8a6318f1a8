/- Plain arithmetic of the theorem on words: what the flags of a difference tell; sums of 128 bits; rotations by 64 less a count. -/
import Derived.Test.YtkfenljldmbmcaaL
set_option linter.unusedSimpArgs false
set_option linter.unusedVariables false
namespace Go.Proofs.Ytkfenljldmbmcaa
open Go.RowKit

theorem low64 {a : Int} (h : U64 a) : lowI 64 a = a := Int.emod_eq_of_lt h.1 h.2
theorem top64 {a : Int} (h : U64 a) : topB 64 a = decide (9223372036854775808 ≤ a) := by
  obtain ⟨h0, h1⟩ := h
  have e : topB 64 a = decide (a / 9223372036854775808 % 2 = 1) := rfl
  rw [e, decide_eq_decide]; omega
theorem sub64 (a b : Int) (ha : U64 a) (hb : U64 b) : doO 3 64 a b false = if b ≤ a then a - b else a - b + 18446744073709551616 := by
  obtain ⟨a0, a1⟩ := ha
  obtain ⟨b0, b1⟩ := hb
  have e : doO 3 64 a b false = (lowI 64 a - lowI 64 b - 0) % 18446744073709551616 := rfl
  rw [e, low64 ⟨a0, a1⟩, low64 ⟨b0, b1⟩]
  split <;> omega
theorem sub64_u (a b : Int) (ha : U64 a) (hb : U64 b) : U64 (doO 3 64 a b false) := by
  rw [sub64 a b ha hb]
  obtain ⟨a0, a1⟩ := ha
  obtain ⟨b0, b1⟩ := hb
  unfold U64
  split <;> omega
theorem means_e (a b : Int) (ha : U64 a) (hb : U64 b) : holdsB 4 (doC 3 64 a b false) (doO 3 64 a b false == 0) (topB 64 (doO 3 64 a b false)) (doV 3 64 a b false) (parB (doO 3 64 a b false)) = (a == b) := by
  have e : ∀ c z s o p : Bool, holdsB 4 c z s o p = z := by decide
  rw [e, sub64 a b ha hb, Bool.eq_iff_iff]
  obtain ⟨a0, a1⟩ := ha
  obtain ⟨b0, b1⟩ := hb
  simp only [beq_iff_eq]
  split <;> omega
theorem means_b (a b : Int) (ha : U64 a) (hb : U64 b) : holdsB 2 (doC 3 64 a b false) (doO 3 64 a b false == 0) (topB 64 (doO 3 64 a b false)) (doV 3 64 a b false) (parB (doO 3 64 a b false)) = decide (a < b) := by
  have e : ∀ c z s o p : Bool, holdsB 2 c z s o p = c := by decide
  have e2 : doC 3 64 a b false = decide (lowI 64 a < lowI 64 b + 0) := rfl
  rw [e, e2, low64 ha, low64 hb, Int.add_zero]
theorem means_l (a b : Int) (ha : U64 a) (hb : U64 b) : holdsB 12 (doC 3 64 a b false) (doO 3 64 a b false == 0) (topB 64 (doO 3 64 a b false)) (doV 3 64 a b false) (parB (doO 3 64 a b false)) = decide (wrap64 a < wrap64 b) := by
  have e : ∀ c z s o p : Bool, holdsB 12 c z s o p = (s != o) := by decide
  have e2 : doV 3 64 a b false = (topB 64 (lowI 64 a) != topB 64 (lowI 64 b) && topB 64 (subO 64 (lowI 64 a) (lowI 64 b) 0) == topB 64 (lowI 64 b)) := rfl
  have e3 : subO 64 (lowI 64 a) (lowI 64 b) 0 = doO 3 64 a b false := rfl
  rw [e, e2, e3, low64 ha, low64 hb, top64 ha, top64 hb, top64 (sub64_u a b ha hb), sub64 a b ha hb]
  obtain ⟨a0, a1⟩ := ha
  obtain ⟨b0, b1⟩ := hb
  have wa : wrap64 a = if 9223372036854775808 ≤ a then a - 18446744073709551616 else a := by unfold wrap64; split <;> omega
  have wb : wrap64 b = if 9223372036854775808 ≤ b then b - 18446744073709551616 else b := by unfold wrap64; split <;> omega
  rw [wa, wb]
  by_cases h1 : 9223372036854775808 ≤ a <;> by_cases h2 : 9223372036854775808 ≤ b <;> by_cases h3 : b ≤ a <;> simp only [h1, h2, h3, if_true, if_false, decide_true, decide_false] <;>
    (rw [Bool.eq_iff_iff]; simp; try omega)
theorem add64 (a b : Int) (ha : U64 a) (hb : U64 b) : doO 1 64 a b false = IntKind.u64.wrap (a + b) := by
  have e : doO 1 64 a b false = (lowI 64 a + lowI 64 b + 0) % 18446744073709551616 := rfl
  rw [e, low64 ha, low64 hb, Int.add_zero, IntKind.wrap_u64]
theorem carry64 (a b : Int) (ha : U64 a) (hb : U64 b) : doC 1 64 a b false = decide (IntKind.u64.wrap (a + b) < a) := by
  have e : doC 1 64 a b false = ((lowI 64 a + lowI 64 b + 0) / 18446744073709551616 == 1) := rfl
  rw [e, low64 ha, low64 hb, Int.add_zero, IntKind.wrap_u64, Bool.eq_iff_iff]
  obtain ⟨a0, a1⟩ := ha
  obtain ⟨b0, b1⟩ := hb
  simp only [beq_iff_eq, decide_eq_true_eq]
  omega
theorem adc64 (c d : Int) (k : Bool) (hc : U64 c) (hd : U64 d) : doO 2 64 c d k = IntKind.u64.wrap (IntKind.u64.wrap (c + d) + b2i k) := by
  have e : doO 2 64 c d k = (lowI 64 c + lowI 64 d + b2i k) % 18446744073709551616 := rfl
  rw [e, low64 hc, low64 hd, IntKind.wrap_u64, IntKind.wrap_u64]
  omega
theorem rol_u (a b : Int) (ha : U64 a) : U64 (evalS 15 a b 0) := by
  have e : evalS 15 a b 0 = rotl 64 (b % 64).toNat a := rfl
  rw [e]
  exact rotl_bd (W := 64) (by omega) ha.1 ha.2
theorem rol_back (a b : Int) (ha : U64 a) (hb : U64 b) : evalS 15 (evalS 15 a b 0) (64 - b % 64) 0 = a := by
  have e : ∀ x y : Int, evalS 15 x y 0 = rotl 64 (y % 64).toNat x := fun _ _ => rfl
  rw [e, e]
  have e2 : ((64 - b % 64) % 64).toNat = (64 - (b % 64).toNat) % 64 := by omega
  rw [e2]
  exact rot_back' (W := 64) (by omega) ha.1 ha.2
theorem ror_back (a b : Int) (ha : U64 a) (hb : U64 b) : evalS 16 (evalS 15 a b 0) b 0 = a := by
  have e : evalS 15 a b 0 = rotl 64 (b % 64).toNat a := rfl
  have e' : ∀ x : Int, evalS 16 x b 0 = rotl 64 ((64 - (b % 64).toNat) % 64) x := fun _ => rfl
  rw [e', e]
  exact rot_back' (W := 64) (by omega) ha.1 ha.2
end Go.Proofs.Ytkfenljldmbmcaa
