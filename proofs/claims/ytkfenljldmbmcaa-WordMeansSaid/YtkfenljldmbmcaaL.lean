/- Plain arithmetic of the laws of words: low parts of answers; what is turned twice; what is rotated there and back. -/
import Derived.Test.YtkfenljldmbmcaaF
set_option linter.unusedSimpArgs false
set_option linter.unusedVariables false
namespace Go.Proofs.Ytkfenljldmbmcaa
open Go.RowKit

theorem bits_low (op : BinOp) (f : Nat → Nat → Nat) (hop : ∀ a b : Int, 0 ≤ a → a < 18446744073709551616 → 0 ≤ b → b < 18446744073709551616 → bits op .u64 a b = ((f a.toNat b.toNat : Nat) : Int))
    (hf : ∀ (a b n : Nat), f a b % 2 ^ n = f (a % 2 ^ n) (b % 2 ^ n)) {wd a b : Int} (hw : MayW wd) (ha : U64 a) (hb : U64 b) :
    bits op .u64 (lowI wd a) (lowI wd b) = lowI wd (bits op .u64 (lowI 64 a) (lowI 64 b)) := by
  have hA : U64 (lowI wd a) := low_lt hw
  have hB : U64 (lowI wd b) := low_lt hw
  have e1 : lowI 64 a = a := Int.emod_eq_of_lt ha.1 ha.2
  have e2 : lowI 64 b = b := Int.emod_eq_of_lt hb.1 hb.2
  rw [e1, e2, hop _ _ hA.1 hA.2 hB.1 hB.2, hop _ _ ha.1 ha.2 hb.1 hb.2]
  unfold lowI
  obtain ⟨A, rfl⟩ := Int.eq_ofNat_of_zero_le ha.1
  obtain ⟨B, rfl⟩ := Int.eq_ofNat_of_zero_le hb.1
  have hp : ((2 ^ wd.toNat : Nat) : Int) = (2 : Int) ^ wd.toNat := by simp
  rw [← hp]
  have m1 : (((A : Int) % ((2 ^ wd.toNat : Nat) : Int))).toNat = A % 2 ^ wd.toNat := by rw [← Int.natCast_emod]; rfl
  have m2 : (((B : Int) % ((2 ^ wd.toNat : Nat) : Int))).toNat = B % 2 ^ wd.toNat := by rw [← Int.natCast_emod]; rfl
  rw [m1, m2, ← Int.natCast_emod, ← hf]
  rfl
theorem sum_low {wd a b c : Int} (hw : MayW wd) : sumO wd (lowI wd a) (lowI wd b) c = lowI wd (sumO 64 (lowI 64 a) (lowI 64 b) c) := by
  unfold sumO lowI
  rcases hw with rfl | rfl | rfl | rfl <;> simp <;> omega
theorem sub_low {wd a b c : Int} (hw : MayW wd) : subO wd (lowI wd a) (lowI wd b) c = lowI wd (subO 64 (lowI 64 a) (lowI 64 b) c) := by
  unfold subO lowI
  rcases hw with rfl | rfl | rfl | rfl <;> simp <;> omega
theorem low_low {wd : Int} (hw : MayW wd) (x : Int) : x % 2 ^ (64 : Int).toNat % 2 ^ wd.toNat = x % 2 ^ wd.toNat := by
  rcases hw with rfl | rfl | rfl | rfl <;> simp <;> omega
theorem mul_low {wd a b : Int} (hw : MayW wd) : mulO wd (lowI wd a) (lowI wd b) = lowI wd (mulO 64 (lowI 64 a) (lowI 64 b)) := by
  have h64 : MayW 64 := by simp [MayW]
  have key : ∀ x : Int, sgnS wd (lowI wd x) % 2 ^ wd.toNat = x % 2 ^ wd.toNat := fun x => by
    rw [sgnS_mod hw]; unfold lowI; exact Int.emod_emod_of_dvd _ (Int.dvd_refl _)
  have key64 : ∀ x : Int, sgnS 64 (lowI 64 x) % 2 ^ wd.toNat = x % 2 ^ wd.toNat := fun x => by
    rw [← low_low hw, sgnS_mod h64]; unfold lowI; rw [Int.emod_emod_of_dvd _ (Int.dvd_refl _), low_low hw]
  unfold mulO prodS
  have e : ∀ y : Int, lowI wd (y % 2 ^ (64 : Int).toNat) = y % 2 ^ wd.toNat := fun y => by unfold lowI; exact low_low hw y
  rw [e, Int.mul_emod, key a, key b, ← key64 a, ← key64 b, ← Int.mul_emod]
theorem doO_low {op wd a b : Int} (c : Bool) (hw : MayW wd) (ha : U64 a) (hb : U64 b) (_hop : 1 ≤ op ∧ op ≤ 8) : doO op wd a b c = lowI wd (doO op 64 a b c) := by
  unfold doO
  repeat' split
  · exact sum_low hw
  · exact sum_low hw
  · exact sub_low hw
  · exact sub_low hw
  · exact bits_low .and (· &&& ·) (fun a b h1 h2 h3 h4 => u64_and a b h1 h2 h3 h4) (fun a b n => Nat.and_mod_two_pow) hw ha hb
  · exact bits_low .or (· ||| ·) (fun a b h1 h2 h3 h4 => u64_or a b h1 h2 h3 h4) (fun a b n => Nat.or_mod_two_pow) hw ha hb
  · exact bits_low .xor (· ^^^ ·) (fun a b h1 h2 h3 h4 => u64_xor a b h1 h2 h3 h4) (fun a b n => Nat.xor_mod_two_pow) hw ha hb
  · exact mul_low hw

theorem not_twice {wd a : Int} (hw : MayW wd) : lowI wd (18446744073709551615 - lowI wd (18446744073709551615 - a)) = lowI wd a := by
  unfold lowI
  rcases hw with rfl | rfl | rfl | rfl <;> simp <;> omega
theorem neg_twice {wd a : Int} (hw : MayW wd) : doO 3 wd 0 (doO 3 wd 0 a false) false = lowI wd a := by
  unfold doO subO lowI
  rcases hw with rfl | rfl | rfl | rfl <;> simp <;> omega
theorem rot_back {W r : Nat} {A : Int} (hr : r ≤ W) (h0 : 0 ≤ A) (h1 : A < 2 ^ W) : rotl W (W - r) (rotl W r A) = A := by
  obtain ⟨e, a, b, c, d⟩ := rotl_halves hr h0 h1
  obtain ⟨b0, b1⟩ := rotl_bd hr h0 h1
  obtain ⟨e', _, _, _, _⟩ := rotl_halves (r := W - r) (by omega) b0 b1
  rw [show W - (W - r) = r from by omega] at e'
  have hp := two_pow_pos r
  have m1 : rotl W r A % 2 ^ r = A / 2 ^ (W - r) := by
    rw [e, Int.add_comm, Int.mul_comm, Int.add_mul_emod_self_left, Int.emod_eq_of_lt a b]
  have m2 : rotl W r A / 2 ^ r = A % 2 ^ (W - r) := by
    rw [e, Int.add_comm, Int.add_mul_ediv_right _ _ (by omega), Int.ediv_eq_zero_of_lt a b, Int.zero_add]
  rw [e', m1, m2, Int.mul_comm]
  exact Int.mul_ediv_add_emod A _
theorem rot_back' {W r : Nat} {A : Int} (hr : r < W) (h0 : 0 ≤ A) (h1 : A < 2 ^ W) : rotl W ((W - r) % W) (rotl W r A) = A := by
  by_cases hz : r = 0
  · subst hz
    rw [Nat.sub_zero, Nat.mod_self, rotl_0 h0 h1, rotl_0 h0 h1]
  · rw [Nat.mod_eq_of_lt (by omega)]
    exact rot_back (by omega) h0 h1
theorem shift_back {wd a : Int} (hw : MayW wd) (n : Nat) : shO 5 wd (lowI wd (shO 4 wd (lowI wd a) n)) n = lowI wd a := by
  obtain ⟨hW, _, _⟩ := W_bd hw
  have hb := low_bd wd a
  have hm : n % wd.toNat < wd.toNat := Nat.mod_lt _ (by omega)
  have e1 : shO 4 wd (lowI wd a) n = rotl wd.toNat (n % wd.toNat) (lowI wd a) := by simp [shO]
  have hr := rotl_bd (r := n % wd.toNat) (Nat.le_of_lt hm) hb.1 hb.2
  have e2 : lowI wd (rotl wd.toNat (n % wd.toNat) (lowI wd a)) = rotl wd.toNat (n % wd.toNat) (lowI wd a) := Int.emod_eq_of_lt hr.1 hr.2
  rw [e1, e2]
  have e3 : ∀ B, shO 5 wd B n = rotl wd.toNat ((wd.toNat - n % wd.toNat) % wd.toNat) B := fun B => by simp [shO]
  rw [e3, rot_back' hm hb.1 hb.2]
end Go.Proofs.Ytkfenljldmbmcaa
