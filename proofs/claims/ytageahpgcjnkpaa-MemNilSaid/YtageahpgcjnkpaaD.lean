/- Words of bytes: get and put. -/
import Derived.Test.YtageahpgcjnkpaaC
set_option linter.unusedSimpArgs false
set_option linter.unusedVariables false
namespace Go.Proofs.Ytageahpgcjnkpaa
open Go.RowKit

def getN (f : Nat → Int) (at_ : Nat) : Nat → Int
  | 0 => 0
  | k + 1 => getN f at_ k + f (at_ + k) * 256 ^ k
theorem pow_pos256 (k : Nat) : (0 : Int) < 256 ^ k := Int.pow_pos (by omega)
theorem getN_bd (f : Nat → Int) (at_ : Nat) (hf : ByteFn f) : ∀ k, 0 ≤ getN f at_ k ∧ getN f at_ k < 256 ^ k
  | 0 => by simp [getN]
  | k + 1 => by
    have h := getN_bd f at_ hf k
    have hp := pow_pos256 k
    obtain ⟨b0, b1⟩ := hf (at_ + k)
    have e : (256 : Int) ^ (k + 1) = 256 * 256 ^ k := by rw [Int.pow_succ, Int.mul_comm]
    have h1 : 0 ≤ f (at_ + k) * 256 ^ k := Int.mul_nonneg b0 (Int.le_of_lt hp)
    have h2 : f (at_ + k) * 256 ^ k ≤ 255 * 256 ^ k := Int.mul_le_mul_of_nonneg_right (by omega) (Int.le_of_lt hp)
    simp only [getN]
    rw [e]
    omega
theorem or_step (a b : Int) (k : Nat) (hk : k < 8) (ha0 : 0 ≤ a) (ha : a < 256 ^ k) (hb0 : 0 ≤ b) (hb : b < 256) :
    bits BinOp.or IntKind.u64 a (IntKind.u64.wrap (IntKind.u64.wrap b * 2 ^ (8 * k))) = a + b * 256 ^ k := by
  obtain ⟨a, rfl⟩ := Int.eq_ofNat_of_zero_le ha0
  obtain ⟨b, rfl⟩ := Int.eq_ofNat_of_zero_le hb0
  have e0 : (2 : Nat) ^ (8 * k) = 256 ^ k := by rw [Nat.pow_mul]
  have e1 : (2 : Int) ^ (8 * k) = ((256 ^ k : Nat) : Int) := by rw [← e0]; simp
  have ha' : a < 256 ^ k := by have : ((256 : Int) ^ k) = ((256 ^ k : Nat) : Int) := by simp
                               omega
  have hb' : b < 256 := by omega
  have hm : b * 256 ^ k + 256 ^ k ≤ 18446744073709551616 := by
    have h1 : b * 256 ^ k + 256 ^ k = (b + 1) * 256 ^ k := by rw [Nat.add_mul, Nat.one_mul]
    rw [h1]
    have h2 : (b + 1) * 256 ^ k ≤ 256 * 256 ^ k := Nat.mul_le_mul_right _ (by omega)
    have h3 : 256 * 256 ^ k = 256 ^ (k + 1) := by rw [Nat.pow_succ, Nat.mul_comm]
    have h4 : 256 ^ (k + 1) ≤ 256 ^ 8 := Nat.pow_le_pow_right (by omega) (by omega)
    omega
  have hw1 : IntKind.u64.wrap (b : Int) = (b : Int) := by rw [IntKind.wrap_u64]; omega
  have hw2 : IntKind.u64.wrap ((b : Int) * ((256 ^ k : Nat) : Int)) = ((b * 256 ^ k : Nat) : Int) := by
    rw [IntKind.wrap_u64, ← Int.natCast_mul]; omega
  rw [hw1, e1, hw2, u64_or _ _ (by omega) (by omega) (by omega) (by omega), Int.toNat_natCast, Int.toNat_natCast]
  have h5 := Nat.two_pow_add_eq_or_of_lt (i := 8 * k) (b := a) (by rw [e0]; exact ha') b
  rw [e0] at h5
  rw [Nat.or_comm, Nat.mul_comm b, ← h5]
  simp [Int.mul_comm, Int.add_comm]
def get8 (f : Nat → Int) (at_ : Nat) : Int := getN f at_ 8

set_option maxHeartbeats 1000000 in
theorem get_any {p q : Nat} {A : Option Addr} {n cap : Nat} {L : List Reg} {f : Nat → Int} (at_ : Nat) (w : World) (h : Mem_ w p q A n cap L f) (hat : at_ + 8 ≤ 65536) :
    Calls Try.prog 46 #[.pointer (some ⟨p, 0, none⟩), .int .i64 at_] w fun e w' => e = .returned (.int .u64 (get8 f at_)) ∧ w = w' := by
  have c1 := h.c1
  have H := Lib.hid h
  clear h
  go_enter Try.func46, Try.ntmps46
  go_wp2
  go_loop [5, 7] (fun x i => ∃ k : Nat, k ≤ 8 ∧ i = .int .i64 k ∧ x = .int .u64 (getN f at_ k)) (fun _ i => 8 - (intOf i).toNat)
  case atStart => exact ⟨0, by omega, rfl, rfl⟩
  case round =>
    obtain ⟨k, hk, rfl, rfl⟩ := hrel
    by_cases hlt : k < 8
    · have hb := H.out.byte (at_ + k) (by omega)
      have ho := or_step (getN f at_ k) (f (at_ + k)) k hlt (getN_bd f at_ H.out.hf k).1 (getN_bd f at_ H.out.hf k).2 (H.out.hf _).1 (H.out.hf _).2
      have ho' := Lib.hid ho
      clear ho
      go_wp2
      go_round
      case rel => exact ⟨k + 1, by omega, by go_num, by rw [ho'.out]; rfl⟩
      case measure => simp [intOf]; omega
    · obtain rfl : k = 8 := by omega
      go_wp2
      go_ret
      exact ⟨rfl, rfl⟩
end Go.Proofs.Ytageahpgcjnkpaa
