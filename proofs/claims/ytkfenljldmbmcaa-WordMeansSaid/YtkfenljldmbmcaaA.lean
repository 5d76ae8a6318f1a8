/- Plain definitions for the laws of words, and small lemmas on them. -/
import Derived.Test.YtkfenljldmbmcaaRows
import Derived.WalkKit
import Derived.WalkSpells
import Derived.WalkLawsBesides
import Derived.Laws.BitsAllLaws
import Derived.Lib.Hide
import Derived.Test.YtkfenljldmbmcaaShelf
import Derived.Deep.QuietTactic
import Derived.BigQuiet
import Derived.Deep.RegionWith
import Derived.Deep.LoopGhost
import Derived.StillTailTactics
import Derived.Maps.OwnOps
import Derived.Laws.EntriesVeiled
set_option linter.unusedSimpArgs false
set_option linter.unusedVariables false
namespace Go.Proofs.Ytkfenljldmbmcaa
open Go.RowKit

/-- a width -/
def MayW (wd : Int) : Prop := wd = 8 ∨ wd = 16 ∨ wd = 32 ∨ wd = 64
def mayB (wd : Int) : Bool := wd == 8 || wd == 16 || wd == 32 || wd == 64
theorem mayB_iff (wd : Int) : mayB wd = true ↔ MayW wd := by simp [mayB, MayW, or_assoc]
theorem mayB_of {wd : Int} (h : MayW wd) : mayB wd = true := (mayB_iff wd).2 h
theorem mayB_no {wd : Int} (h : ¬ MayW wd) : mayB wd = false := by
  cases e : mayB wd with
  | false => rfl
  | true => exact absurd ((mayB_iff wd).1 e) h
/-- an uint64 -/
def U64 (a : Int) : Prop := 0 ≤ a ∧ a < 18446744073709551616
def lowI (wd a : Int) : Int := a % 2 ^ wd.toNat
def topB (wd a : Int) : Bool := decide (a / 2 ^ (wd.toNat - 1) % 2 = 1)
def signI (wd a : Int) : Int := if topB wd (lowI wd a) then lowI wd a + (18446744073709551616 - 2 ^ wd.toNat) else lowI wd a
/-- the parity of the lowest eight bits -/
def onesI (a : Int) : Int := a % 2 + a / 2 % 2 + a / 4 % 2 + a / 8 % 2 + a / 16 % 2 + a / 32 % 2 + a / 64 % 2 + a / 128 % 2
def parB (a : Int) : Bool := decide (onesI a % 2 = 0)

theorem ret_u64 {a b : Int} (h : a = b) : Ending.returned (.int .u64 a) = .returned (.int .u64 b) := by rw [h]
theorem ret_bool {a b : Bool} (h : a = b) : Ending.returned (.bool a) = .returned (.bool b) := by rw [h]

theorem ones_eq : ∀ n : Fin 256, Lib.onesCount n.val = onesI (n.val : Int) := by decide +kernel
theorem ones_of (a : Int) (h0 : 0 ≤ a) (h1 : a < 256) : Lib.onesCount a.toNat = onesI a := by
  have := ones_eq ⟨a.toNat, by omega⟩
  simpa [Int.toNat_of_nonneg h0] using this
theorem ones_mod (a : Int) (_h : 0 ≤ a) : onesI (a % 256) = onesI a := by unfold onesI; omega
theorem ones_bd (a : Int) : 0 ≤ onesI a ∧ onesI a ≤ 8 := by unfold onesI; omega

def onesN (a : Int) : Nat → Int
  | 0 => 0
  | k + 1 => onesN a k + a / 2 ^ k % 2
theorem onesN_bd (a : Int) : ∀ k : Nat, 0 ≤ onesN a k ∧ onesN a k ≤ k
  | 0 => by simp [onesN]
  | k + 1 => by have := onesN_bd a k; simp only [onesN]; omega
theorem onesN_8 (a : Int) : onesN a 8 = onesI a := by simp [onesN, onesI]
theorem sh_bd (a : Int) (h : 0 ≤ a) (k : Nat) : 0 ≤ a / 2 ^ k := Int.ediv_nonneg h (Int.le_of_lt (Int.pow_pos (by omega)))

theorem sgn_gen (a M H p : Int) (hp : 0 < p) : ((a * p + H * p) % (M * p) - H * p) / p = (a + H) % M - H := by
  rw [← Int.add_mul, Int.mul_comm (a + H) p, Int.mul_comm M p, Int.mul_emod_mul_of_pos _ _ hp, Int.mul_comm H p, ← Int.mul_sub, Int.mul_ediv_cancel_left _ (by omega)]
theorem sgn8 (a : Int) : ((a * 72057594037927936 + 9223372036854775808) % 18446744073709551616 - 9223372036854775808) / 72057594037927936 = (a + 128) % 256 - 128 :=
  sgn_gen a 256 128 72057594037927936 (by omega)
theorem sgn16 (a : Int) : ((a * 281474976710656 + 9223372036854775808) % 18446744073709551616 - 9223372036854775808) / 281474976710656 = (a + 32768) % 65536 - 32768 :=
  sgn_gen a 65536 32768 281474976710656 (by omega)
theorem sgn32 (a : Int) : ((a * 4294967296 + 9223372036854775808) % 18446744073709551616 - 9223372036854775808) / 4294967296 = (a + 2147483648) % 4294967296 - 2147483648 :=
  sgn_gen a 4294967296 2147483648 4294967296 (by omega)

theorem sg8 (a : Int) : ((a + 128) % 256 - 128) % 18446744073709551616 = signI 8 a := by
  unfold signI topB lowI
  show _ = if decide (a % 256 / 128 % 2 = 1) = true then a % 256 + 18446744073709551360 else a % 256
  by_cases h : a % 256 / 128 % 2 = 1
  · rw [if_pos (by simpa using h)]; omega
  · rw [if_neg (by simpa using h)]; omega
theorem sg16 (a : Int) : ((a + 32768) % 65536 - 32768) % 18446744073709551616 = signI 16 a := by
  unfold signI topB lowI
  show _ = if decide (a % 65536 / 32768 % 2 = 1) = true then a % 65536 + 18446744073709486080 else a % 65536
  by_cases h : a % 65536 / 32768 % 2 = 1
  · rw [if_pos (by simpa using h)]; omega
  · rw [if_neg (by simpa using h)]; omega
theorem sg32 (a : Int) : ((a + 2147483648) % 4294967296 - 2147483648) % 18446744073709551616 = signI 32 a := by
  unfold signI topB lowI
  show _ = if decide (a % 4294967296 / 2147483648 % 2 = 1) = true then a % 4294967296 + 18446744069414584320 else a % 4294967296
  by_cases h : a % 4294967296 / 2147483648 % 2 = 1
  · rw [if_pos (by simpa using h)]; omega
  · rw [if_neg (by simpa using h)]; omega
theorem sg64 (a : Int) (h0 : 0 ≤ a) (h1 : a < 18446744073709551616) : a = signI 64 a := by
  unfold signI topB lowI
  show _ = if decide (a % 18446744073709551616 / 9223372036854775808 % 2 = 1) = true then a % 18446744073709551616 + 0 else a % 18446744073709551616
  split <;> omega

theorem low_lt {wd a : Int} (hw : MayW wd) : U64 (lowI wd a) := by
  rcases hw with rfl | rfl | rfl | rfl <;> simp [U64, lowI] <;> omega
theorem sign_u {wd a : Int} (hw : MayW wd) : U64 (signI wd a) := by
  cases h : topB wd (lowI wd a) <;> rcases hw with rfl | rfl | rfl | rfl <;> simp [U64, signI, h] <;> simp [lowI] <;> omega

/-- the sum of two words, up to a bit -/
def addK (a b : Int) (c : Bool) (k : Nat) : Int := a % 2 ^ k + b % 2 ^ k + (if c then 1 else 0)
def AddR (a b : Int) (c : Bool) (k : Nat) (o : Int) (q : Bool) : Prop := o = addK a b c k % 2 ^ k ∧ q = decide (addK a b c k / 2 ^ k = 1)
def SgnR (wd a : Int) (k : Nat) (x : Int) : Prop := wd.toNat ≤ k ∧ x = lowI wd a + (2 ^ k - 2 ^ wd.toNat) ∧ (k = wd.toNat ∨ topB wd (lowI wd a) = true)

end Go.Proofs.Ytkfenljldmbmcaa
