/- Plain arithmetic: sums and signs bit by bit. -/
import Derived.Test.YtkfenljldmbmcaaA
set_option linter.unusedSimpArgs false
set_option linter.unusedVariables false
namespace Go.Proofs.Ytkfenljldmbmcaa

theorem two_pow_pos (k : Nat) : (0 : Int) < 2 ^ k := Int.pow_pos (by omega)
theorem two_pow_le (k m : Nat) (h : k ≤ m) : (2 : Int) ^ k ≤ 2 ^ m := by
  have := Nat.pow_le_pow_right (n := 2) (by omega) h
  have e : ((2 ^ k : Nat) : Int) ≤ ((2 ^ m : Nat) : Int) := Int.ofNat_le.2 this
  simpa using e
theorem two_pow_63 (k : Nat) (h : k < 64) : (2 : Int) ^ k ≤ 9223372036854775808 := two_pow_le k 63 (by omega)
theorem two_pow_succ (k : Nat) : (2 : Int) ^ (k + 1) = 2 ^ k * 2 := Int.pow_succ 2 k
theorem emod_of (x m q r : Int) (h : x = r + m * q) (h0 : 0 ≤ r) (h1 : r < m) : x % m = r := by
  rw [h, Int.add_mul_emod_self_left, Int.emod_eq_of_lt h0 h1]
theorem ediv_of (x m q r : Int) (h : x = r + m * q) (h0 : 0 ≤ r) (h1 : r < m) : x / m = q := by
  rw [h, Int.add_mul_ediv_left _ _ (by omega), Int.ediv_eq_zero_of_lt h0 h1, Int.zero_add]
theorem digit_bd (p d : Int) (hp : 0 < p) (hd : d = 0 ∨ d = 1) : 0 ≤ p * d ∧ p * d ≤ p := by
  rcases hd with rfl | rfl <;> simp <;> omega
theorem emod_two (a p : Int) (hp : 0 < p) : a % (p * 2) = a % p + p * (a / p % 2) := by
  have e1 := Int.emod_add_mul_ediv a p
  have h0 := Int.emod_nonneg a (Int.ne_of_gt hp)
  have h1 := Int.emod_lt_of_pos a hp
  have hd := digit_bd p (a / p % 2) hp (by omega)
  refine emod_of a (p * 2) (a / p / 2) _ ?_ (by omega) (by omega)
  have e2 : a / p = a / p % 2 + 2 * (a / p / 2) := by omega
  have e3 : p * (a / p) = p * (a / p % 2) + p * 2 * (a / p / 2) := by
    conv => lhs; rw [e2]
    rw [Int.mul_add, Int.mul_assoc]
  omega

theorem addK_bd (a b : Int) (c : Bool) (k : Nat) : 0 ≤ addK a b c k ∧ addK a b c k < 2 ^ k * 2 := by
  have hp := two_pow_pos k
  have h0 := Int.emod_nonneg a (Int.ne_of_gt hp)
  have h1 := Int.emod_lt_of_pos a hp
  have h2 := Int.emod_nonneg b (Int.ne_of_gt hp)
  have h3 := Int.emod_lt_of_pos b hp
  unfold addK
  cases c <;> simp <;> omega
theorem addK_div (a b : Int) (c : Bool) (k : Nat) : addK a b c k / 2 ^ k = 0 ∨ addK a b c k / 2 ^ k = 1 := by
  obtain ⟨h0, h1⟩ := addK_bd a b c k
  have hp := two_pow_pos k
  have e1 : addK a b c k / 2 ^ k < 2 := Int.ediv_lt_of_lt_mul hp (by omega)
  have e2 := Int.ediv_nonneg h0 (Int.le_of_lt hp)
  omega
theorem addK_0 (a b : Int) (c : Bool) : addK a b c 0 = if c then 1 else 0 := by simp [addK]
theorem AddR_0 (a b : Int) (c : Bool) : AddR a b c 0 0 c := by
  cases c <;> simp [AddR, addK_0]
theorem AddR_step (a b : Int) (c q : Bool) (k : Nat) (y : Int) (hk : k < 64) (h : AddR a b c k y q) (n : Int) (hn : n = (if q then 1 else 0) + a / 2 ^ k % 2 + b / 2 ^ k % 2) :
    AddR a b c (k + 1) (IntKind.u64.wrap (y + IntKind.u64.wrap (n % 2 * 2 ^ k))) (decide (1 < n)) := by
  obtain ⟨hy, hq⟩ := h
  have hp := two_pow_pos k
  have hp2 := two_pow_63 k hk
  have hS := addK_div a b c k
  have hy0 := Int.emod_nonneg (addK a b c k) (Int.ne_of_gt hp)
  have hy1 := Int.emod_lt_of_pos (addK a b c k) hp
  rw [← hy] at hy0 hy1
  have hq' : (if q then 1 else 0 : Int) = addK a b c k / 2 ^ k := by
    rw [hq]; rcases hS with h | h <;> simp [h]
  have hn2 := digit_bd (2 ^ k) (n % 2) hp (by omega)
  have e0 : addK a b c (k + 1) = addK a b c k + 2 ^ k * (a / 2 ^ k % 2) + 2 ^ k * (b / 2 ^ k % 2) := by
    unfold addK
    rw [two_pow_succ, emod_two a _ hp, emod_two b _ hp]
    omega
  have e1 : addK a b c k = y + 2 ^ k * (addK a b c k / 2 ^ k) := by rw [hy]; exact (Int.emod_add_mul_ediv _ _).symm
  have e2 : addK a b c (k + 1) = (y + 2 ^ k * (n % 2)) + 2 ^ k * 2 * (n / 2) := by
    have e3 : 2 ^ k * n = 2 ^ k * (n % 2) + 2 ^ k * 2 * (n / 2) := by
      rw [Int.mul_assoc, ← Int.mul_add]; congr 1; omega
    have e4 : 2 ^ k * n = 2 ^ k * (addK a b c k / 2 ^ k) + 2 ^ k * (a / 2 ^ k % 2) + 2 ^ k * (b / 2 ^ k % 2) := by
      rw [hn, hq', Int.mul_add, Int.mul_add]
    omega
  have m1 : IntKind.u64.wrap (n % 2 * 2 ^ k) = 2 ^ k * (n % 2) := by
    rw [IntKind.wrap_u64, Int.mul_comm, Int.emod_eq_of_lt hn2.1 (by omega)]
  have m2 : IntKind.u64.wrap (y + 2 ^ k * (n % 2)) = y + 2 ^ k * (n % 2) := by
    rw [IntKind.wrap_u64, Int.emod_eq_of_lt (by omega) (by omega)]
  refine ⟨?_, ?_⟩
  · rw [m1, m2, two_pow_succ]
    exact (emod_of _ _ _ _ e2 (by omega) (by omega)).symm
  · rw [two_pow_succ, ediv_of _ _ _ _ e2 (by omega) (by omega)]
    rw [decide_eq_decide]
    have : n ≤ 3 := by rw [hn]; split <;> omega
    omega

/-! signs -/
theorem SgnR_pow (wd : Int) (k : Nat) (h : wd.toNat ≤ k) : ∃ t : Int, 1 ≤ t ∧ (2 : Int) ^ k = 2 ^ wd.toNat * t := by
  refine ⟨2 ^ (k - wd.toNat), two_pow_pos _, ?_⟩
  rw [← Int.pow_add]; congr 1; omega
theorem SgnR_start (wd a : Int) : SgnR wd a wd.toNat (lowI wd a) := ⟨Nat.le_refl _, by omega, .inl rfl⟩
theorem SgnR_top (wd a : Int) (k : Nat) (y : Int) (hw : MayW wd) (h : SgnR wd a k y) : topB wd y = topB wd (lowI wd a) := by
  obtain ⟨hk, hy, _⟩ := h
  obtain ⟨t, ht, hp⟩ := SgnR_pow wd k hk
  rw [hp] at hy
  unfold topB
  rw [decide_eq_decide, hy]
  rcases hw with rfl | rfl | rfl | rfl <;> simp [lowI] at * <;> omega
theorem SgnR_step (wd a : Int) (k : Nat) (y : Int) (hw : MayW wd) (h : SgnR wd a k y) (hu : U64 y) (hk : k < 64) (ht : topB wd y = true) :
    SgnR wd a (k + 1) (IntKind.u64.wrap (y + IntKind.u64.wrap (2 ^ k))) ∧ U64 (IntKind.u64.wrap (y + IntKind.u64.wrap (2 ^ k))) := by
  have h1 := SgnR_top wd a k y hw h
  obtain ⟨hk1, hy, _⟩ := h
  have hp := two_pow_pos k
  have hp2 := two_pow_63 k hk
  have hl : lowI wd a < 2 ^ wd.toNat := Int.emod_lt_of_pos _ (two_pow_pos _)
  obtain ⟨hu0, hu1⟩ := hu
  have e : IntKind.u64.wrap (y + IntKind.u64.wrap (2 ^ k)) = y + 2 ^ k := by
    rw [IntKind.wrap_u64, IntKind.wrap_u64, Int.emod_eq_of_lt (a := 2 ^ k) (by omega) (by omega), Int.emod_eq_of_lt (by omega) (by omega)]
  rw [e]
  refine ⟨⟨by omega, ?_, .inr (by rw [← h1, ht])⟩, by omega, by omega⟩
  rw [two_pow_succ]; omega
theorem SgnR_no (wd a : Int) (k : Nat) (y : Int) (hw : MayW wd) (h : SgnR wd a k y) (ht : topB wd y = false) : y = signI wd a := by
  have h1 := SgnR_top wd a k y hw h
  obtain ⟨_, hy, h2⟩ := h
  rw [ht] at h1
  unfold signI
  rw [← h1, if_neg (by simp)]
  rcases h2 with rfl | h2
  · omega
  · rw [h2] at h1; cases h1
theorem SgnR_end (wd a : Int) (y : Int) (hw : MayW wd) (h : SgnR wd a 64 y) : y = signI wd a := by
  cases ht : topB wd y with
  | false => exact SgnR_no wd a 64 y hw h ht
  | true =>
    have h1 := SgnR_top wd a 64 y hw h
    obtain ⟨_, hy, h2⟩ := h
    unfold signI
    rw [← h1, ht, if_pos rfl, hy]
    rcases hw with rfl | rfl | rfl | rfl <;> simp <;> omega

end Go.Proofs.Ytkfenljldmbmcaa
