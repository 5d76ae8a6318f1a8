/- Plain laws of numbers: which texts are numbers. -/
import Derived.Test.YtkbmckmlnphpmaaGreatDoorG
set_option linter.unusedSimpArgs false
set_option linter.unusedVariables false
namespace Go.Proofs.YtkbmckmlnphpmaaGreatDoor
open Go.RowKit Go.Lib Go.Shelf

def digB (c : UInt8) : Bool := decide (48 ≤ c.toNat) && decide (c.toNat ≤ 57)
def valF (acc : Nat) (l : List UInt8) : Nat := l.foldl (fun a c => a * 10 + (c.toNat - 48)) acc
theorem valF_cons (acc : Nat) (c : UInt8) (l : List UInt8) : valF acc (c :: l) = valF (acc * 10 + (c.toNat - 48)) l := by unfold valF; rw [List.foldl_cons]
theorem valF_snoc (acc : Nat) (l : List UInt8) (c : UInt8) : valF acc (l ++ [c]) = valF acc l * 10 + (c.toNat - 48) := by simp [valF]
theorem valF_ge (l : List UInt8) : ∀ (acc : Nat), acc ≤ valF acc l := by
  induction l with
  | nil => intro acc; exact Nat.le_refl _
  | cons c l ih =>
    intro acc
    rw [valF_cons]
    exact Nat.le_trans (by omega) (ih _)
theorem valF_app (acc : Nat) (l m : List UInt8) : valF acc (l ++ m) = valF (valF acc l) m := by simp [valF]
theorem dig_iff (c : UInt8) : digB c = true ↔ 48 ≤ c.toNat ∧ c.toNat ≤ 57 := by simp [digB]
theorem parse_step {M : Nat} (c : UInt8) (r : List UInt8) (acc : Nat) (u : Nat) (h : parseUintM M acc (c :: r) = .ok u) : digB c = true ∧ parseUintM M (acc * 10 + (c.toNat - 48)) r = .ok u := by
  unfold parseUintM at h
  generalize 1844674407370955162 = K at h
  by_cases hd : 48 ≤ c.toNat ∧ c.toNat ≤ 57
  · rw [if_pos hd] at h
    refine ⟨(dig_iff c).2 hd, ?_⟩
    by_cases h1 : K ≤ acc
    · rw [if_pos h1] at h; exact absurd h (fun e => nomatch e)
    · rw [if_neg h1] at h
      by_cases h2 : M < acc * 10 + (c.toNat - 48)
      · rw [if_pos h2] at h; exact absurd h (fun e => nomatch e)
      · rw [if_neg h2] at h; exact h
  · rw [if_neg hd] at h; exact absurd h (fun e => nomatch e)
theorem parse_ok {M : Nat} (l : List UInt8) : ∀ (acc u : Nat), parseUintM M acc l = .ok u → l.all digB = true ∧ valF acc l = u := by
  induction l with
  | nil => intro acc u h; exact ⟨rfl, by injection h⟩
  | cons c r ih =>
    intro acc u h
    obtain ⟨h1, h2⟩ := parse_step c r acc u h
    obtain ⟨h3, h4⟩ := ih _ u h2
    refine ⟨?_, h4⟩
    rw [List.all_cons, h3, h1]; rfl
theorem parse_conv (l : List UInt8) : ∀ (acc : Nat), l.all digB = true → valF acc l ≤ 18446744073709551615 → parseUintM (2 ^ 64 - 1) acc l = .ok (valF acc l) := by
  have e64 : 2 ^ 64 - 1 = 18446744073709551615 := by decide
  rw [e64]
  generalize hM : 18446744073709551615 = M
  induction l with
  | nil => intro acc _ _; rfl
  | cons c r ih =>
    intro acc h hv
    rw [List.all_cons, Bool.and_eq_true] at h
    have hd := (dig_iff c).1 h.1
    rw [valF_cons] at hv
    have hge := valF_ge r (acc * 10 + (c.toNat - 48))
    unfold parseUintM
    rw [if_pos hd, if_neg (by omega), if_neg (by omega), ih _ h.2 hv, valF_cons]
theorem dig_nat (n : Nat) (h : n < 10) : (UInt8.ofNat (48 + n)).toNat = 48 + n := by rw [UInt8.toNat_ofNat']; omega
theorem dec_val (u : Nat) : valF 0 (decDigits u) = u := by
  rw [decDigits]
  split
  · rename_i h
    show 0 * 10 + ((UInt8.ofNat (48 + u)).toNat - 48) = u
    rw [dig_nat u h]; omega
  · rw [valF_snoc, dec_val (u / 10), dig_nat _ (by omega)]; omega
termination_by u
decreasing_by omega
theorem dec_all (u : Nat) : (decDigits u).all digB = true := by
  rw [decDigits]
  split
  · rename_i h
    simp only [List.all_cons, List.all_nil, Bool.and_true]
    rw [dig_iff, dig_nat u h]; omega
  · rw [List.all_append, dec_all (u / 10)]
    simp only [List.all_cons, List.all_nil, Bool.and_true, Bool.true_and]
    rw [dig_iff, dig_nat _ (by omega)]; omega
termination_by u
decreasing_by omega
theorem dec_ne (u : Nat) : decDigits u ≠ [] := by
  rw [decDigits]
  split <;> simp
theorem dec_head (u : Nat) (hu : 1 ≤ u) : ∀ c, (decDigits u).head? = some c → 49 ≤ c.toNat := by
  rw [decDigits]
  split
  · rename_i h
    intro c hc
    simp only [List.head?_cons, Option.some.injEq] at hc
    rw [← hc, dig_nat u h]; omega
  · intro c hc
    have hne := dec_ne (u / 10)
    refine dec_head (u / 10) (by omega) c ?_
    cases hl : decDigits (u / 10) with
    | nil => exact absurd hl hne
    | cons d r => rw [hl] at hc; simpa using hc
termination_by u
decreasing_by omega
/-- the form of a number -/
def canonB (l : List UInt8) : Bool := decide (0 < l.length) && (decide (l.length ≤ 1) || l.headD 0 != 48) && l.all digB
theorem dec_canon (u : Nat) : canonB (decDigits u) = true := by
  unfold canonB
  rw [dec_all u, Bool.and_true]
  have h0 : 0 < (decDigits u).length := List.length_pos_iff.2 (dec_ne u)
  rw [decide_eq_true h0, Bool.true_and]
  by_cases hu : u < 10
  · rw [decDigits_one hu]; rfl
  · have h1 := dec_head u (by omega)
    cases hl : decDigits u with
    | nil => rw [hl] at h0; simp at h0
    | cons c r =>
      rw [hl] at h1
      have h2 := h1 c rfl
      have : c ≠ 48 := fun e => by subst e; revert h2; decide
      simp [this]
theorem dec_of_canon : ∀ (n : Nat) (l : List UInt8), l.length = n → canonB l = true → decDigits (valF 0 l) = l
  | 0, l, hn, h => by
    have : l = [] := List.length_eq_zero_iff.1 hn
    subst this; cases h
  | n + 1, l, hn, h => by
    have hne : l ≠ [] := fun e => by subst e; cases hn
    obtain ⟨m, c, rfl⟩ : ∃ m c, l = m ++ [c] := ⟨l.dropLast, l.getLast hne, (List.dropLast_concat_getLast hne).symm⟩
    unfold canonB at h
    simp only [Bool.and_eq_true] at h
    obtain ⟨⟨_, h2⟩, h3⟩ := h
    rw [List.all_append, Bool.and_eq_true] at h3
    obtain ⟨h3, h4⟩ := h3
    have hc : digB c = true := by simpa using h4
    have hc' := (dig_iff c).1 hc
    have e48 : UInt8.ofNat (48 + (c.toNat - 48)) = c := by
      have : 48 + (c.toNat - 48) = c.toNat := by omega
      rw [this]; exact UInt8.ofNat_toNat
    rw [valF_snoc]
    cases m with
    | nil =>
      show decDigits (0 * 10 + (c.toNat - 48)) = [c]
      have h9 : 0 * 10 + (c.toNat - 48) < 10 := by omega
      rw [decDigits_one h9]
      simp only [Nat.zero_mul, Nat.zero_add]
      rw [e48]
    | cons d m =>
      have hd48 : d ≠ 48 := by
        rw [Bool.or_eq_true] at h2
        rcases h2 with h5 | h5
        · simp at h5
        · simpa using h5
      have hd := (dig_iff d).1 (by rw [List.all_cons, Bool.and_eq_true] at h3; exact h3.1)
      have hd49 : 49 ≤ d.toNat := by
        rcases Nat.lt_or_ge d.toNat 49 with h6 | h6
        · exfalso; apply hd48
          have : d.toNat = 48 := by omega
          exact UInt8.toNat_inj.1 this
        · exact h6
      have hcan : canonB (d :: m) = true := by
        unfold canonB
        rw [h3]
        simp [hd48]
      have hv : 1 ≤ valF 0 (d :: m) := by
        rw [valF_cons]
        exact Nat.le_trans (by omega) (valF_ge m _)
      have ih := dec_of_canon n (d :: m) (by simpa using hn) hcan
      rw [decDigits, dif_neg (by omega)]
      have e1 : (valF 0 (d :: m) * 10 + (c.toNat - 48)) / 10 = valF 0 (d :: m) := by omega
      have e2 : (valF 0 (d :: m) * 10 + (c.toNat - 48)) % 10 = c.toNat - 48 := by omega
      rw [e1, e2, ih, e48]
theorem numT_toList (u : Nat) : (numT u).toList = decDigits u := by rw [ByteArray.toList_eq]; rfl
theorem numI_eq (s : ByteArray) : numI s = if canonB s.data.toList = true ∧ valF 0 s.data.toList ≤ 18446744073709551615 then some (valF 0 s.data.toList) else none := by
  unfold numI
  rw [ByteArray.toList_eq]
  by_cases hc : canonB s.data.toList = true ∧ valF 0 s.data.toList ≤ 18446744073709551615
  · rw [if_pos hc]
    have hc1 := hc.1
    unfold canonB at hc1
    simp only [Bool.and_eq_true] at hc1
    have hp : parseUintB 64 s.data.toList = .ok (valF 0 s.data.toList) := by
      unfold parseUintB
      rw [if_neg (fun e => by rw [e] at hc1; simp at hc1), parse_conv _ _ hc1.2 hc.2]
    rw [hp]
    simp only [numT_toList]
    rw [dec_of_canon _ _ rfl hc.1]
    simp
  · rw [if_neg hc]
    rcases hp : parseUintB 64 s.data.toList with u | _ | _
    · simp only [numT_toList]
      have hne : ¬ ((decDigits u == s.data.toList) = true) := by
        intro he
        have he : decDigits u = s.data.toList := by simpa using he
        apply hc
        rw [← he, dec_val]
        have := parseUintB_le hp
        exact ⟨dec_canon u, by omega⟩
      rw [if_neg hne]
    · rfl
    · rfl
theorem numI_lt {s : ByteArray} {u : Nat} (h : numI s = some u) : u < 18446744073709551616 := by
  rw [numI_eq] at h
  split at h
  · rename_i hc; cases h; omega
  · cases h
theorem numI_text {s : ByteArray} {u : Nat} (h : numI s = some u) : numT u = s := by
  rw [numI_eq] at h
  split at h
  · rename_i hc
    cases h
    unfold numT
    rw [dec_of_canon _ _ rfl hc.1]
  · cases h
theorem numI_numT (u : Nat) (hu : u < 18446744073709551616) : numI (numT u) = some u := by
  rw [numI_eq]
  have : (numT u).data.toList = decDigits u := rfl
  rw [this, dec_val, if_pos ⟨dec_canon u, by omega⟩]
theorem numI_long {s : ByteArray} (h : 20 < s.size) : numI s = none := by
  cases hn : numI s with
  | none => rfl
  | some u =>
    exfalso
    have h1 := numI_text hn
    have h2 := numT_len u (numI_lt hn)
    rw [h1] at h2
    have : s.data.toList.length = s.size := Array.length_toList
    omega
theorem numI_zero {s : ByteArray} (h : canonB s.data.toList = false) : numI s = none := by
  rw [numI_eq, if_neg (by rw [h]; simp)]
theorem numI_over {s : ByteArray} (h : 18446744073709551615 < valF 0 s.data.toList) : numI s = none := by
  rw [numI_eq, if_neg (by omega)]
theorem numI_some {s : ByteArray} (h : canonB s.data.toList = true) (h2 : valF 0 s.data.toList ≤ 18446744073709551615) : numI s = some (valF 0 s.data.toList) := by
  rw [numI_eq, if_pos ⟨h, h2⟩]
end Go.Proofs.YtkbmckmlnphpmaaGreatDoor
