/- Plain laws: where words that are not 0 lie; a memory filled again by its words. -/
import Derived.Test.YtageahpgcjnkpaaZ
import Derived.Test.YtageahpgcjnkpaaQ
set_option linter.unusedSimpArgs false
set_option linter.unusedVariables false
namespace Go.Proofs.Ytageahpgcjnkpaa
open Go.RowKit

/-- all bytes that are not 0 lie within -/
def Inside (L : List Reg) (f : Nat → Int) : Prop := ∀ i : Nat, i < 65536 → f i ≠ 0 → askI L i 1 = 0
theorem ask1_ok {L : List Reg} {a : Int} : askI L a 1 = 0 ↔ (placeI L a).1 ≠ -2 := by
  rw [ask1]
  by_cases h : (placeI L a).1 = -2
  · rw [if_pos h]; simp [h]
  · rw [if_neg h]; simp [h]
theorem inside_zero (L : List Reg) : Inside L (fun _ => 0) := fun i _ h => absurd rfl h
theorem inside_put {L : List Reg} {f : Nat → Int} (hm : ∀ r ∈ L, mayB r = true) (h : Inside L f) (a : Nat) (x : Int) (ha : askI L a 8 = 0) : Inside L (put8 f a x) := by
  intro i hi hne
  by_cases hk : a ≤ i ∧ i < a + 8
  · have := ask_bytes hm ha ((i : Int) - a) (by omega) (by omega)
    rw [show (a : Int) + ((i : Int) - a) = i by omega] at this
    exact this
  · rw [put_far f a x i (by omega)] at hne
    exact h i hi hne
theorem inside_store {L : List Reg} {f : Nat → Int} (hm : ∀ r ∈ L, mayB r = true) (h : Inside L f) (a x : Int) (ha : 0 ≤ a) : Inside L (storeF L f a x) := by
  unfold storeF
  by_cases hk : askI L a 8 = 0
  · rw [if_pos hk]
    obtain ⟨m, rfl⟩ := Int.eq_ofNat_of_zero_le ha
    exact inside_put hm h m x hk
  · rw [if_neg hk]; exact h
theorem inside_byte {L : List Reg} {f : Nat → Int} (h : Inside L f) (a x : Int) (ha : 0 ≤ a) : Inside L (storeG L f a x) := by
  unfold storeG
  by_cases hk : askI L a 1 = 0
  · rw [if_pos hk]
    obtain ⟨m, rfl⟩ := Int.eq_ofNat_of_zero_le ha
    intro i hi hne
    unfold upd at hne
    by_cases e : i = m
    · subst e; exact hk
    · rw [if_neg (by simpa using e)] at hne
      exact h i hi hne
  · rw [if_neg hk]; exact h
theorem inside_step {L : List Reg} {f : Nat → Int} (hm : ∀ r ∈ L, mayB r = true) (h : Inside L f) (s : Stp) (ha : 0 ≤ s.addr) : Inside L (stepF L f s) := by
  unfold stepF
  split
  · exact inside_store hm h _ _ ha
  · split
    · exact inside_byte h _ _ ha
    · exact h
/-- a region's word lies within -/
theorem ask_region {L : List Reg} {r : Reg} (hm : ∀ r ∈ L, mayB r = true) (hr : r ∈ L) (k : Nat) (hk : (k : Int) < r.size) : askI L ((r.addr.toNat + 8 * k : Nat) : Int) 8 = 0 := by
  obtain ⟨m1, m2, m3, m4, m5, m6, m7⟩ := (mayB_iff r).1 (hm r hr)
  have hp : (placeI L ((r.addr.toNat + 8 * k : Nat) : Int)).1 ≠ -2 := by
    rw [place_ok]
    refine ⟨by omega, .inr ⟨r, hr, ?_⟩⟩
    rw [hasB_iff]
    omega
  unfold askI
  rw [if_neg (by omega), if_neg hp]
theorem inside_fillR {L : List Reg} {f : Nat → Int} {r : Reg} (hm : ∀ r ∈ L, mayB r = true) (hr : r ∈ L) (h : Inside L f) (ws : List Int) (hl : (ws.length : Int) = r.size) : ∀ k, k ≤ ws.length → Inside L (fillR f r.addr.toNat ws k)
  | 0, _ => h
  | k + 1, hk => inside_put hm (inside_fillR hm hr h ws hl k (by omega)) _ _ (ask_region hm hr k (by omega))
theorem inside_fillA {L : List Reg} {W : List (List Int)} (hm : ∀ r ∈ L, mayB r = true) (hf : fitsB L W = true) : ∀ k, k ≤ L.length → Inside L (fillA (fun _ => 0) L W k)
  | 0, _ => inside_zero L
  | k + 1, hk => by
    have e1 : L[k]? = some (L[k]'(by omega)) := List.getElem?_eq_getElem (by omega)
    have e2 : W[k]? = some (W[k]'(by have := fits_len hf; omega)) := List.getElem?_eq_getElem _
    rw [fillA_succ e1 e2]
    exact inside_fillR hm (List.mem_of_getElem? e1) (inside_fillA hm hf k (by omega)) _ (fits_at hf e1 e2) _ (Nat.le_refl _)
theorem inside_play {L : List Reg} {W : List (List Int)} {S : List Stp} (hm : ∀ r ∈ L, mayB r = true) (hf : fitsB L W = true) (hs : ∀ s ∈ S, s.Wf) : ∀ k, k ≤ S.length → Inside L (playN L W L.length S k)
  | 0, _ => inside_fillA hm hf _ (Nat.le_refl _)
  | k + 1, hk => by
    have e1 : S[k]? = some (S[k]'(by omega)) := List.getElem?_eq_getElem (by omega)
    rw [playN_succ e1]
    exact inside_step hm (inside_play hm hf hs k (by omega)) _ (hs _ (List.mem_of_getElem? e1)).2.1.1

theorem getN_zero {f : Nat → Int} {a : Nat} : ∀ k, (∀ i, i < k → f (a + i) = 0) → getN f a k = 0
  | 0, _ => rfl
  | k + 1, h => by simp only [getN]; rw [getN_zero k (fun i hi => h i (by omega)), h k (by omega)]; omega
theorem getN_split {f : Nat → Int} {a : Nat} (j : Nat) : ∀ k, getN f a (j + k) = getN f a j + 256 ^ j * getN f (a + j) k
  | 0 => by simp [getN]
  | k + 1 => by
    rw [← Nat.add_assoc]
    simp only [getN]
    rw [getN_split j k, Int.mul_add, Int.pow_add, Nat.add_assoc, Int.add_assoc]
    congr 1
    congr 1
    rw [← Int.mul_assoc, ← Int.mul_assoc, Int.mul_comm (f _)]
theorem getN_head {f : Nat → Int} {a : Nat} (k : Nat) : getN f a (k + 1) = f a + 256 * getN f (a + 1) k := by
  have := getN_split (f := f) (a := a) 1 k
  rw [Nat.add_comm] at this
  rw [this]
  simp [getN]
theorem byte_of {f : Nat → Int} (hf : ByteFn f) (a j : Nat) (hj : j < 8) : get8 f a / 256 ^ j % 256 = f (a + j) := by
  unfold get8
  obtain ⟨m, hm⟩ : ∃ m, 8 = j + (m + 1) := ⟨7 - j, by omega⟩
  rw [hm, getN_split, getN_head]
  obtain ⟨b0, b1⟩ := getN_bd f a hf j
  obtain ⟨c0, c1⟩ := hf (a + j)
  have hp := pow_pos256 j
  rw [Int.add_comm, Int.add_ediv_of_dvd_left (Int.dvd_mul_right _ _), Int.mul_ediv_cancel_left _ (Int.ne_of_gt hp), Int.ediv_eq_zero_of_lt b0 b1]
  omega
theorem getN_pos {f : Nat → Int} (hf : ByteFn f) {a : Nat} : ∀ k, getN f a k = 0 → ∀ i, i < k → f (a + i) = 0
  | 0, _, i, hi => by omega
  | k + 1, h, i, hi => by
    simp only [getN] at h
    obtain ⟨b0, b1⟩ := getN_bd f a hf k
    obtain ⟨c0, c1⟩ := hf (a + k)
    have hp := pow_pos256 k
    have h2 : 0 ≤ f (a + k) * 256 ^ k := Int.mul_nonneg c0 (Int.le_of_lt hp)
    have h3 : getN f a k = 0 := by omega
    have h4 : f (a + k) * 256 ^ k = 0 := by omega
    rcases Nat.lt_or_ge i k with h | h
    · exact getN_pos hf k h3 i h
    · obtain rfl : i = k := by omega
      rcases Int.mul_eq_zero.1 h4 with h5 | h5
      · exact h5
      · omega
/-- a word that is not 0 lies within -/
theorem word_in {L : List Reg} {f : Nat → Int} (hm : ∀ r ∈ L, mayB r = true) (h : Inside L f) {x : Nat} (hx : x < 8192) (hne : get8 f (8 * x) ≠ 0) : askI L (8 * (x : Int)) 8 = 0 := by
  have hex : ∃ j, j < 8 ∧ f (8 * x + j) ≠ 0 := by
    refine Classical.byContradiction fun hno => hne ?_
    refine getN_zero 8 fun i hi => ?_
    refine Classical.byContradiction fun h0 => hno ⟨i, hi, h0⟩
  obtain ⟨j, hj, hfj⟩ := hex
  have h1 := h (8 * x + j) (by omega) hfj
  rw [ask1_ok, place_ok] at h1
  have hp : (placeI L (8 * (x : Int))).1 ≠ -2 := by
    rw [place_ok]
    refine ⟨by omega, ?_⟩
    rcases h1.2 with k | ⟨r, hr, hh⟩
    · left; omega
    · right
      refine ⟨r, hr, ?_⟩
      rw [hasB_iff] at hh ⊢
      obtain ⟨m1, m2, m3, m4, m5, m6, m7⟩ := (mayB_iff r).1 (hm r hr)
      omega
  unfold askI
  rw [if_neg (by omega), if_neg hp]

/-- words stored again, one behind the other -/
def refill (L : List Reg) (f : Nat → Int) (l : List Nat) : Nat → Int := l.foldl (fun g (i : Nat) => storeF L g (8 * (i : Int)) (get8 f (8 * i))) (fun _ => 0)
theorem refill_append (L : List Reg) (f : Nat → Int) (l : List Nat) (x : Nat) : refill L f (l ++ [x]) = storeF L (refill L f l) (8 * (x : Int)) (get8 f (8 * x)) := by
  unfold refill
  rw [List.foldl_append]
  rfl
theorem refill_byte (L : List Reg) (f : Nat → Int) (l : List Nat) : ByteFn (refill L f l) := by
  unfold refill
  suffices h : ∀ (l : List Nat) (g : Nat → Int), ByteFn g → ByteFn (l.foldl (fun g (i : Nat) => storeF L g (8 * (i : Int)) (get8 f (8 * i))) g) from h l _ zero_byte
  intro l
  induction l with
  | nil => intro g hg; exact hg
  | cons x l ih => intro g hg; exact ih _ (storeF_byte hg _ _ _)
theorem refill_all {L : List Reg} {f : Nat → Int} (hm : ∀ r ∈ L, mayB r = true) (h : Inside L f) (hf : ByteFn f) : ∀ k, k ≤ 8192 → ∀ i, refill L f (fullN f k) i = if i < 8 * k then f i else 0
  | 0, _, i => by simp [fullN, refill]
  | k + 1, hk, i => by
    have ih := refill_all hm h hf k (by omega)
    rw [fullN_succ]
    by_cases hz : get8 f (8 * k) = 0
    · rw [if_pos hz, ih i]
      by_cases h1 : i < 8 * k
      · rw [if_pos h1, if_pos (by omega)]
      · rw [if_neg h1]
        by_cases h2 : i < 8 * (k + 1)
        · rw [if_pos h2]
          have := getN_pos hf 8 hz (i - 8 * k) (by omega)
          rw [show 8 * k + (i - 8 * k) = i by omega] at this
          exact this.symm
        · rw [if_neg h2]
    · rw [if_neg hz, refill_append]
      unfold storeF
      rw [if_pos (word_in hm h (by omega) hz), show (8 * (k : Int)).toNat = 8 * k by omega]
      by_cases h1 : i < 8 * k
      · rw [put_far _ _ _ _ (by omega), ih i, if_pos h1, if_pos (by omega)]
      · by_cases h2 : i < 8 * (k + 1)
        · rw [if_pos h2]
          have h3 := put_at (refill L f (fullN f k)) (8 * k) (get8 f (8 * k)) (i - 8 * k) (by omega)
          rw [show 8 * k + (i - 8 * k) = i by omega] at h3
          rw [h3, byte_of hf (8 * k) (i - 8 * k) (by omega), show 8 * k + (i - 8 * k) = i by omega]
        · rw [if_neg h2, put_far _ _ _ _ (by omega), ih i, if_neg h1]
theorem refill_same {L : List Reg} {f : Nat → Int} (hm : ∀ r ∈ L, mayB r = true) (h : Inside L f) (hf : ByteFn f) : eqF f (refill L f (fullN f 8192)) = true := by
  rw [eqF_iff]
  intro i hi
  rw [refill_all hm h hf 8192 (by omega) i, if_pos (by omega)]
theorem fullN_mem {f : Nat → Int} {k x : Nat} (h : x ∈ fullN f k) : x < k ∧ get8 f (8 * x) ≠ 0 := by
  unfold fullN at h
  rw [List.mem_filter] at h
  exact ⟨List.mem_range.1 h.1, by simpa using h.2⟩
end Go.Proofs.Ytageahpgcjnkpaa
