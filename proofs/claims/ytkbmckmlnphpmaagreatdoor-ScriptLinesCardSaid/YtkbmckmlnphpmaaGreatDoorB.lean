/- Words of small letters: isWord; a line of words. -/
import Derived.Test.YtkbmckmlnphpmaaGreatDoorA
import Derived.Laws.RangeAny
set_option linter.unusedSimpArgs false
set_option linter.unusedVariables false
namespace Go.Proofs.YtkbmckmlnphpmaaGreatDoor
open Go.RowKit Go.Lib Go.Shelf

def lowB (b : UInt8) : Bool := decide (97 ≤ b.toNat) && decide (b.toNat ≤ 122)
/-- a word -/
def wordB (s : ByteArray) : Bool := decide (0 < s.size) && s.data.toList.all lowB
def badR (r : Nat) : Bool := decide (r < 97) || decide (122 < r)

theorem idx_good {s : ByteArray} : ∀ (f pos : Nat), (∀ (j : Nat) (hj : j < s.size), pos ≤ j → lowB (s[j]'hj) = true) → Lib.idxFuncFrom badR true s f pos = -1
  | 0, _, _ => rfl
  | f + 1, pos, h => by
    unfold Lib.idxFuncFrom
    by_cases hp : pos < s.size
    · rw [if_pos hp]
      have hg := h pos hp (Nat.le_refl _)
      unfold lowB at hg
      rw [Bool.and_eq_true] at hg
      obtain ⟨g1, g2⟩ := hg
      have g1' := of_decide_eq_true g1
      have g2' := of_decide_eq_true g2
      rw [decode_ascii s pos hp (by omega)]
      have hb : badR (s[pos]'hp).toNat = false := by unfold badR; simp; omega
      rw [if_neg (by simp [hb])]
      exact idx_good f _ fun j hj hle => h j hj (by dsimp only at hle; omega)
    · rw [if_neg hp]
theorem idx_bad {s : ByteArray} {j : Nat} (hj : j < s.size) (hb : lowB (s[j]'hj) = false) : ∀ (f pos : Nat), pos ≤ j → j < pos + f → (∀ (i : Nat) (hi : i < s.size), pos ≤ i → i < j → lowB (s[i]'hi) = true) → 0 ≤ Lib.idxFuncFrom badR true s f pos
  | 0, _, h1, h2, _ => by omega
  | f + 1, pos, h1, h2, h => by
    unfold Lib.idxFuncFrom
    have hp : pos < s.size := by omega
    rw [if_pos hp]
    by_cases he : pos = j
    · subst he
      have hbad : badR (Utf8.decode s pos).1 = true := by
        by_cases ha : (s[pos]'hp).toNat < 128
        · rw [decode_ascii s pos hp ha]
          unfold lowB at hb
          unfold badR
          simp at hb ⊢
          omega
        · have := (decode_high s pos hp (by omega)).1
          unfold badR
          simp
          omega
      rw [if_pos hbad]
      omega
    · have hg := h pos hp (Nat.le_refl _) (by omega)
      unfold lowB at hg
      rw [Bool.and_eq_true] at hg
      obtain ⟨g1, g2⟩ := hg
      have g1' := of_decide_eq_true g1
      have g2' := of_decide_eq_true g2
      rw [decode_ascii s pos hp (by omega)]
      have hb2 : badR (s[pos]'hp).toNat = false := by unfold badR; simp; omega
      rw [if_neg (by simp [hb2])]
      exact idx_bad hj hb f _ (by dsimp only; omega) (by dsimp only; omega) fun i hi h3 h4 => h i hi (by dsimp only at h3; omega) h4
/-- the least place that is not so -/
theorem least_bad (p : Nat → Prop) [DecidablePred p] : ∀ n, p n → ∃ j, j ≤ n ∧ p j ∧ ∀ i, i < j → ¬ p i
  | 0, h => ⟨0, Nat.le_refl _, h, fun i hi => by omega⟩
  | n + 1, h => by
    by_cases he : ∃ i, i ≤ n ∧ p i
    · obtain ⟨i, hi, hp⟩ := he
      obtain ⟨j, h1, h2, h3⟩ := least_bad_le p n i hi hp
      exact ⟨j, by omega, h2, h3⟩
    · exact ⟨n + 1, Nat.le_refl _, h, fun i hi hp => he ⟨i, by omega, hp⟩⟩
where least_bad_le (p : Nat → Prop) [DecidablePred p] : ∀ n i, i ≤ n → p i → ∃ j, j ≤ i ∧ p j ∧ ∀ k, k < j → ¬ p k
  | 0, i, hi, hp => ⟨i, Nat.le_refl _, hp, fun k hk => by omega⟩
  | n + 1, i, hi, hp => by
    by_cases he : ∃ k, k < i ∧ p k
    · obtain ⟨k, hk, hpk⟩ := he
      obtain ⟨j, h1, h2, h3⟩ := least_bad_le p n k (by omega) hpk
      exact ⟨j, by omega, h2, h3⟩
    · exact ⟨i, Nat.le_refl _, hp, fun k hk hpk => he ⟨k, hk, hpk⟩⟩
theorem idx_word (s : ByteArray) : decide (0 ≤ Lib.idxFunc badR true s) = !s.data.toList.all lowB := by
  have hlen : s.data.toList.length = s.size := Array.length_toList
  have hget : ∀ (j : Nat) (hj : j < s.size), s[j]'hj = s.data.toList[j]'(by rw [hlen]; exact hj) := fun j hj => (Array.getElem_toList (xs := s.data) (by exact hj)).symm
  cases h : s.data.toList.all lowB
  · rw [List.all_eq_false] at h
    obtain ⟨b, hb, hn⟩ := h
    obtain ⟨n, hn2, rfl⟩ := List.getElem_of_mem hb
    have hns : n < s.size := by rw [← hlen]; exact hn2
    obtain ⟨j, h1, ⟨hj, h2⟩, h3⟩ := least_bad (fun j => ∃ hj : j < s.size, lowB (s[j]'hj) = false) n ⟨hns, by rw [hget n hns]; simpa using hn⟩
    have := idx_bad hj h2 s.size 0 (Nat.zero_le _) (by omega) fun i hi _ hlt => by
      have := h3 i hlt
      cases hc : lowB (s[i]'hi)
      · exact absurd ⟨hi, hc⟩ this
      · rfl
    exact decide_eq_true this
  · rw [List.all_eq_true] at h
    have := idx_good (s := s) s.size 0 fun j hj _ => by rw [hget j hj]; exact h _ (List.getElem_mem _)
    unfold Lib.idxFunc
    rw [this]
    rfl

set_option maxRecDepth 100000 in
set_option maxHeartbeats 1000000 in
theorem bad_fn (r : Nat) (w : World) : Calls Tryz.prog 81 #[.int .i32 (r : Int)] w fun e w' => e = .returned (.bool (badR r)) ∧ w = w' := by
  unfold badR
  by_cases h1 : r < 97
  · have d1 : decide (r < 97) = true := by simpa using h1
    have e1 : (r : Int) < 97 := by omega
    go_enter Tryz.func81, Tryz.ntmps81
    go_wp2
    go_ret
    exact ⟨by rw [d1]; rfl, rfl⟩
  · have d1 : decide (r < 97) = false := by simpa using h1
    have e1 : ¬ ((r : Int) < 97) := by omega
    by_cases h2 : 122 < r
    · have d2 : decide (122 < r) = true := by simpa using h2
      have e2 : (122 : Int) < (r : Int) := by omega
      go_enter Tryz.func81, Tryz.ntmps81
      go_wp2
      go_ret
      exact ⟨rfl, rfl⟩
    · have d2 : decide (122 < r) = false := by simpa using h2
      have e2 : ¬ ((122 : Int) < (r : Int)) := by omega
      go_enter Tryz.func81, Tryz.ntmps81
      go_wp2
      go_ret
      exact ⟨rfl, rfl⟩
theorem bad_pred (w : World) : PredAt Tryz.prog 81 #[] encR badR w := fun W x _ =>
  (bad_fn x W).mono fun e w' ⟨h1, h2⟩ => ⟨h1, 0, by rw [← h2]; rfl⟩
def BoolPost (b : Bool) (w : World) (e : Ending) (w' : World) : Prop := e = .returned (.bool b) ∧ Below w.heap.size w w'

set_option maxRecDepth 100000 in
set_option maxHeartbeats 1000000 in
theorem isWord_any (s : ByteArray) (w : World) : Calls Tryz.prog 49 #[.string s] w (BoolPost (wordB s) w) := by
  have hc := Lib.hid (Tryz.strings_ContainsFunc 81 #[] (enters_of Tryz.func81 (by kernel_rfl) rfl) badR s w (bad_pred w))
  rw [idx_word s] at hc
  by_cases h0 : s.toList = []
  · have hd : s.toList.isEmpty = true := by simp [h0]
    have hw : wordB s = false := by
      unfold wordB
      rw [ByteArray.toList_eq] at h0
      have : s.size = 0 := by show s.data.size = 0; rw [← Array.length_toList, h0]; rfl
      rw [this]; rfl
    rw [hw]
    go_enter Tryz.func49, Tryz.ntmps49
    go_wp2
    go_ret
    exact ⟨rfl, Below.refl _ _⟩
  · have hd : s.toList.isEmpty = false := by simp [h0]
    have hw : wordB s = s.data.toList.all lowB := by
      unfold wordB
      have : 0 < s.size := by
        rw [ByteArray.toList_eq] at h0
        show 0 < s.data.size
        rw [← Array.length_toList]
        exact List.length_pos_iff.2 h0
      rw [decide_eq_true this, Bool.true_and]
    rw [hw]
    generalize s.data.toList.all lowB = t at hc
    clear hw
    go_enter Tryz.func49, Tryz.ntmps49
    go_wp2_with fail
    refine hc.out.mono ?_
    rintro e w1 ⟨rfl, hb⟩
    have hb' := Lib.hid hb
    clear hb
    cases t
    all_goals
      go_wp2
      go_ret
      exact ⟨rfl, hb'.out⟩
end Go.Proofs.YtkbmckmlnphpmaaGreatDoor
