/- Plain laws of lines: a text's parts between blanks. -/
import Derived.Test.YtkbmckmlnphpmaaGreatDoorF
import Derived.Lib.SplitLaws
set_option linter.unusedSimpArgs false
set_option linter.unusedVariables false
namespace Go.Proofs.YtkbmckmlnphpmaaGreatDoor
open Go.RowKit Go.Lib Go.Shelf

/-- parts of a text, between bytes c -/
def partsF (c : UInt8) : List UInt8 → List (List UInt8)
  | [] => [[]]
  | b :: l => if b = c then [] :: partsF c l else (b :: (partsF c l).headD []) :: (partsF c l).tail
theorem partsF_ne (c : UInt8) : ∀ l, partsF c l ≠ []
  | [] => by simp [partsF]
  | b :: l => by unfold partsF; split <;> simp
theorem index_nil (c : UInt8) : index [] [c] = -1 := by simp [index]
theorem index_eq (c : UInt8) (l : List UInt8) : index (c :: l) [c] = 0 := by rw [index]; simp [List.isPrefixOf]
theorem index_ne {b c : UInt8} (l : List UInt8) (h : b ≠ c) : index (b :: l) [c] = if index l [c] == -1 then -1 else index l [c] + 1 := by
  have hp : ([c] : List UInt8).isPrefixOf (b :: l) = false := by simp [List.isPrefixOf, Ne.symm h]
  rw [index, hp]; simp
theorem split_parts (c : UInt8) : ∀ l : List UInt8, splitK [c] 0 (l.count c) l = partsF c l
  | [] => rfl
  | b :: l => by
    by_cases h : b = c
    · subst h
      rw [List.count_cons_self, splitK, index_eq]
      simp [partsF, split_parts b l]
    · rw [List.count_cons_of_ne (by simpa using h)]
      have ih := split_parts c l
      have hge := index_ge l [c]
      unfold partsF
      rw [if_neg h, ← ih]
      cases hc : l.count c with
      | zero => simp [splitK]
      | succ k =>
        by_cases hm : index l [c] = -1
        · rw [splitK, splitK, index_ne l h, hm]; simp
        · have h1 : ¬ ((if index l [c] == -1 then -1 else index l [c] + 1) == -1) = true := by
            rw [if_neg (by simpa using hm)]
            simp; omega
          rw [splitK, splitK, index_ne l h, if_neg h1, if_neg (by simpa using hm), if_neg (by simpa using hm)]
          have e1 : (index l [c] + 1).toNat = (index l [c]).toNat + 1 := by omega
          rw [e1]
          simp [Nat.add_right_comm]
theorem splitB_parts (c : UInt8) (s : ByteArray) : splitB ⟨#[c]⟩ 0 (countB s ⟨#[c]⟩) s = (partsF c s.data.toList).map fun l => ⟨l.toArray⟩ := by
  have h := splitB_data ⟨#[c]⟩ 0 (countB s ⟨#[c]⟩) s
  have e : countB s ⟨#[c]⟩ = s.data.toList.count c := count_one c _
  have h2 : (splitB ⟨#[c]⟩ 0 (countB s ⟨#[c]⟩) s).map (·.data.toList) = partsF c s.data.toList := by
    rw [h]
    show splitK [c] 0 _ _ = _
    rw [e, split_parts]
  rw [← h2, List.map_map]
  have e3 : ((fun l : List UInt8 => (⟨l.toArray⟩ : ByteArray)) ∘ fun s : ByteArray => s.data.toList) = id := by
    funext x; simp
  rw [e3, List.map_id]
theorem parts_len (c : UInt8) (s : ByteArray) : (partsF c s.data.toList).length = countB s ⟨#[c]⟩ + 1 := by
  have h := splitB_all ⟨#[c]⟩ (Nat.le_refl 1) 0 (countB s ⟨#[c]⟩) s rfl
  rw [splitB_parts, List.length_map] at h
  exact h
end Go.Proofs.YtkbmckmlnphpmaaGreatDoor
