/- Lines of words told and read: plain. -/
import Derived.Test.YtkbmckmlnphpmaaGreatDoorAJ
set_option linter.unusedSimpArgs false
set_option linter.unusedVariables false
namespace Go.Proofs.YtkbmckmlnphpmaaGreatDoor
open Go.RowKit Go.Lib Go.Shelf

theorem parts_join (c : UInt8) : ∀ (l : List UInt8) (p : List UInt8) (ps : List (List UInt8)), partsF c l = p :: ps → p ++ (ps.map (c :: ·)).flatten = l
  | [], p, ps, h => by
    have h : [[]] = p :: ps := h
    cases h; rfl
  | b :: l, p, ps, h => by
    have hne := partsF_ne c l
    unfold partsF at h
    split at h
    · rename_i hb
      have hb' : b = c := by simpa using hb
      cases h
      cases hl : partsF c l with
      | nil => exact absurd hl hne
      | cons q r =>
        have := parts_join c l q r hl
        simp only [List.map_cons, List.flatten_cons, List.nil_append]
        rw [hb', ← this]
        rfl
    · cases hl : partsF c l with
      | nil => exact absurd hl hne
      | cons q r =>
        rw [hl] at h
        have := parts_join c l q r hl
        cases h
        rw [← this]
        rfl
theorem parts_cons (c : UInt8) (b : UInt8) (l p : List UInt8) (ps : List (List UInt8)) (hb : b ≠ c) (h : partsF c l = p :: ps) : partsF c (b :: l) = (b :: p) :: ps := by
  unfold partsF
  rw [h]
  simp [hb]
theorem parts_of (c : UInt8) : ∀ (ps : List (List UInt8)) (p : List UInt8), (∀ b ∈ p, b ≠ c) → (∀ q ∈ ps, ∀ b ∈ q, b ≠ c) → partsF c (p ++ (ps.map (c :: ·)).flatten) = p :: ps
  | [], [], _, _ => rfl
  | q :: ps, [], h1, h2 => by
    have ih := parts_of c ps q (h2 q (by simp)) (fun r hr => h2 r (by simp [hr]))
    show partsF c (c :: (q ++ (ps.map (c :: ·)).flatten)) = _
    unfold partsF
    rw [ih]
    simp
  | ps, b :: p, h1, h2 => by
    have ih := parts_of c ps p (fun x hx => h1 x (by simp [hx])) h2
    exact parts_cons c b _ _ _ (h1 b (by simp)) ih
termination_by ps p => (ps.length, p.length)

theorem numsM_text : ∀ (xs : List ByteArray) (l : List Int), numsM xs = some l → xs.map (fun x => x.data.toList) = l.map fun x => Lib.decDigits x.toNat
  | [], l, h => by cases h; rfl
  | x :: xs, l, h => by
    unfold numsM at h
    cases hx : numI x with
    | none => rw [hx] at h; cases h
    | some v =>
      rw [hx] at h
      cases hm : numsM xs with
      | none => rw [hm] at h; cases h
      | some l' =>
        rw [hm] at h
        cases h
        rw [List.map_cons, List.map_cons, numsM_text xs l' hm]
        have := numI_text hx
        rw [← this]
        rfl
theorem numsM_of : ∀ (l : List Int), (∀ x ∈ l, 0 ≤ x ∧ x ≤ 18446744073709551615) → numsM (l.map fun x => numT x.toNat) = some l
  | [], _ => rfl
  | x :: l, h => by
    have h1 := h x (by simp)
    rw [List.map_cons]
    unfold numsM
    rw [numI_numT x.toNat (by omega), numsM_of l fun y hy => h y (by simp [hy])]
    simp
    omega
/-- what a line says has that line -/
theorem unw_text {s p : ByteArray} {l : List Int} (h : unwM s = some (p, l)) : lineT p l = s := by
  apply ext_bytes
  rw [lineT_list]
  unfold unwM at h
  split at h
  · rename_i hw
    cases hp : partsF 32 s.data.toList with
    | nil => exact absurd hp (partsF_ne _ _)
    | cons q qs =>
      have hB : partsB s = ⟨q.toArray⟩ :: qs.map fun l => ⟨l.toArray⟩ := by unfold partsB; rw [hp]; rfl
      rw [hB] at h
      dsimp only [List.headD_cons, List.tail_cons] at h
      cases hm : numsM (qs.map fun l => (⟨l.toArray⟩ : ByteArray)) with
      | none => rw [hm] at h; cases h
      | some l' =>
        rw [hm] at h
        cases h
        have h2 := numsM_text _ _ hm
        rw [List.map_map] at h2
        have h3 : qs = l.map fun x => Lib.decDigits x.toNat := by
          rw [← h2]
          exact (List.map_id qs).symm
        have h4 := parts_join 32 _ _ _ hp
        unfold tailL
        rw [h3] at h4
        rw [List.map_map] at h4
        rw [← h4]
        rfl
  · cases h
theorem word_no32 {p : ByteArray} (h : wordB p = true) : ∀ b ∈ p.data.toList, b ≠ 32 := by
  intro b hb e
  subst e
  unfold wordB at h
  simp only [Bool.and_eq_true, List.all_eq_true] at h
  have := h.2 _ hb
  revert this
  decide
theorem dec_no (u : Nat) (c : UInt8) (h : digB c = false) : ∀ b ∈ decDigits u, b ≠ c := by
  intro b hb e
  subst e
  have := dec_all u
  rw [List.all_eq_true] at this
  rw [this _ hb] at h
  cases h
/-- a line is read as what it says -/
theorem unw_line (p : ByteArray) (l : List Int) (hp : wordB p = true) (hl : ∀ x ∈ l, 0 ≤ x ∧ x ≤ 18446744073709551615) : unwM (lineT p l) = some (p, l) := by
  have h1 : partsF 32 (lineT p l).data.toList = p.data.toList :: l.map fun x => decDigits x.toNat := by
    rw [lineT_list]
    have := parts_of 32 (l.map fun x => decDigits x.toNat) p.data.toList (word_no32 hp) (fun q hq => by
      obtain ⟨x, _, rfl⟩ := List.mem_map.1 hq
      exact dec_no _ 32 (by decide))
    rw [List.map_map] at this
    exact this
  refine unwM_of (ps := l.map fun x => numT x.toNat) ?_ hp (numsM_of l hl)
  unfold partsB
  rw [h1, List.map_cons, List.map_map]
  rfl
theorem unw_word {s p : ByteArray} {l : List Int} (h : unwM s = some (p, l)) : wordB p = true := by
  unfold unwM at h
  split at h
  · rename_i hw
    cases hm : numsM (partsB s).tail with
    | none => rw [hm] at h; cases h
    | some l' => rw [hm] at h; cases h; exact hw
  · cases h

/-- the kind, stack and fuel that a line tells, by its words -/
def refUnlM (s : ByteArray) : Option (Int × Int × Int) :=
  match unwM s with
  | none => none
  | some (p, l) => if 1000000 < l.getLastD 1000001 then none else if p = srcW ∧ l.length = 1 then some (1, 0, l.getLastD 0) else if p = macW ∧ l.length = 2 then some (2, l.headD 0, l.getLastD 0) else if p = leakW ∧ l.length = 2 then some (3, l.headD 0, l.getLastD 0) else none
theorem asked_two (k : Int) (p s : ByteArray) (l : List Int) (st fu : Int) (hk : ∀ st fu, askedT k st fu = lineT p [st, fu]) (hp : wordB p = true) (hu : unwM s = some (p, l)) (h1 : 0 ≤ st ∧ st ≤ 18446744073709551615) (h2 : 0 ≤ fu ∧ fu ≤ 1000000) : askedT k st fu = s ↔ l = [st, fu] := by
  rw [hk]
  constructor
  · rintro rfl
    rw [unw_line p [st, fu] hp (by simp; omega)] at hu
    cases hu; rfl
  · rintro rfl; exact unw_text hu
theorem unlineM_eq (s : ByteArray) : unlineM s = refUnlM s := by
  unfold unlineM refUnlM
  cases hu : unwM s with
  | none => rfl
  | some pl =>
    obtain ⟨p, l⟩ := pl
    dsimp only
    have hr := unw_range hu
    have hw := unw_word hu
    by_cases h1 : p = srcW
    · subst h1
      rw [show kindM srcW = some 1 from by decide]
      dsimp only
      by_cases hl : ∃ f, l = [f]
      · obtain ⟨f, rfl⟩ := hl
        have hf := hr f (by simp)
        have e : readV 1 [f] = (0, min f 1000001) := rfl
        rw [e]
        dsimp only
        by_cases hf2 : f ≤ 1000000
        · have e2 : min f 1000001 = f := by omega
          rw [e2, if_pos ⟨by simp [mayV, hf2, hf.1], unw_text hu⟩, if_neg (by simp; omega), if_pos ⟨rfl, rfl⟩]
          rfl
        · have e2 : min f 1000001 = 1000001 := by omega
          rw [e2, if_neg (fun h => by have := h.1; revert this; decide), if_pos (by simp; omega)]
      · have e : readV 1 l = (0, 0) := by
          unfold readV
          rw [if_pos rfl]
          match l, hl with
          | [], _ => rfl
          | [f], hl => exact absurd ⟨f, rfl⟩ hl
          | _ :: _ :: _, _ => rfl
        rw [e]
        dsimp only
        rw [if_neg]
        · split
          · rfl
          · rw [if_neg (fun h => hl (List.length_eq_one_iff.1 h.2)), if_neg (fun h => by have := h.1; revert this; decide), if_neg (fun h => by have := h.1; revert this; decide)]
        · rintro ⟨_, h⟩
          have : unwM s = some (srcW, [0]) := by rw [← h]; exact unw_line srcW [0] (by decide) (by simp)
          rw [hu] at this
          cases this
          exact hl ⟨0, rfl⟩
    · have two : ∀ (k : Int), (k = 2 ∨ k = 3) → (∀ st fu, askedT k st fu = lineT p [st, fu]) →
          (if mayV k 0 0 (readV k l).1 (readV k l).2 true = true ∧ askedT k (readV k l).1 (readV k l).2 = s then some (k, (readV k l).1, (readV k l).2) else none) = (if 1000000 < l.getLastD 1000001 then none else if l.length = 2 then some (k, l.headD 0, l.getLastD 0) else none) := by
        intro k hk hask
        have hk1 : k ≠ 1 := by omega
        by_cases hl : ∃ a f, l = [a, f]
        · obtain ⟨a, f, rfl⟩ := hl
          have ha := hr a (by simp)
          have hf := hr f (by simp)
          have e : readV k [a, f] = (a, min f 1000001) := by unfold readV; rw [if_neg hk1]
          rw [e]
          dsimp only
          by_cases hf2 : f ≤ 1000000
          · have e2 : min f 1000001 = f := by omega
            rw [e2, if_pos ⟨by rcases hk with rfl | rfl <;> simp [mayV, hf2, hf.1], (asked_two k p s _ a f hask hw hu ha ⟨hf.1, hf2⟩).2 rfl⟩, if_neg (by simp; omega)]
            simp
          · have e2 : min f 1000001 = 1000001 := by omega
            rw [e2, if_neg (fun h => by have := h.1; unfold mayV at this; simp at this), if_pos (by simp; omega)]
        · have e : readV k l = (0, 0) := by
            unfold readV
            rw [if_neg hk1]
            match l, hl with
            | [], _ => rfl
            | [_], _ => rfl
            | [a, f], hl => exact absurd ⟨a, f, rfl⟩ hl
            | _ :: _ :: _ :: _, _ => rfl
          rw [e]
          dsimp only
          rw [if_neg]
          · split
            · rfl
            · rw [if_neg (fun h => hl ?_)]
              match l, h with
              | [a, f], _ => exact ⟨a, f, rfl⟩
          · rintro ⟨_, h⟩
            have := (asked_two k p s l 0 0 hask hw hu (by omega) (by omega)).1 h
            exact hl ⟨0, 0, this⟩
      by_cases h2 : p = macW
      · subst h2
        rw [show kindM macW = some 2 from by decide]
        dsimp only
        rw [two 2 (.inl rfl) (fun _ _ => rfl)]
        simp only [if_neg (fun h : macW = srcW ∧ l.length = 1 => h1 h.1), true_and, show ¬ (macW = leakW) from by decide, false_and, if_false]
      · by_cases h3 : p = leakW
        · subst h3
          rw [show kindM leakW = some 3 from by decide]
          dsimp only
          rw [two 3 (.inr rfl) (fun _ _ => rfl)]
          simp only [if_neg (fun h : leakW = srcW ∧ l.length = 1 => h1 h.1), if_neg (fun h : leakW = macW ∧ l.length = 2 => h2 h.1), true_and]
        · have : kindM p = none := by unfold kindM; rw [if_neg h1, if_neg h2, if_neg h3]
          rw [this]
          dsimp only
          by_cases hq : 1000000 < l.getLastD 1000001
          · rw [if_pos hq]
          · rw [if_neg hq, if_neg (fun h => h1 h.1), if_neg (fun h => h2 h.1), if_neg (fun h => h3 h.1)]
end Go.Proofs.YtkbmckmlnphpmaaGreatDoor
