/- Lines are cut off a text, and taken: take, Parse. -/
import Derived.Test.YtkbmckmlnphpmaaGreatDoorZ
set_option linter.unusedSimpArgs false
set_option linter.unusedVariables false
namespace Go.Proofs.YtkbmckmlnphpmaaGreatDoor
open Go.RowKit Go.Lib Go.Shelf

theorem numsM_len : ∀ (xs : List ByteArray) (L : List Int), numsM xs = some L → L.length = xs.length
  | [], L, h => by cases h; rfl
  | y :: xs, L, h => by
    unfold numsM at h
    cases hx : numI y with
    | none => rw [hx] at h; cases h
    | some v =>
      rw [hx] at h
      cases hm : numsM xs with
      | none => rw [hm] at h; cases h
      | some l => rw [hm] at h; cases h; simp [numsM_len xs l hm]
theorem unw_len {s p : ByteArray} {l : List Int} (h : unwM s = some (p, l)) : l.length ≤ s.size + 1 := by
  unfold unwM at h
  split at h
  · cases hm : numsM (partsB s).tail with
    | none => rw [hm] at h; cases h
    | some l' =>
      rw [hm] at h
      cases h
      rw [numsM_len _ _ hm, List.length_tail]
      have := parts_le s
      omega
  · cases h
theorem take_any (base R : Nat) (r : RSt) (s : ByteArray) (w : World) (hE : Env w) (hs : s.size ≤ 1000000) (hr : Rd base w R r) (hrl : r.l.length ≤ 1000000) :
    Calls Tryz.prog 60 #[.pointer (some ⟨R, 0, none⟩), .string s] w (TakePost base R r s w) := by
  cases hon : r.on with
  | false => exact take_off base R r s w hE hs hr hon
  | true =>
    cases hu : unwM s with
    | none =>
      refine take_line base R r s ⟨#[]⟩ 15 w hE hs hr hon hrl ((unwords_any s w hE hs).mono fun e w' h => ⟨⟨_, _, _, h.1 hu⟩, h.2.2⟩) (.inl rfl) ?_
      have : unlineM s = none := by unfold unlineM; rw [hu]
      rw [this]
      unfold takeM
      rw [hon, hu]
    | some pl =>
      obtain ⟨p, l⟩ := pl
      by_cases hp : p = withW
      · exact take_with base R r s p l w hE hs hr hon hu hp (by have := unw_len hu; omega)
      · refine take_line base R r s p 0 w hE hs hr hon hrl ((unwords_any s w hE hs).mono fun e w' h => ?_) (.inr ⟨rfl, hp⟩) ?_
        · obtain ⟨A, c, h1, _⟩ := h.2.1 p l hu
          exact ⟨⟨_, _, _, h1⟩, h.2.2⟩
        · unfold takeM
          rw [hon, hu]
          dsimp only
          rw [if_neg hp]
          cases unlineM s with
          | none => rfl
          | some x => rfl
/-- the reading of a text: what is left; true: all good -/
def cutM (c : UInt8) : List UInt8 → Option (List UInt8 × List UInt8)
  | [] => none
  | b :: l => if b = c then some ([], l) else (cutM c l).map fun x => (b :: x.1, x.2)
theorem cut_cutM (c : UInt8) : ∀ l : List UInt8, cutM c l = if (Lib.cut l [c]).2.2 = true then some ((Lib.cut l [c]).1, (Lib.cut l [c]).2.1) else none
  | [] => by unfold Lib.cut; rw [index_nil]; rfl
  | b :: l => by
    have ih := cut_cutM c l
    by_cases hb : b = c
    · subst hb
      unfold Lib.cut
      rw [index_eq]
      simp [cutM]
    · unfold cutM
      rw [if_neg hb, ih]
      have hge := index_ge l [c]
      unfold Lib.cut
      rw [index_ne l hb]
      by_cases hm : index l [c] = -1
      · rw [hm]; simp
      · have h0 : 0 ≤ index l [c] := by omega
        have e1 : (if index l [c] == -1 then (-1 : Int) else index l [c] + 1) = index l [c] + 1 := if_neg (by simpa using hm)
        have e2 : (index l [c] + 1).toNat = (index l [c]).toNat + 1 := by omega
        rw [e1, if_pos h0, if_pos (show 0 ≤ index l [c] + 1 by omega), e2]
        simp [Nat.add_right_comm]
theorem cutM_len (c : UInt8) : ∀ (l a b : List UInt8), cutM c l = some (a, b) → a.length + b.length < l.length
  | [], a, b, h => by cases h
  | d :: l, a, b, h => by
    unfold cutM at h
    split at h
    · cases h; simp
    · cases hc : cutM c l with
      | none => rw [hc] at h; cases h
      | some x =>
        rw [hc] at h
        cases h
        have := cutM_len c l x.1 x.2 hc
        simp; omega
/-- lines taken, one after the other: how many were good, and the state if all were -/
def runM : Nat → List UInt8 → RSt → Nat → Nat × Option RSt
  | 0, _, _, n => (n, none)
  | f + 1, rest, r, n =>
    if rest = [] then (n, some r)
    else match cutM 10 rest with
      | none => (n, none)
      | some (a, b) => match takeM r ⟨a.toArray⟩ with
        | none => (n, none)
        | some r' => runM f b r' (n + 1)
theorem runM_fuel : ∀ (f : Nat) (rest : List UInt8) (r : RSt) (n : Nat), rest.length < f → runM f rest r n = runM (rest.length + 1) rest r n
  | 0, _, _, _, h => absurd h (by omega)
  | f + 1, rest, r, n, h => by
    unfold runM
    by_cases h0 : rest = []
    · rw [if_pos h0, if_pos h0]
    · rw [if_neg h0, if_neg h0]
      cases hc : cutM 10 rest with
      | none => rfl
      | some x =>
        obtain ⟨a, b⟩ := x
        have hl := cutM_len 10 rest a b hc
        dsimp only
        cases ht : takeM r ⟨a.toArray⟩ with
        | none => rfl
        | some r' =>
          dsimp only
          rw [runM_fuel f b r' (n + 1) (by omega)]
          have h9 := runM_fuel (rest.length) b r' (n + 1) (by omega)
          rw [h9]
termination_by f => f
def zeroR : RSt := ⟨[], [], [], false⟩
def finM : Nat × Option RSt → List Ask × Nat × Int
  | (n, none) => ([], n, 15)
  | (n, some r) => if r.on = true then ([], n, 15) else if 64 < r.l.length then ([], 0, 3) else (r.l, 0, 0)
/-- askings, the wrong line, the error -/
def parseM (text : ByteArray) : List Ask × Nat × Int := if 1048576 < text.size then ([], 0, 3) else finM (runM (text.size + 1) text.data.toList zeroR 0)
end Go.Proofs.YtkbmckmlnphpmaaGreatDoor
