/- All tokens of a text: the model; plain laws. -/
import Derived.Test.YtmkfoknhjjgipaaDoorG
set_option linter.unusedSimpArgs false
set_option linter.unusedVariables false
namespace Go.Proofs.YtmkfoknhjjgipaaDoor
open Go.RowKit Go.Lib Go.Shelf

def blankB (b : UInt8) : Bool := b.toNat == 32 || b.toNat == 9 || b.toNat == 10 || b.toNat == 13
/-- how many bytes of blanks and notes stand at the start (true: within a note) -/
def skipL : Bool → List UInt8 → Nat
  | _, [] => 0
  | true, b :: l => if b.toNat = 10 then skipL false l + 1 else skipL true l + 1
  | false, b :: l => if b.toNat = 35 then skipL true l + 1 else if blankB b then skipL false l + 1 else 0
/-- a token, its place, its line and column -/
structure Tp where
  a : Nat
  x : Tk
  l : Nat
  c : Nat
deriving DecidableEq
def tpV (t : Tp) : Value := tkV t.x t.l t.c
def scanF : Nat → List UInt8 → Nat → Nat × Nat → List Tp × Option (Int × Nat)
  | 0, _, _, _ => ([], none)
  | n + 1, r, a, p =>
    if r.drop (skipL false r) = [] then ([], none) else
    match oneR (r.drop (skipL false r)) with
    | .error e => ([], some (e, a + skipL false r))
    | .ok x => (⟨a + skipL false r, x, (lcF p (r.take (skipL false r))).1, (lcF p (r.take (skipL false r))).2⟩ :: (scanF n ((r.drop (skipL false r)).drop x.t.length) (a + skipL false r + x.t.length) (lcF (lcF p (r.take (skipL false r))) x.t)).1,
        (scanF n ((r.drop (skipL false r)).drop x.t.length) (a + skipL false r + x.t.length) (lcF (lcF p (r.take (skipL false r))) x.t)).2)
/-- a text's tokens -/
def scanA (s : ByteArray) : List Tp × Option (Int × Nat) := scanF s.size s.data.toList 0 (1, 1)

theorem sgDown_le (n : Nat) (l : List UInt8) : sgDown n l ≤ n := by
  induction n with
  | zero => exact Nat.le_refl _
  | succ n ih =>
    rw [sgDown]
    split
    · exact Nat.le_refl _
    · omega
theorem sgN_le (l : List UInt8) : sgN l ≤ l.length := by have := sgDown_le (min 4 l.length) l; unfold sgN; omega
theorem span_pos {p : UInt8 → Bool} {l : List UInt8} (hl : l ≠ []) (h : p (l.headD 0) = true) : 0 < spanN p l := by
  cases l with
  | nil => exact absurd rfl hl
  | cons b l =>
    unfold spanN
    rw [List.takeWhile_cons]
    have h : p b = true := h
    rw [h]
    exact Nat.succ_pos _
theorem part_low {b : UInt8} (h : lowB b = true) : partB b = true := by unfold partB; rw [h]; rfl
theorem part_dig {b : UInt8} (h : digB b = true) : partB b = true := by unfold partB; rw [h]; simp
theorem oneR_text {l : List UInt8} (hl : l ≠ []) {x : Tk} (h : oneR l = .ok x) : ∃ n, 0 < n ∧ n ≤ l.length ∧ x.t = l.take n ∧ x.t.length = n := by
  have key : ∀ n, 0 < n → n ≤ l.length → x.t = l.take n → ∃ n, 0 < n ∧ n ≤ l.length ∧ x.t = l.take n ∧ x.t.length = n :=
    fun n h1 h2 h3 => ⟨n, h1, h2, h3, by rw [h3, List.length_take]; omega⟩
  unfold oneR at h
  dsimp only at h
  split at h
  · rename_i hlow
    split at h
    · cases h
      exact key _ (span_pos hl (part_low hlow)) (span_le _ _) rfl
    · cases h
  · split at h
    · rename_i hdig
      split at h
      · cases h
        exact key _ (span_pos hl (part_dig hdig)) (span_le _ _) rfl
      · cases h
    · split at h
      · cases h
      · rename_i hs
        cases h
        exact key _ (Nat.pos_of_ne_zero hs) (sgN_le _) rfl
theorem skip_le : ∀ (l : List UInt8) (b : Bool), skipL b l ≤ l.length
  | [], b => by cases b <;> exact Nat.le_refl _
  | c :: l, true => by
    have h1 := skip_le l true
    have h2 := skip_le l false
    rw [skipL]
    split <;> simp only [List.length_cons] <;> omega
  | c :: l, false => by
    have h1 := skip_le l true
    have h2 := skip_le l false
    rw [skipL]
    split
    · simp only [List.length_cons]; omega
    · split <;> simp only [List.length_cons] <;> omega
theorem scanF_nil (n a : Nat) (p : Nat × Nat) : scanF n [] a p = ([], none) := by
  cases n <;> simp [scanF, skipL]
theorem scanF_end {n : Nat} {r : List UInt8} (h : r.drop (skipL false r) = []) (a : Nat) (p : Nat × Nat) : scanF n r a p = ([], none) := by
  cases n with
  | zero => rfl
  | succ n => rw [scanF, if_pos h]
theorem scanF_fuel : ∀ (n m : Nat) (r : List UInt8) (a : Nat) (p : Nat × Nat), r.length ≤ n → r.length ≤ m → scanF n r a p = scanF m r a p
  | 0, m, r, a, p, h, _ => by
    obtain rfl : r = [] := List.length_eq_zero_iff.1 (by omega)
    rw [scanF_nil, scanF_nil]
  | n + 1, 0, r, a, p, _, h => by
    obtain rfl : r = [] := List.length_eq_zero_iff.1 (by omega)
    rw [scanF_nil, scanF_nil]
  | n + 1, m + 1, r, a, p, h1, h2 => by
    rw [scanF, scanF]
    split
    · rfl
    · rename_i hne
      rcases ho : oneR (r.drop (skipL false r)) with e | x
      · rfl
      · obtain ⟨k, hk, hkl, _, hx⟩ := oneR_text hne ho
        have hl : ((r.drop (skipL false r)).drop x.t.length).length ≤ n ∧ ((r.drop (skipL false r)).drop x.t.length).length ≤ m := by
          rw [List.length_drop] at hkl
          rw [List.length_drop, List.length_drop, hx]
          omega
        dsimp only
        rw [scanF_fuel n m _ _ _ hl.1 hl.2]
theorem scanF_blank {b : UInt8} (hb : blankB b = true) (hn : b.toNat ≠ 35) (n : Nat) (r : List UInt8) (a : Nat) (p : Nat × Nat) : scanF (n + 1) (b :: r) a p = scanF (n + 1) r (a + 1) (lcS p b) := by
  have hs : skipL false (b :: r) = skipL false r + 1 := by rw [skipL, if_neg hn, if_pos hb]
  rw [scanF, scanF, hs, List.drop_succ_cons, List.take_succ_cons]
  have e1 : a + (skipL false r + 1) = a + 1 + skipL false r := by omega
  rw [e1]
  rfl
theorem skip_note : ∀ (r : List UInt8), skipL true r = if spanN noteB r = r.length then r.length else spanN noteB r + 1 + skipL false (r.drop (spanN noteB r + 1))
  | [] => rfl
  | b :: r => by
    have ih := skip_note r
    rw [skipL]
    by_cases h : b.toNat = 10
    · have hs : spanN noteB (b :: r) = 0 := by unfold spanN noteB; rw [List.takeWhile_cons]; simp [h]
      rw [if_pos h, hs, if_neg (by simp)]
      simp; omega
    · have hs : spanN noteB (b :: r) = spanN noteB r + 1 := by
        unfold spanN
        rw [List.takeWhile_cons]
        have : noteB b = true := by unfold noteB; simpa using h
        rw [this]; rfl
      rw [if_neg h, hs, ih, List.length_cons]
      by_cases h2 : spanN noteB r = r.length
      · rw [if_pos h2, if_pos (by omega)]
      · rw [if_neg h2, if_neg (by omega), List.drop_succ_cons]
        omega
theorem span_hash {b : UInt8} (hb : b.toNat = 35) (r : List UInt8) : spanN noteB (b :: r) = spanN noteB r + 1 := by
  unfold spanN
  rw [List.takeWhile_cons]
  have : noteB b = true := by unfold noteB; rw [hb]; decide
  rw [this]; rfl
theorem scanF_note_end {b : UInt8} {r : List UInt8} (hb : b.toNat = 35) (h : spanN noteB (b :: r) = (b :: r).length) (n a : Nat) (p : Nat × Nat) : scanF n (b :: r) a p = ([], none) := by
  rw [span_hash hb, List.length_cons] at h
  apply scanF_end
  rw [skipL, if_pos hb, skip_note, if_pos (by omega), List.drop_eq_nil_iff]
  simp
theorem scanF_note {b : UInt8} {r : List UInt8} (hb : b.toNat = 35) (h : spanN noteB (b :: r) < (b :: r).length) (n a : Nat) (p : Nat × Nat) :
    scanF (n + 1) (b :: r) a p = scanF (n + 1) ((b :: r).drop (spanN noteB (b :: r) + 1)) (a + (spanN noteB (b :: r) + 1)) (lcF p ((b :: r).take (spanN noteB (b :: r) + 1))) := by
  have hs : skipL false (b :: r) = (spanN noteB (b :: r) + 1) + skipL false ((b :: r).drop (spanN noteB (b :: r) + 1)) := by
    rw [span_hash hb, List.length_cons] at h
    rw [skipL, if_pos hb, skip_note, if_neg (by omega), span_hash hb, List.drop_succ_cons]
    omega
  generalize hk : spanN noteB (b :: r) + 1 = k at hs h ⊢
  generalize hq : b :: r = q at hs h ⊢
  rw [scanF, scanF, hs, List.take_add, ← List.drop_drop, lcF_app, ← Nat.add_assoc]
theorem scanF_tok {b : UInt8} {r : List UInt8} (h1 : b.toNat ≠ 35) (h2 : blankB b = false) {x : Tk} (ho : oneR (b :: r) = .ok x) (n a : Nat) (p : Nat × Nat) :
    scanF (n + 1) (b :: r) a p = (⟨a, x, p.1, p.2⟩ :: (scanF n ((b :: r).drop x.t.length) (a + x.t.length) (lcF p x.t)).1, (scanF n ((b :: r).drop x.t.length) (a + x.t.length) (lcF p x.t)).2) := by
  have hs : skipL false (b :: r) = 0 := by rw [skipL, if_neg h1, if_neg (by rw [h2]; decide)]
  rw [scanF, hs, List.drop_zero, if_neg (by simp), ho]
  rfl
theorem scanF_err {b : UInt8} {r : List UInt8} (h1 : b.toNat ≠ 35) (h2 : blankB b = false) {e : Int} (ho : oneR (b :: r) = .error e) (n a : Nat) (p : Nat × Nat) :
    scanF (n + 1) (b :: r) a p = ([], some (e, a)) := by
  have hs : skipL false (b :: r) = 0 := by rw [skipL, if_neg h1, if_neg (by rw [h2]; decide)]
  rw [scanF, hs, List.drop_zero, if_neg (by simp), ho]
  rfl
end Go.Proofs.YtmkfoknhjjgipaaDoor
