/- The reference's split: the parts of a line. What a line of words says: Unwords. The reference's Unwords. The reference's Words. Lists of words, and lists of those, compared by the reference. Bytes that a call owns: a row that a conversion made, and what is appended to it. The reference's Words. -/
import Derived.Test.YtkbmckmlnphpmaaGreatDoorI
import Derived.ChangeKeysEq
import Derived.BigQuiet
import Derived.Lib.ConvBytes
import Derived.Lib.AppendStr
import Derived.ArgAppend
import Derived.Deep.RegionHeldLaw
set_option linter.unusedSimpArgs false
set_option linter.unusedVariables false
namespace Go.Proofs.YtkbmckmlnphpmaaGreatDoor
open Go.RowKit Go.Lib Go.Shelf

def partsB (s : ByteArray) : List ByteArray := (partsF 32 s.data.toList).map fun l => ⟨l.toArray⟩
theorem parts_snoc (c b : UInt8) : ∀ (l : List UInt8) (P : List (List UInt8)) (q : List UInt8), partsF c l = P ++ [q] → partsF c (l ++ [b]) = if b = c then P ++ [q, []] else P ++ [q ++ [b]]
  | [], P, q, h => by
    have h : [[]] = P ++ [q] := h
    cases P with
    | nil =>
      have : q = [] := by simpa using h.symm
      subst this
      by_cases hb : b = c
      · subst hb; simp [partsF]
      · simp [partsF, hb]
    | cons p P => have := congrArg List.length h; simp at this
  | d :: l, P, q, h => by
    have hne := partsF_ne c l
    obtain ⟨P', q', h'⟩ : ∃ P' q', partsF c l = P' ++ [q'] := ⟨_, _, (List.dropLast_concat_getLast hne).symm⟩
    have ih := parts_snoc c b l P' q' h'
    by_cases hd : d = c
    · subst hd
      have h1 : partsF d (d :: l) = [] :: partsF d l := by simp [partsF]
      have h2 : partsF d (d :: l ++ [b]) = [] :: partsF d (l ++ [b]) := by simp [partsF]
      rw [h1, h'] at h
      have h3 : ([] :: P') ++ [q'] = P ++ [q] := h
      obtain ⟨e1, e2⟩ := List.append_inj' h3 rfl
      have e3 : q' = q := by simpa using e2
      subst e1 e3
      rw [h2, ih]
      split <;> rfl
    · have h1 : partsF c (d :: l) = (d :: (partsF c l).headD []) :: (partsF c l).tail := by simp [partsF, hd]
      have h2 : partsF c (d :: l ++ [b]) = (d :: (partsF c (l ++ [b])).headD []) :: (partsF c (l ++ [b])).tail := by simp [partsF, hd]
      rw [h2, ih]
      rw [h1, h'] at h
      cases P' with
      | nil =>
        have h4 : [d :: q'] = P ++ [q] := h
        cases P with
        | nil =>
          have : d :: q' = q := by simpa using h4
          subst this
          split <;> simp
        | cons p P => have := congrArg List.length h4; simp at this
      | cons p P' =>
        have h4 : ((d :: p) :: P') ++ [q'] = P ++ [q] := h
        obtain ⟨e1, e2⟩ := List.append_inj' h4 rfl
        have e3 : q' = q := by simpa using e2
        subst e1 e3
        split <;> simp
/-- a slice that reads as texts -/
def SAt (w : World) (A : Option Addr) (ss : List ByteArray) : Prop :=
  0 < ss.length → ∃ blk off, A = some ⟨blk, off, none⟩ ∧ ∀ i x, ss[i]? = some x → w.cell? ⟨blk, off + i, none⟩ = some (.string x)
theorem SAt.below {w w' : World} {A : Option Addr} {ss : List ByteArray} (h : SAt w A ss) (hb : Below w.heap.size w w') : SAt w' A ss := by
  intro hn
  obtain ⟨blk, off, e, hc⟩ := h hn
  exact ⟨blk, off, e, fun i x hx => (hb.cell (p := ⟨blk, off + i, none⟩) (cell_some_lt (hc i x hx))).trans (hc i x hx)⟩
theorem SAt.at_ {w : World} {A : Option Addr} {ss : List ByteArray} (h : SAt w A ss) {k : Nat} (hk : k < ss.length) :
    ∃ blk off x, A = some ⟨blk, off, none⟩ ∧ ss[k]? = some x ∧ w.cell? ⟨blk, off + k, none⟩ = some (.string x) := by
  obtain ⟨blk, off, e, hc⟩ := h (by omega)
  have e1 : ss[k]? = some ss[k] := List.getElem?_eq_getElem hk
  exact ⟨blk, off, _, e, e1, hc k _ e1⟩
/-- what owns a row reads as it -/
theorem own_at {w : World} {b0 : Nat} {t : TypeId} {s : Value} {n : Nat} {L : List Value} (h : w.ownsRow b0 t 1 s n L) (hL : L.length = n) :
    ∃ A c, s = .slice A n c ∧ (0 < n → ∃ g, A = some ⟨g, 0, none⟩ ∧ b0 ≤ g ∧ g < w.heap.size ∧ ∀ i v, L[i]? = some v → w.cell? ⟨g, i, none⟩ = some v) := by
  obtain ⟨hcl, hcase⟩ := h
  rcases hcase with ⟨hv, h0⟩ | ⟨g, cap, cur, hv, hg, hh, hcap, hm, hs, ht⟩
  · subst h0
    exact ⟨none, 0, hv, fun h => absurd h (by omega)⟩
  · refine ⟨_, _, hv, fun _ => ⟨g, rfl, hg, blk_lt hh, fun i v hi => ?_⟩⟩
    have hil : i < n := by rw [← hL]; exact (List.getElem?_eq_some_iff.1 hi).1
    rw [blk_cell hh]
    rw [← ht, Nat.mul_one, List.getElem?_take, if_pos hil] at hi
    simpa using hi
theorem own_SAt {w : World} {b0 : Nat} {s : Value} {n : Nat} {ss : List ByteArray} (h : w.ownsRow b0 9 1 s n (sCells ss)) (hL : ss.length = n) :
    ∃ A c, s = .slice A n c ∧ SAt w A ss := by
  obtain ⟨A, c, hv, hA⟩ := own_at h (by rw [sCells, List.length_map]; exact hL)
  refine ⟨A, c, hv, fun h0 => ?_⟩
  obtain ⟨g, h1, h2, h3, h4⟩ := hA (by omega)
  exact ⟨g, 0, h1, fun i x hx => by rw [Nat.zero_add]; exact h4 i _ (by rw [sCells, List.getElem?_map, hx]; rfl)⟩
def SlPost (ss : List ByteArray) (w : World) (e : Ending) (w' : World) : Prop := ∃ A c, e = .returned (.slice A ss.length c) ∧ SAt w' A ss ∧ Below w.heap.size w w'

theorem extract_list (s : ByteArray) (a b : Nat) : (s.extract a b).data.toList = (s.data.toList.take b).drop a := by
  rw [extract_data, List.drop_take]
theorem ext_bytes {a b : ByteArray} (h : a.data.toList = b.data.toList) : a = b := by
  cases a; cases b
  simp at h
  rw [h]

set_option maxRecDepth 100000 in
set_option maxHeartbeats 2000000 in
theorem split_any (s : ByteArray) (w : World) (hs : s.size ≤ 2000000) : Calls Tryz.prog 54 #[.string s] w (SlPost (partsB s) w) := by
  obtain ⟨i0, hi, hz0, hz1, hz2⟩ := info_parts info9
  have hi' := Lib.hid (And.intro hi (And.intro hz0 (And.intro hz1 hz2)))
  clear hi hz0 hz1 hz2
  go_enter Tryz.func54, Tryz.ntmps54
  go_wp2_with fail
  go_loopg [3, 4, 5] (s.size + 1) (fun g s3 s4 s5 wr => ∃ (k a n : Nat) (L : List ByteArray), k + g = s.size + 1 ∧ s5 = .int .i64 k ∧ s4 = .int .i64 a ∧ L.length = n ∧ n ≤ k ∧ wr.ownsRow w.heap.size 9 1 s3 n (sCells L) ∧ (k ≤ s.size → a ≤ k ∧ partsF 32 (s.data.toList.take k) = L.map (·.data.toList) ++ [(s.data.toList.take k).drop a]) ∧ (k = s.size + 1 → L = partsB s) ∧ Below w.heap.size w wr)
  case atStart => exact ⟨0, 0, 0, [], by omega, rfl, rfl, rfl, by omega, ⟨rfl, .inl ⟨rfl, rfl⟩⟩, fun _ => ⟨by omega, rfl⟩, fun h => by omega, Below.refl _ _⟩
  case round =>
    obtain ⟨k, a, n, L, hkg, rfl, rfl, hL, hnk, ho, hp, hq, hb⟩ := hrel
    have hp' := Lib.hid hp
    have hq' := Lib.hid hq
    have ho' := Lib.hid ho
    have hb' := Lib.hid hb
    have hL' := Lib.hid hL
    clear hp hq ho hb hL
    cases gk with
    | zero =>
      have e0 : ¬ ((k : Int) ≤ (s.size : Int)) := by omega
      have hLe := hq'.out (by omega)
      obtain ⟨A, c, rfl, hA⟩ := own_SAt ho'.out hL'.out
      have hA' := Lib.hid hA
      have hl2 := Lib.hid (show (partsB s).length = n by rw [← hLe]; exact hL'.out)
      have hLe' := Lib.hid hLe
      clear hA hLe
      go_wp2
      go_ret
      exact ⟨A, c, by rw [hl2.out]; rfl, by rw [← hLe'.out]; exact hA'.out, hb'.out⟩
    | succ g =>
      have e0 : (k : Int) ≤ (s.size : Int) := by omega
      obtain ⟨hak, hpk⟩ := hp'.out (by omega)
      have hpk' := Lib.hid hpk
      clear hpk
      have hown := Lib.hid ((show wr.ownsRow w.heap.size 9 1 u3 n (sCells L) from ho'.out).alloc (.cells #[.string (s.extract a k)] 9))
      have hnew := Lib.hid (cell_one_new wr (.string (s.extract a k)) 9)
      have hbA := Lib.hid ((Below.refl wr.heap.size wr).alloc (Nat.le_refl _) (.cells #[.string (s.extract a k)] 9))
      have hone := Lib.hid (show ∀ v ∈ [Value.string (s.extract a k)], v.oneCell' = true by simp [Value.oneCell'])
      have hszw := hb'.out.size
      have hbs := Lib.hid (show w.heap.size ≤ (wr.alloc (.cells #[.string (s.extract a k)] 9)).heap.size by simp; omega)
      have hk1 := Lib.hid (show n + 1 ≤ maxLen by unfold maxLen; omega)
      have hk2 := Lib.hid (show (n + 1) * 16 ≤ 140737488355328 by omega)
      have hak2 : (a : Int) ≤ (k : Int) := by omega
      obtain ⟨hj1, hj2, hj3, hj4⟩ := hi'.out
      by_cases hend : k = s.size
      · subst hend
        have e2 : ((s.size : Int) = (s.size : Int)) := rfl
        go_wp2_with ((at_builtin; refine wpList_append_own_at _ rfl _ _ 67 rfl w.heap.size 9 i0 _ 1 16 und67 hj1 hj2 hj3 hj4 rfl (by decide) u3 n (sCells L) rfl hown.out ⟨wr.heap.size, 0, none⟩ 1 1 [.string (s.extract a s.size)] rfl rfl hnew.out hone.out hk1.out hk2.out hbs.out ?_; intro v' w4 hown4 hg4 hnil4 hat4))
        have hB4 : Below w.heap.size w w4 := (Below.next hb'.out hbA.out).grown hg4 (by simp; omega) (fun g' e => (hown.out.lt g' e).1)
        have hB4' := Lib.hid hB4
        have hown4' := Lib.hid hown4
        clear hB4 hown4 hg4 hnil4 hat4
        go_wp2
        go_roundg g
        case measure => omega
        case rel =>
          refine ⟨s.size + 1, s.size + 1, n + 1, L ++ [s.extract a s.size], by omega, by go_num, by go_num, by simp [hL'.out], by omega, ?_, fun h => absurd h (by omega), fun _ => ?_, hB4'.out⟩
          · simpa [sCells] using hown4'.out
          · have h1 := hpk'.out
            have htk : s.data.toList.take s.size = s.data.toList := List.take_of_length_le (by rw [size_list]; exact Nat.le_refl _)
            unfold partsB
            rw [htk] at h1
            rw [h1, List.map_append, List.map_map]
            have e1 : (L.map ((fun l : List UInt8 => (⟨l.toArray⟩ : ByteArray)) ∘ fun x : ByteArray => x.data.toList)) = L := by
              have : ((fun l : List UInt8 => (⟨l.toArray⟩ : ByteArray)) ∘ fun x : ByteArray => x.data.toList) = id := by funext x; simp
              rw [this, List.map_id]
            rw [e1]
            congr 1
            simp only [List.map_cons, List.map_nil]
            congr 1
            apply ext_bytes
            rw [extract_list, htk]
      · have hks : k < s.size := by omega
        have e2 : ¬ ((k : Int) = (s.size : Int)) := by omega
        by_cases hsp : (s[k]'hks).toNat = 32
        · have e3 : ((s[k]'hks).toNat : Int) = 32 := by omega
          have htn := Lib.hid (take_next s k hks)
          have hb32 := Lib.hid (show s[k]'hks = 32 from UInt8.toNat_inj.1 hsp)
          go_wp2_with ((at_builtin; refine wpList_append_own_at _ rfl _ _ 67 rfl w.heap.size 9 i0 _ 1 16 und67 hj1 hj2 hj3 hj4 rfl (by decide) u3 n (sCells L) rfl hown.out ⟨wr.heap.size, 0, none⟩ 1 1 [.string (s.extract a k)] rfl rfl hnew.out hone.out hk1.out hk2.out hbs.out ?_; intro v' w4 hown4 hg4 hnil4 hat4))
          have hB4 : Below w.heap.size w w4 := (Below.next hb'.out hbA.out).grown hg4 (by simp; omega) (fun g' e => (hown.out.lt g' e).1)
          have hB4' := Lib.hid hB4
          have hown4' := Lib.hid hown4
          clear hB4 hown4 hg4 hnil4 hat4
          go_wp2
          go_roundg g
          case measure => omega
          case rel =>
            refine ⟨k + 1, k + 1, n + 1, L ++ [s.extract a k], by omega, by go_num, by go_num, by simp [hL'.out], by omega, ?_, fun h => ⟨by omega, ?_⟩, fun h => absurd h (by omega), hB4'.out⟩
            · simpa [sCells] using hown4'.out
            · have h1 := parts_snoc 32 (s[k]'hks) _ _ _ hpk'.out
              rw [if_pos hb32.out, ← htn.out] at h1
              rw [h1, List.map_append, List.append_assoc]
              congr 1
              simp only [List.map_cons, List.map_nil, List.cons_append, List.nil_append]
              rw [extract_list]
              congr 2
              rw [List.drop_eq_nil_of_le (by rw [List.length_take]; omega)]
        · have e3 : ¬ ((s[k]'hks).toNat : Int) = 32 := by omega
          have e4 : ((k : Int) == (s.size : Int)) = false := by simpa using e2
          have e5 : (((s[k]'hks).toNat : Int) == 32) = false := by simpa using e3
          have htn := Lib.hid (take_next s k hks)
          have hb32 := Lib.hid (show ¬ s[k]'hks = 32 from fun e => hsp (by rw [e]; rfl))
          go_wp2
          go_roundg g
          case measure => omega
          case rel =>
            refine ⟨k + 1, a, n, L, by omega, by go_num, rfl, hL'.out, by omega, ho'.out, fun h => ⟨by omega, ?_⟩, fun h => absurd h (by omega), hb'.out⟩
            have h1 := parts_snoc 32 (s[k]'hks) _ _ _ hpk'.out
            rw [if_neg hb32.out, ← htn.out] at h1
            rw [h1, htn.out]
            congr 2
            rw [List.drop_append_of_le_length (by rw [List.length_take, size_list]; omega)]
end Go.Proofs.YtkbmckmlnphpmaaGreatDoor
namespace Go.Proofs.YtkbmckmlnphpmaaGreatDoor
open Go.RowKit Go.Lib Go.Shelf

def numsM : List ByteArray → Option (List Int)
  | [] => some []
  | x :: xs => match numI x with | none => none | some u => (numsM xs).map fun l => (u : Int) :: l
theorem numsM_snoc : ∀ (xs : List ByteArray) (y : ByteArray) (L : List Int) (u : Nat), numsM xs = some L → numI y = some u → numsM (xs ++ [y]) = some (L ++ [(u : Int)])
  | [], y, L, u, h, hy => by cases h; simp [numsM, hy]
  | x :: xs, y, L, u, h, hy => by
    unfold numsM at h
    cases hx : numI x with
    | none => rw [hx] at h; cases h
    | some v =>
      rw [hx] at h
      cases hm : numsM xs with
      | none => rw [hm] at h; cases h
      | some l =>
        rw [hm] at h
        cases h
        show numsM (x :: (xs ++ [y])) = _
        unfold numsM
        rw [hx, numsM_snoc xs y l u hm hy]
        rfl
theorem numsM_none : ∀ (xs : List ByteArray) (y : ByteArray), y ∈ xs → numI y = none → numsM xs = none
  | [], y, h, _ => by cases h
  | x :: xs, y, h, hy => by
    unfold numsM
    rcases List.mem_cons.1 h with rfl | h
    · rw [hy]
    · cases hx : numI x with
      | none => rfl
      | some v => dsimp only; rw [numsM_none xs y h hy]; rfl
theorem numsM_range : ∀ (xs : List ByteArray) (L : List Int), numsM xs = some L → ∀ x ∈ L, 0 ≤ x ∧ x ≤ 18446744073709551615
  | [], L, h => by cases h; intro x hx; cases hx
  | y :: xs, L, h => by
    unfold numsM at h
    cases hx : numI y with
    | none => rw [hx] at h; cases h
    | some v =>
      rw [hx] at h
      cases hm : numsM xs with
      | none => rw [hm] at h; cases h
      | some l =>
        rw [hm] at h
        cases h
        intro x hx2
        rcases List.mem_cons.1 hx2 with rfl | h2
        · have := numI_lt hx; omega
        · exact numsM_range xs l hm x h2
/-- what a line of words says -/
def unwM (s : ByteArray) : Option (ByteArray × List Int) := if wordB ((partsB s).headD ⟨#[]⟩) then (numsM (partsB s).tail).map fun l => ((partsB s).headD ⟨#[]⟩, l) else none

theorem parts_pos (s : ByteArray) : 0 < (partsB s).length := by
  unfold partsB
  rw [List.length_map]
  exact List.length_pos_iff.2 (partsF_ne _ _)
theorem parts_count (s : ByteArray) : (partsB s).length = countB s ⟨#[32]⟩ + 1 := by unfold partsB; rw [List.length_map, parts_len]
theorem parts_le (s : ByteArray) : (partsB s).length ≤ s.size + 1 := by
  have h := countB_le ⟨#[32]⟩ (Nat.le_refl 1) s.size s (Nat.le_refl _)
  rw [parts_count]; omega
theorem parts_sizeF (c : UInt8) : ∀ (l p : List UInt8), p ∈ partsF c l → p.length ≤ l.length
  | [], p, h => by
    have : p = [] := by simpa [partsF] using h
    subst this; simp
  | b :: l, p, h => by
    have hne := partsF_ne c l
    unfold partsF at h
    split at h
    · rcases List.mem_cons.1 h with rfl | h
      · simp
      · have := parts_sizeF c l p h
        simp; omega
    · cases hl : partsF c l with
      | nil => exact absurd hl hne
      | cons q r =>
        rw [hl] at h
        rcases List.mem_cons.1 h with rfl | h
        · have := parts_sizeF c l q (by rw [hl]; simp)
          simp; omega
        · have := parts_sizeF c l p (by rw [hl]; simp at h; simp [h])
          simp; omega
theorem parts_size (s x : ByteArray) (h : x ∈ partsB s) : x.size ≤ s.size := by
  unfold partsB at h
  obtain ⟨p, hp, rfl⟩ := List.mem_map.1 h
  have := parts_sizeF 32 _ p hp
  rw [size_list] at this
  show p.toArray.size ≤ _
  simpa using this

/-- new words -/
def WNew (b0 : Nat) (w : World) (A : Option Addr) (ws : List Int) : Prop :=
  (∀ x ∈ ws, 0 ≤ x ∧ x ≤ 18446744073709551615) ∧ (0 < ws.length → ∃ blk, A = some ⟨blk, 0, none⟩ ∧ b0 ≤ blk ∧ ∀ i x, ws[i]? = some x → w.cell? ⟨blk, i, none⟩ = some (.int .u64 x))
theorem WNew.wat {b0 : Nat} {w : World} {A : Option Addr} {ws : List Int} (h : WNew b0 w A ws) : WAt w A ws := ⟨h.1, fun hn => by
  obtain ⟨blk, e, _, hc⟩ := h.2 hn
  exact ⟨blk, 0, e, fun i x hx => by rw [Nat.zero_add]; exact hc i x hx⟩⟩
theorem WNew.mono {b0 b1 : Nat} {w : World} {A : Option Addr} {ws : List Int} (h : WNew b0 w A ws) (hb : b1 ≤ b0) : WNew b1 w A ws := ⟨h.1, fun hn => by
  obtain ⟨blk, e, h2, hc⟩ := h.2 hn
  exact ⟨blk, e, by omega, hc⟩⟩
def wCells (l : List Int) : List Value := l.map (.int .u64)
theorem own_WNew {w : World} {b0 : Nat} {s : Value} {n : Nat} {l : List Int} (h : w.ownsRow b0 40 1 s n (wCells l)) (hL : l.length = n) (hr : ∀ x ∈ l, 0 ≤ x ∧ x ≤ 18446744073709551615) :
    ∃ A c, s = .slice A n c ∧ WNew b0 w A l := by
  obtain ⟨A, c, hv, hA⟩ := own_at h (by rw [wCells, List.length_map]; exact hL)
  refine ⟨A, c, hv, hr, fun h0 => ?_⟩
  obtain ⟨g, h1, h2, h3, h4⟩ := hA (by omega)
  exact ⟨g, h1, h2, fun i x hx => h4 i _ (by rw [wCells, List.getElem?_map, hx]; rfl)⟩
def UnwPost (enc : Bool → Value) (s : ByteArray) (w : World) (e : Ending) (w' : World) : Prop :=
  (unwM s = none → e = .returned (.tuple #[.string ⟨#[]⟩, .slice none 0 0, enc false])) ∧ (∀ p l, unwM s = some (p, l) → ∃ A c, e = .returned (.tuple #[.string p, .slice A l.length c, enc true]) ∧ WNew w.heap.size w' A l) ∧ Below w.heap.size w w'
def encE (b : Bool) : Value := .int .i64 (if b then 0 else 15)
theorem info40 : (Tryz.prog.info? 40).map (fun i => (i.zero, i.size, i.bytes)) = some (some (.int .u64 0), 1, 8) := by kernel_rfl
theorem und22 : Tryz.prog.underlying 22 = some (.slice 40) := by kernel_rfl

theorem unw_pos {s : ByteArray} {p : ByteArray} (hp : (partsB s)[0]? = some p) : unwM s = if wordB p then (numsM (partsB s).tail).map fun l => (p, l) else none := by
  unfold unwM
  have : (partsB s).headD ⟨#[]⟩ = p := by
    cases hl : partsB s with
    | nil => rw [hl] at hp; cases hp
    | cons a b => rw [hl] at hp; simpa using hp
  rw [this]

set_option maxRecDepth 100000 in
set_option maxHeartbeats 2000000 in
theorem unwords_any (s : ByteArray) (w : World) (hE : Env w) (hs : s.size ≤ 2000000) : Calls Tryz.prog 18 #[.string s] w (UnwPost encE s w) := by
  obtain ⟨i0, hi, hz0, hz1, hz2⟩ := info_parts info40
  have hi' := Lib.hid (And.intro hi (And.intro hz0 (And.intro hz1 hz2)))
  clear hi hz0 hz1 hz2
  obtain ⟨m, hm⟩ := hE.mx
  have hsp := Tryz.strings_Split s ⟨#[32]⟩ m w (by omega) hm (Nat.le_refl 1)
  rw [splitB_parts] at hsp
  rw [← parts_count] at hsp
  obtain ⟨N, hN⟩ : ∃ N, (partsB s).length = N + 1 := ⟨(partsB s).length - 1, by have := parts_pos s; omega⟩
  rw [hN] at hsp
  have hNle : N ≤ 2000000 := by have := parts_le s; omega
  have hsp' := Lib.hid (show Calls Tryz.prog 52 #[.string s, .string ⟨#[32]⟩] w fun e w' => e = .returned (.slice (some ⟨w.heap.size, 0, none⟩) (N + 1) (N + 1)) ∧ w' = w.alloc (.cells ((partsB s).map Value.string).toArray 9) from hsp)
  clear hsp hm
  have hN' := Lib.hid hN
  clear hN
  have hb1 := Lib.hid ((Below.refl w.heap.size w).alloc (Nat.le_refl _) (.cells ((partsB s).map Value.string).toArray 9))
  have hE' := Lib.hid hE
  clear hE
  have hc1 := Lib.hid (fun i x (hx : (partsB s)[i]? = some x) => show (w.alloc (.cells ((partsB s).map Value.string).toArray 9)).cell? ⟨w.heap.size, i, none⟩ = some (.string x) by
    rw [blk_cell (heap_alloc_new w _)]
    rw [List.getElem?_toArray, List.getElem?_map, hx]; rfl)
  have hsz1 := Lib.hid (show (w.alloc (.cells ((partsB s).map Value.string).toArray 9)).heap.size = w.heap.size + 1 by simp)
  obtain ⟨w1, hw1⟩ : ∃ w1, w.alloc (.cells ((partsB s).map Value.string).toArray 9) = w1 := ⟨_, rfl⟩
  rw [hw1] at hsp' hb1 hc1 hsz1
  clear hw1
  obtain ⟨p, hp⟩ : ∃ p, (partsB s)[0]? = some p := ⟨_, List.getElem?_eq_getElem (parts_pos s)⟩
  have hps : p.size ≤ 2000000 := Nat.le_trans (parts_size s p (List.mem_of_getElem? hp)) hs
  have hu := Lib.hid (unw_pos hp)
  have hp' := Lib.hid hp
  have hcp := hc1.out 0 p hp
  clear hp
  have hisw := Lib.hid (isWord_any p w1)
  have hsl : ∃ o : Nat, (0 < N → o = 1) ∧ ∀ W, (Instr.sliceAt 67 (.slice (some ⟨w.heap.size, 0, none⟩) (N + 1) (N + 1)) (some (.int .i64 1)) none none).run Tryz.prog W = .ok (.slice (some ⟨w.heap.size, o, none⟩) N N) W := by
    by_cases h0 : N = 0
    · subst h0
      exact ⟨0, fun h => absurd h (by omega), fun W => by go_simp⟩
    · exact ⟨1, fun _ => rfl, fun W => by
        have : 0 < N := by omega
        go_simp
        intro h
        omega⟩
  obtain ⟨o, ho, hsl⟩ := hsl
  have ho' := Lib.hid ho
  clear ho
  have hu2 := Lib.hid (fun h : wordB p = true => (show unwM s = (numsM (partsB s).tail).map fun l => (p, l) by rw [hu.out, if_pos h]))
  have hu3 := Lib.hid (fun h : wordB p = false => (show unwM s = none by rw [hu.out, if_neg (by rw [h]; simp)]))
  clear hu
  obtain ⟨t, ht⟩ : ∃ t, wordB p = t := ⟨_, rfl⟩
  rw [ht] at hisw
  have ht' := Lib.hid ht
  clear ht
  cases t
  · go_enter Tryz.func18, Tryz.ntmps18
    go_wp2_with fail
    refine hsp'.out.mono ?_
    rintro e w2 ⟨rfl, rfl⟩
    go_wp2_with fail
    refine hisw.out.mono ?_
    rintro e w3 ⟨rfl, hb3⟩
    have hb3' := Lib.hid (Below.next hb1.out hb3)
    clear hb3
    go_wp2
    go_ret3
    exact ⟨fun _ => rfl, (fun p l h => by rw [hu3.out ht'.out] at h; cases h), hb3'.out⟩
  · go_enter Tryz.func18, Tryz.ntmps18
    go_wp2_with fail
    refine hsp'.out.mono ?_
    rintro e w2 ⟨rfl, rfl⟩
    go_wp2_with fail
    refine hisw.out.mono ?_
    rintro e w3 ⟨rfl, hb3⟩
    have hb3' := Lib.hid hb3
    clear hb3
    go_wp2_with fail
    go_loopg [6, 21] N (fun g s6 s21 wr => ∃ (k : Nat) (L : List Int), k + g = N ∧ s21 = .int .i64 k ∧ L.length = k ∧ numsM ((partsB s).tail.take k) = some L ∧ wr.ownsRow w2.heap.size 40 1 s6 k (wCells L) ∧ Below w2.heap.size w2 wr)
    case atStart => exact ⟨0, [], by omega, rfl, rfl, rfl, ⟨rfl, .inl ⟨rfl, rfl⟩⟩, hb3'.out⟩
    case round =>
      obtain ⟨k, L, hkg, rfl, hL, hnm, ho4, hbr⟩ := hrel
      have hnm' := Lib.hid hnm
      have ho4' := Lib.hid ho4
      have hbr' := Lib.hid hbr
      have hL' := Lib.hid hL
      clear hnm ho4 hbr hL
      cases gk with
      | zero =>
        have hkN : k = N := by omega
        subst hkN
        have e0 : ¬ ((k : Int) < (k : Int)) := by omega
        have htl : (partsB s).tail.take k = (partsB s).tail := List.take_of_length_le (by rw [List.length_tail, hN'.out]; omega)
        have hnm2 := hnm'.out
        rw [htl] at hnm2
        obtain ⟨A, c, rfl, hA⟩ := own_WNew ho4'.out hL'.out (numsM_range _ _ hnm2)
        have hA' := Lib.hid hA
        have hnm3 := Lib.hid hnm2
        have hcp2 : wr.cell? ⟨w.heap.size, 0, none⟩ = some (.string p) := (hbr'.out.cell (p := ⟨w.heap.size, 0, none⟩) (cell_some_lt hcp)).trans hcp
        have hfin := Lib.hid (Below.next hb1.out hbr'.out)
        clear hA hnm2 htl
        go_wp2
        go_ret3
        refine ⟨fun h => ?_, fun p2 l2 h => ?_, hfin.out⟩
        · rw [hu2.out ht'.out, hnm3.out] at h; cases h
        · rw [hu2.out ht'.out, hnm3.out] at h
          cases h
          exact ⟨A, c, by rw [hL'.out]; rfl, hA'.out.mono hb1.out.size⟩
      | succ g =>
        have e0 : (k : Int) < (N : Int) := by omega
        have ho1 : o = 1 := ho'.out (by omega)
        subst ho1
        obtain ⟨x, hx⟩ : ∃ x, (partsB s)[1 + k]? = some x := ⟨_, List.getElem?_eq_getElem (by rw [hN'.out]; omega)⟩
        have hcx0 := hc1.out _ _ hx
        have hcx : wr.cell? ⟨w.heap.size, 1 + k, none⟩ = some (.string x) := (hbr'.out.cell (p := ⟨w.heap.size, 1 + k, none⟩) (cell_some_lt hcx0)).trans hcx0
        have hxs : x.size ≤ 2000000 := Nat.le_trans (parts_size s x (List.mem_of_getElem? hx)) hs
        have hxt := Lib.hid (show (partsB s).tail[k]? = some x by rw [List.getElem?_tail, Nat.add_comm]; exact hx)
        have hnum := number_any x wr (hE'.out.below (Below.next hb1.out hbr'.out)) hxs
        clear hx hcx0
        cases hn : numI x with
        | none =>
          have hbad := Lib.hid (show unwM s = none by rw [hu2.out ht'.out, numsM_none _ x (List.mem_of_getElem? hxt.out) hn]; rfl)
          have hnum2 := Lib.hid (hnum.mono (fun e w' h => (show ∃ v : Nat, e = .returned (.tuple #[.int .u64 v, .bool false]) ∧ Below wr.heap.size wr w' by
            obtain ⟨v, h1, _, _, h4⟩ := h
            rw [hn] at h1
            exact ⟨v, h1, h4⟩)))
          clear hnum hn
          go_wp2_with fail
          refine hnum2.out.mono ?_
          rintro e w4 ⟨v, rfl, hb4⟩
          have hfin := Lib.hid (Below.next hb1.out (Below.next hbr'.out hb4))
          clear hb4
          go_wp2
          go_ret3
          exact ⟨fun _ => rfl, (fun p l h => by rw [hbad.out] at h; cases h), hfin.out⟩
        | some u =>
          have hnum2 := Lib.hid (hnum.mono (fun e w' h => (show e = .returned (.tuple #[.int .u64 u, .bool true]) ∧ Below wr.heap.size wr w' by
            obtain ⟨v, h1, h2, _, h4⟩ := h
            rw [hn] at h1
            rw [h2 u hn] at h1
            exact ⟨h1, h4⟩)))
          have hnx := Lib.hid hn
          clear hnum hn
          go_wp2_with fail
          refine hnum2.out.mono ?_
          rintro e w4 ⟨rfl, hb4⟩
          have hb4' := Lib.hid hb4
          have hsz4 := hb4.size
          have hszr := hbr'.out.size
          have hsz2 := hsz1.out
          have hown := Lib.hid ((show w4.ownsRow w2.heap.size 40 1 u6 k (wCells L) from ho4'.out.kept (row := none) ⟨hb4.os, hb4.tape, hb4.output, hb4.size, fun i hi _ => hb4.block i hi⟩ (Classical.em _)).alloc (.cells #[.int .u64 u] 40))
          have hnew := Lib.hid (cell_one_new w4 (.int .u64 u) 40)
          have hbA := Lib.hid ((Below.refl w4.heap.size w4).alloc (Nat.le_refl _) (.cells #[.int .u64 u] 40))
          have hone := Lib.hid (show ∀ v ∈ [Value.int .u64 (u : Int)], v.oneCell' = true by simp [Value.oneCell'])
          have hbs := Lib.hid (show w2.heap.size ≤ (w4.alloc (.cells #[.int .u64 u] 40)).heap.size by simp; omega)
          have hk1 := Lib.hid (show k + 1 ≤ maxLen by unfold maxLen; omega)
          have hk2 := Lib.hid (show (k + 1) * 8 ≤ 140737488355328 by omega)
          obtain ⟨hj1, hj2, hj3, hj4⟩ := hi'.out
          clear hb4 hcx
          go_wp2_with ((at_builtin; refine wpList_append_own_at _ rfl _ _ 22 rfl w2.heap.size 40 i0 _ 1 8 und22 hj1 hj2 hj3 hj4 rfl (by decide) u6 k (wCells L) rfl hown.out ⟨w4.heap.size, 0, none⟩ 1 1 [.int .u64 u] rfl rfl hnew.out hone.out hk1.out hk2.out hbs.out ?_; intro v' w5 hown5 hg5 hnil5 hat5))
          have hB5 : Below w2.heap.size w2 w5 := (Below.next (Below.next hbr'.out hb4'.out) hbA.out).grown hg5 (by simp; omega) (fun g' e => (hown.out.lt g' e).1)
          have hB5' := Lib.hid hB5
          have hown5' := Lib.hid hown5
          clear hB5 hown5 hg5 hnil5 hat5
          go_wp2
          go_roundg g
          case measure => omega
          case rel =>
            refine ⟨k + 1, L ++ [(u : Int)], by omega, by go_num, by simp [hL'.out], ?_, ?_, hB5'.out⟩
            · rw [List.take_add_one, hxt.out]
              exact numsM_snoc _ x L u hnm'.out hnx.out
            · simpa [wCells] using hown5'.out
end Go.Proofs.YtkbmckmlnphpmaaGreatDoor
namespace Go.Proofs.YtkbmckmlnphpmaaGreatDoor
open Go.RowKit Go.Lib Go.Shelf

def encB (b : Bool) : Value := .bool b

set_option maxRecDepth 100000 in
set_option maxHeartbeats 2000000 in
theorem refUnwords_any (s : ByteArray) (w : World) (hs : s.size ≤ 2000000) : Calls Tryz.prog 19 #[.string s] w (UnwPost encB s w) := by
  obtain ⟨i0, hi, hz0, hz1, hz2⟩ := info_parts info40
  have hi' := Lib.hid (And.intro hi (And.intro hz0 (And.intro hz1 hz2)))
  clear hi hz0 hz1 hz2
  obtain ⟨N, hN⟩ : ∃ N, (partsB s).length = N + 1 := ⟨(partsB s).length - 1, by have := parts_pos s; omega⟩
  have hNle : N ≤ 2000000 := by have := parts_le s; omega
  have hsp := split_any s w hs
  unfold SlPost at hsp
  rw [hN] at hsp
  have hsp' := Lib.hid hsp
  clear hsp
  have hN' := Lib.hid hN
  clear hN
  obtain ⟨p, hp⟩ : ∃ p, (partsB s)[0]? = some p := ⟨_, List.getElem?_eq_getElem (parts_pos s)⟩
  have hps : p.size ≤ 2000000 := Nat.le_trans (parts_size s p (List.mem_of_getElem? hp)) hs
  have hu := Lib.hid (unw_pos hp)
  have hp' := Lib.hid hp
  clear hp
  have hisw := Lib.hid (fun w1 => refWord_any p w1 hps)
  have hu2 := Lib.hid (fun h : wordB p = true => (show unwM s = (numsM (partsB s).tail).map fun l => (p, l) by rw [hu.out, if_pos h]))
  have hu3 := Lib.hid (fun h : wordB p = false => (show unwM s = none by rw [hu.out, if_neg (by rw [h]; simp)]))
  clear hu
  obtain ⟨t, ht⟩ : ∃ t, wordB p = t := ⟨_, rfl⟩
  rw [ht] at hisw
  have ht' := Lib.hid ht
  clear ht
  go_enter Tryz.func19, Tryz.ntmps19
  go_wp2_with fail
  refine hsp'.out.mono ?_
  rintro e w2 ⟨A, c, rfl, hA, hb1⟩
  obtain ⟨blk, off, rfl, hc⟩ := hA (by rw [hN'.out]; omega)
  have hc1 := Lib.hid hc
  have hcp : w2.cell? ⟨blk, off, none⟩ = some (.string p) := hc 0 p hp'.out
  have hb1' := Lib.hid hb1
  clear hc hb1 hA
  cases t
  · go_wp2_with fail
    refine (hisw.out w2).mono ?_
    rintro e w3 ⟨rfl, rfl⟩
    go_wp2
    go_ret3
    exact ⟨fun _ => rfl, (fun p l h => by rw [hu3.out ht'.out] at h; cases h), hb1'.out⟩
  · go_wp2_with fail
    refine (hisw.out w2).mono ?_
    rintro e w3 ⟨rfl, rfl⟩
    go_wp2_with fail
    go_loopg [6, 7] N (fun g s6 s7 wr => ∃ (k : Nat) (L : List Int), k + g = N ∧ s7 = .int .i64 ((1 + k : Nat) : Int) ∧ L.length = k ∧ numsM ((partsB s).tail.take k) = some L ∧ wr.ownsRow w2.heap.size 40 1 s6 k (wCells L) ∧ Below w2.heap.size w2 wr)
    case atStart => exact ⟨0, [], by omega, rfl, rfl, rfl, ⟨rfl, .inl ⟨rfl, rfl⟩⟩, Below.refl _ _⟩
    case round =>
      obtain ⟨k, L, hkg, rfl, hL, hnm, ho4, hbr⟩ := hrel
      have hnm' := Lib.hid hnm
      have ho4' := Lib.hid ho4
      have hbr' := Lib.hid hbr
      have hL' := Lib.hid hL
      clear hnm ho4 hbr hL
      cases gk with
      | zero =>
        have hkN : k = N := by omega
        subst hkN
        have e0 : ¬ (((1 + k : Nat) : Int) < ((k + 1 : Nat) : Int)) := by omega
        have htl : (partsB s).tail.take k = (partsB s).tail := List.take_of_length_le (by rw [List.length_tail, hN'.out]; omega)
        have hnm2 := hnm'.out
        rw [htl] at hnm2
        obtain ⟨A, c, rfl, hA⟩ := own_WNew ho4'.out hL'.out (numsM_range _ _ hnm2)
        have hA' := Lib.hid hA
        have hnm3 := Lib.hid hnm2
        have hcp2 : wr.cell? ⟨blk, off, none⟩ = some (.string p) := (hbr'.out.cell (p := ⟨blk, off, none⟩) (cell_some_lt hcp)).trans hcp
        have hfin := Lib.hid (Below.next hb1'.out hbr'.out)
        clear hA hnm2 htl
        go_wp2
        go_ret3
        refine ⟨fun h => ?_, fun p2 l2 h => ?_, hfin.out⟩
        · rw [hu2.out ht'.out, hnm3.out] at h; cases h
        · rw [hu2.out ht'.out, hnm3.out] at h
          cases h
          exact ⟨A, c, by rw [hL'.out]; rfl, hA'.out.mono hb1'.out.size⟩
      | succ g =>
        have e0 : ((1 + k : Nat) : Int) < ((N + 1 : Nat) : Int) := by omega
        obtain ⟨x, hx⟩ : ∃ x, (partsB s)[1 + k]? = some x := ⟨_, List.getElem?_eq_getElem (by rw [hN'.out]; omega)⟩
        have hcx0 := hc1.out _ _ hx
        have hcx : wr.cell? ⟨blk, off + (1 + k), none⟩ = some (.string x) := (hbr'.out.cell (p := ⟨blk, off + (1 + k), none⟩) (cell_some_lt hcx0)).trans hcx0
        have hxs : x.size ≤ 2000000 := Nat.le_trans (parts_size s x (List.mem_of_getElem? hx)) hs
        have hxt := Lib.hid (show (partsB s).tail[k]? = some x by rw [List.getElem?_tail, Nat.add_comm]; exact hx)
        have hnum := refNumber_any x wr hxs
        clear hx hcx0
        cases hn : numI x with
        | none =>
          have hbad := Lib.hid (show unwM s = none by rw [hu2.out ht'.out, numsM_none _ x (List.mem_of_getElem? hxt.out) hn]; rfl)
          have hnum2 := Lib.hid (hnum.mono (fun e w' h => (show ∃ v : Int, e = .returned (.tuple #[.int .u64 v, .int .i64 15]) ∧ wr = w' by
            obtain ⟨v, er, h1, h2, _, h4⟩ := h
            rw [h2 hn] at h1
            exact ⟨v, h1, h4⟩)))
          clear hnum hn
          go_wp2_with fail
          refine hnum2.out.mono ?_
          rintro e w4 ⟨v, rfl, rfl⟩
          have hfin := Lib.hid (Below.next hb1'.out hbr'.out)
          go_wp2
          go_ret3
          exact ⟨fun _ => rfl, (fun p l h => by rw [hbad.out] at h; cases h), hfin.out⟩
        | some u =>
          have hnum2 := Lib.hid (hnum.mono (fun e w' h => (show e = .returned (.tuple #[.int .u64 u, .int .i64 0]) ∧ wr = w' by
            obtain ⟨v, er, h1, _, h3, h4⟩ := h
            obtain ⟨h5, h6⟩ := h3 u hn
            rw [h5, h6] at h1
            exact ⟨h1, h4⟩)))
          have hnx := Lib.hid hn
          clear hnum hn
          go_wp2_with fail
          refine hnum2.out.mono ?_
          rintro e w4 ⟨rfl, rfl⟩
          have hszr := hbr'.out.size
          have hown := Lib.hid ((show wr.ownsRow w2.heap.size 40 1 u6 k (wCells L) from ho4'.out).alloc (.cells #[.int .u64 u] 40))
          have hnew := Lib.hid (cell_one_new wr (.int .u64 u) 40)
          have hbA := Lib.hid ((Below.refl wr.heap.size wr).alloc (Nat.le_refl _) (.cells #[.int .u64 u] 40))
          have hone := Lib.hid (show ∀ v ∈ [Value.int .u64 (u : Int)], v.oneCell' = true by simp [Value.oneCell'])
          have hbs := Lib.hid (show w2.heap.size ≤ (wr.alloc (.cells #[.int .u64 u] 40)).heap.size by simp; omega)
          have hk1 := Lib.hid (show k + 1 ≤ maxLen by unfold maxLen; omega)
          have hk2 := Lib.hid (show (k + 1) * 8 ≤ 140737488355328 by omega)
          obtain ⟨hj1, hj2, hj3, hj4⟩ := hi'.out
          clear hcx
          go_wp2_with ((at_builtin; refine wpList_append_own_at _ rfl _ _ 22 rfl w2.heap.size 40 i0 _ 1 8 und22 hj1 hj2 hj3 hj4 rfl (by decide) u6 k (wCells L) rfl hown.out ⟨wr.heap.size, 0, none⟩ 1 1 [.int .u64 u] rfl rfl hnew.out hone.out hk1.out hk2.out hbs.out ?_; intro v' w5 hown5 hg5 hnil5 hat5))
          have hB5 : Below w2.heap.size w2 w5 := (Below.next hbr'.out hbA.out).grown hg5 (by simp; omega) (fun g' e => (hown.out.lt g' e).1)
          have hB5' := Lib.hid hB5
          have hown5' := Lib.hid hown5
          clear hB5 hown5 hg5 hnil5 hat5
          go_wp2
          go_roundg g
          case measure => omega
          case rel =>
            refine ⟨k + 1, L ++ [(u : Int)], by omega, by go_num, by simp [hL'.out], ?_, ?_, hB5'.out⟩
            · rw [List.take_add_one, hxt.out]
              exact numsM_snoc _ x L u hnm'.out hnx.out
            · simpa [wCells] using hown5'.out
end Go.Proofs.YtkbmckmlnphpmaaGreatDoor
namespace Go.Proofs.YtkbmckmlnphpmaaGreatDoor
open Go.RowKit Go.Lib Go.Shelf

/-- the text of a line, byte by byte -/
def tailL (l : List Int) : List UInt8 := (l.map fun x => 32 :: Lib.decDigits x.toNat).flatten
theorem lineT_list (word : ByteArray) (l : List Int) : (lineT word l).data.toList = word.data.toList ++ tailL l := by
  unfold lineT joinT lineL tailL
  rw [List.map_cons]
  show (Lib.join _ _) = _
  rw [Lib.join_cons, Lib.joinTail, List.map_map, List.map_map]
  rfl
end Go.Proofs.YtkbmckmlnphpmaaGreatDoor
namespace Go.Proofs.YtkbmckmlnphpmaaGreatDoor
open Go.RowKit Go.Lib Go.Shelf

theorem ret_bool {a b : Bool} (h : a = b) : Ending.returned (.bool a) = .returned (.bool b) := by rw [h]
theorem below_drewN {B : Nat} {a w : World} (h : Below B a w) (n : Nat) : Below B a (w.drewN n) := ⟨h.os, h.tape, h.output, h.size, h.block⟩
/-- a slice that reads as lists of words -/
def WsAt (w : World) (A : Option Addr) (W : List (List Int)) : Prop :=
  0 < W.length → ∃ blk off, A = some ⟨blk, off, none⟩ ∧ ∀ i ws, W[i]? = some ws → ∃ A' c, w.cell? ⟨blk, off + i, none⟩ = some (.slice A' ws.length c) ∧ ws.length ≤ 4000000 ∧ WAt w A' ws
theorem WsAt.below {w w' : World} {A : Option Addr} {W : List (List Int)} (h : WsAt w A W) (hb : Below w.heap.size w w') : WsAt w' A W := by
  intro hn
  obtain ⟨blk, off, e, hc⟩ := h hn
  refine ⟨blk, off, e, fun i ws hws => ?_⟩
  obtain ⟨A', c, h1, h2, h4⟩ := hc i ws hws
  exact ⟨A', c, (hb.cell (p := ⟨blk, off + i, none⟩) (cell_some_lt h1)).trans h1, h2, h4.below hb⟩
theorem WsAt.at_ {w : World} {A : Option Addr} {W : List (List Int)} (h : WsAt w A W) {k : Nat} (hk : k < W.length) :
    ∃ blk off ws A' c, A = some ⟨blk, off, none⟩ ∧ W[k]? = some ws ∧ w.cell? ⟨blk, off + k, none⟩ = some (.slice A' ws.length c) ∧ ws.length ≤ 4000000 ∧ WAt w A' ws := by
  obtain ⟨blk, off, e, hc⟩ := h (by omega)
  have e1 : W[k]? = some W[k] := List.getElem?_eq_getElem hk
  obtain ⟨A', c, h1, h2, h4⟩ := hc k _ e1
  exact ⟨blk, off, _, A', c, e, e1, h1, h2, h4⟩
theorem list_ne_at {α : Type} {X Y : List α} {k : Nat} {x y : α} (hx : X[k]? = some x) (hy : Y[k]? = some y) (h : x ≠ y) : X ≠ Y := by
  rintro rfl
  rw [hx] at hy
  cases hy
  exact h rfl
theorem list_eq_all {α : Type} {X Y : List α} {n : Nat} (hX : X.length = n) (hY : Y.length = n) (h : ∀ i, i < n → X[i]? = Y[i]?) : X = Y := by
  apply List.ext_getElem?
  intro i
  by_cases hi : i < n
  · exact h i hi
  · rw [List.getElem?_eq_none (by omega), List.getElem?_eq_none (by omega)]
theorem below_drewN' {B : Nat} {a w : World} (h : Below B a w) (n : Nat) : Below B a (w.drewN n) := ⟨h.os, h.tape, h.output, h.size, h.block⟩

set_option maxRecDepth 100000 in
set_option maxHeartbeats 2000000 in
theorem sameWords_any (A A' : Option Addr) (n c n' c' : Nat) (V W : List (List Int)) (w : World) (hV : V.length = n) (hW : W.length = n') (hv : WsAt w A V) (hw : WsAt w A' W) (hn : n ≤ 9223372036854775807) (hn' : n' ≤ 9223372036854775807) :
    Calls Tryz.prog 56 #[.slice A n c, .slice A' n' c'] w (BoolPost (decide (V = W)) w) := by
  have hv' := Lib.hid hv
  have hw' := Lib.hid hw
  have hV' := Lib.hid hV
  have hW' := Lib.hid hW
  clear hv hw hV hW
  by_cases hnn : n = n'
  · subst hnn
    go_enter Tryz.func56, Tryz.ntmps56
    go_wp2_with fail
    go_loopg [5] n (fun g s4 wr => ∃ k : Nat, k + g = n ∧ s4 = .int .i64 k ∧ (∀ i, i < k → V[i]? = W[i]?) ∧ Below w.heap.size w wr)
    case atStart => exact ⟨0, by omega, rfl, fun i h => absurd h (by omega), Below.refl _ _⟩
    case round =>
      obtain ⟨k, hkg, rfl, hall, hb⟩ := hrel
      have hall' := Lib.hid hall
      have hb' := Lib.hid hb
      clear hall hb
      cases gk with
      | zero =>
        have e0 : ¬ ((k : Int) < (n : Int)) := by omega
        have hfin := Lib.hid (show V = W from list_eq_all hV'.out hW'.out fun i hi => hall'.out i (by omega))
        go_wp2
        go_ret
        exact ⟨ret_bool (by simp [hfin.out]), hb'.out⟩
      | succ g =>
        have e0 : (k : Int) < (n : Int) := by omega
        obtain ⟨blk, off, vs, Ai, ci, rfl, hvs, v1, v2, v4⟩ := (hv'.out.below hb'.out).at_ (k := k) (by rw [hV'.out]; omega)
        obtain ⟨blk', off', ws, Ai', ci', rfl, hws, w1, w2, w4⟩ := (hw'.out.below hb'.out).at_ (k := k) (by rw [hW'.out]; omega)
        have hvs' := Lib.hid hvs
        have hws' := Lib.hid hws
        have v4' := Lib.hid v4
        have w4' := Lib.hid w4
        clear hvs hws v4 w4
        by_cases hll : vs.length = ws.length
        · have hd : ((vs.length : Int) != (ws.length : Int)) = false := by simp [hll]
          obtain ⟨wo, hwo⟩ : ∃ wo : World, wo = wr := ⟨_, rfl⟩
          rw [← hwo] at v1 w1 v4' w4' hb' ⊢
          clear hwo
          go_wp2
          go_quiet (fail)
          go_wp2_with fail
          go_loopg [6] vs.length (fun g2 s6 wy => ∃ j : Nat, j + g2 = vs.length ∧ s6 = .int .i64 j ∧ (∀ i, i < j → vs[i]? = ws[i]?) ∧ Below wo.heap.size wo wy)
          case atStart => exact ⟨0, by omega, rfl, fun i h => absurd h (by omega), below_drewN (Below.refl _ _) _⟩
          case round =>
            obtain ⟨j, hjg, rfl, hal2, hb2⟩ := hrel
            have hal2' := Lib.hid hal2
            have hb2' := Lib.hid hb2
            have v1w := (hb2.cell (p := ⟨blk, off + k, none⟩) (cell_some_lt v1)).trans v1
            have w1w := (hb2.cell (p := ⟨blk', off' + k, none⟩) (cell_some_lt w1)).trans w1
            have v1' := Lib.hid v1
            have w1' := Lib.hid w1
            clear hal2 hb2 v1 w1
            cases gk with
            | zero =>
              have e1 : ¬ ((j : Int) < (vs.length : Int)) := by omega
              have hfin := Lib.hid (show vs = ws from list_eq_all (n := vs.length) rfl hll.symm fun i hi => hal2'.out i (by omega))
              go_wp2
              go_roundg g
              case measure => omega
              case rel =>
                refine ⟨k + 1, by omega, by go_num, fun i hi => ?_, Below.next hb'.out hb2'.out⟩
                rcases Nat.lt_or_ge i k with h | h
                · exact hall'.out i h
                · obtain rfl : i = k := by omega
                  rw [hvs'.out, hws'.out, hfin.out]
            | succ g2 =>
              have e1 : (j : Int) < (vs.length : Int) := by omega
              have e2 : (j : Int) < (ws.length : Int) := by omega
              obtain ⟨b1, o1, x, rfl, hx, x1, x2, x3⟩ := (v4'.out.below hb2'.out).at_ (k := j) (by omega)
              obtain ⟨b2, o2, y, rfl, hy, y1, y2, y3⟩ := (w4'.out.below hb2'.out).at_ (k := j) (by omega)
              have hx' := Lib.hid hx
              have hy' := Lib.hid hy
              clear hx hy
              by_cases hxy : x = y
              · have hd2 : (x != y) = false := by simp [hxy]
                go_wp2
                go_quiet (fail)
                go_wp2
                go_roundg g2
                case measure => omega
                case rel =>
                  refine ⟨j + 1, by omega, by go_num, fun i hi => ?_, below_drewN hb2'.out _⟩
                  rcases Nat.lt_or_ge i j with h | h
                  · exact hal2'.out i h
                  · obtain rfl : i = j := by omega
                    rw [hx'.out, hy'.out, hxy]
              · have hd2 : (x != y) = true := by simp [hxy]
                have hfin := Lib.hid (show V ≠ W from list_ne_at hvs'.out hws'.out (list_ne_at hx'.out hy'.out hxy))
                clear hxy
                go_wp2
                go_quiet (fail)
                go_wp2
                go_ret
                exact ⟨ret_bool (by simp [hfin.out]), Below.next hb'.out (below_drewN hb2'.out _)⟩
        · have hd : ((vs.length : Int) != (ws.length : Int)) = true := by simp; omega
          have hfin := Lib.hid (show V ≠ W from list_ne_at hvs'.out hws'.out fun e => hll (by rw [e]))
          clear hll
          go_wp2
          go_quiet (fail)
          go_wp2
          go_ret
          exact ⟨ret_bool (by simp [hfin.out]), below_drewN hb'.out _⟩
  · have hd : ((n : Int) != (n' : Int)) = true := by simp; omega
    have hfin := Lib.hid (show V ≠ W from fun e => hnn (by rw [← hV'.out, ← hW'.out, e]))
    clear hnn
    go_enter Tryz.func56, Tryz.ntmps56
    go_wp2
    go_ret
    exact ⟨ret_bool (by simp [hfin.out]), Below.refl _ _⟩

set_option maxRecDepth 100000 in
set_option maxHeartbeats 1000000 in
theorem sameList_any (A A' : Option Addr) (n c n' c' : Nat) (x y : List Int) (w : World) (hx : x.length = n) (hy : y.length = n') (hv : WAt w A x) (hw : WAt w A' y) (hn : n ≤ 4000000) (hn' : n' ≤ 4000000) :
    Calls Tryz.prog 20 #[.slice A n c, .slice A' n' c'] w (BoolPost (decide (x = y)) w) := by
  have hb1 := Lib.hid (((Below.refl w.heap.size w).alloc (Nat.le_refl _) (.cells #[.slice A n c] 22)).alloc (by simp) (.cells #[.slice A' n' c'] 22))
  have hk := sameWords_any (some ⟨w.heap.size, 0, none⟩) (some ⟨w.heap.size + 1, 0, none⟩) 1 1 1 1 [x] [y] ((w.alloc (.cells #[.slice A n c] 22)).alloc (.cells #[.slice A' n' c'] 22)) rfl rfl
    (fun _ => ⟨w.heap.size, 0, rfl, fun i ws h => by
      cases i with
      | zero =>
        cases h
        refine ⟨A, c, ?_, by omega, hv.below hb1.out⟩
        rw [hx, blk_cell ((heap_alloc_old _ _ (by simp)).trans (heap_alloc_new w _))]; rfl
      | succ i => cases h⟩)
    (fun _ => ⟨w.heap.size + 1, 0, rfl, fun i ws h => by
      cases i with
      | zero =>
        cases h
        refine ⟨A', c', ?_, by omega, hw.below hb1.out⟩
        have e : (w.alloc (.cells #[.slice A n c] 22)).heap.size = w.heap.size + 1 := by simp
        rw [hy, ← e, blk_cell (heap_alloc_new _ _)]; rfl
      | succ i => cases h⟩) (by omega) (by omega)
  have he : decide ([x] = [y]) = decide (x = y) := by simp
  rw [he] at hk
  have hk' := Lib.hid hk
  have e1 : (w.alloc (.cells #[.slice A n c] 22)).heap.size = w.heap.size + 1 := by simp
  generalize decide (x = y) = t at hk'
  clear hk he hx hy hv hw
  go_enter Tryz.func20, Tryz.ntmps20
  go_wp2_with fail
  refine hk'.out.mono ?_
  rintro e w1 ⟨rfl, hb⟩
  have hb' := Lib.hid (hb1.out.trans (hb.mono (by simp; omega)))
  clear hb
  go_wp2
  go_ret
  exact ⟨rfl, hb'.out⟩
end Go.Proofs.YtkbmckmlnphpmaaGreatDoor
namespace Go.Proofs.YtkbmckmlnphpmaaGreatDoor
open Go.RowKit Go.Lib Go.Shelf

def bC (l : List UInt8) : List Value := l.map fun b => Value.int .u8 b.toNat
/-- bytes that are owned -/
def OwnC (w : World) (b0 : Nat) (v : Value) (n : Nat) (xs : List UInt8) : Prop :=
  xs.length = n ∧ ((v = .slice none 0 0 ∧ n = 0) ∨ ∃ g cap, v = .slice (some ⟨g, 0, none⟩) n cap ∧ b0 ≤ g ∧ g < w.heap.size ∧ n ≤ cap ∧ cap ≤ maxLen ∧
    (∀ j, j < cap → (w.cell? ⟨g, j, none⟩).isSome = true ∧ w.frozen? ⟨g, j, none⟩ = false) ∧ ∀ j b, xs[j]? = some b → w.cell? ⟨g, j, none⟩ = some (.int .u8 (b.toNat : Int)))
theorem OwnC.kept {w w' : World} {b0 n : Nat} {v : Value} {xs : List UInt8} (h : OwnC w b0 v n xs) (hb : Below w.heap.size w w') : OwnC w' b0 v n xs := by
  refine ⟨h.1, ?_⟩
  rcases h.2 with h0 | ⟨g, cap, hv, hg, hgw, h1, h2, h3, h4⟩
  · exact .inl h0
  · refine .inr ⟨g, cap, hv, hg, by have := hb.size; omega, h1, h2, fun j hj => ?_, fun j b hj => ?_⟩
    · rw [hb.cell (p := ⟨g, j, none⟩) hgw, hb.frozen (p := ⟨g, j, none⟩) hgw]; exact h3 j hj
    · rw [hb.cell (p := ⟨g, j, none⟩) hgw]; exact h4 j b hj
theorem OwnC.lt {w : World} {b0 n : Nat} {v : Value} {xs : List UInt8} (h : OwnC w b0 v n xs) : ∀ k, v.ownBlock = some k → b0 ≤ k ∧ k < w.heap.size := by
  intro k hk
  rcases h.2 with ⟨rfl, _⟩ | ⟨g, cap, rfl, hg, hgw, _⟩
  · simp [Value.ownBlock] at hk
  · simp [Value.ownBlock] at hk; omega
theorem ownC_of_row {w : World} {b0 n : Nat} {v : Value} {xs : List UInt8} (h : w.ownsRow b0 5 1 v n (bC xs)) : OwnC w b0 v n xs := by
  have hl : xs.length = n := by have := h.1; simpa [bC] using this
  refine ⟨hl, ?_⟩
  rcases h.2 with h0 | ⟨g, cap, cur, hv, hg, hh, h1, h2, h3, h4⟩
  · exact .inl h0
  · refine .inr ⟨g, cap, hv, hg, blk_lt hh, h1, h2, fun j hj => ?_, fun j b hj => ?_⟩
    · rw [blk_cell hh, Array.getElem?_eq_getElem (by omega)]
      exact ⟨rfl, by simp [World.frozen?, hh]⟩
    · have hjn : j < n := by rw [← hl]; exact (List.getElem?_eq_some_iff.1 hj).1
      have h5 : (cur.toList.take (n * 1))[j]? = some (.int .u8 (b.toNat : Int)) := by rw [h4, bC, List.getElem?_map, hj]; rfl
      rw [Nat.mul_one, List.getElem?_take, if_pos hjn] at h5
      rw [blk_cell hh]
      simpa using h5
theorem ownC_conv (w : World) (s : ByteArray) (hs : s.size ≤ maxLen) : OwnC (bytesWorld w 5 s) w.heap.size (.slice (some ⟨w.heap.size, 0, none⟩) s.size (grownCap w s.size 0 5)) s.size s.data.toList := by
  have hge := grownCap_ge w s.size 0 5
  have hsz : (bytesCells w 5 s).size = grownCap w s.size 0 5 := by
    have : s.data.size = s.size := rfl
    simp [bytesCells, this]; omega
  have hat := bytesWorld_at_new w 5 s
  refine ⟨size_list s, .inr ⟨w.heap.size, _, rfl, Nat.le_refl _, by rw [bytesWorld_size]; omega, hge, grownCap_le_maxLen w s.size 0 5 hs, fun j hj => ?_, fun j b hj => ?_⟩⟩
  · rw [cell_of_row _ _ _ _ _ _ hat, Array.getElem?_eq_getElem (by omega)]
    refine ⟨rfl, ?_⟩
    simp [World.frozen?, hat]
    omega
  · have hjs : j < s.size := by rw [← size_list]; exact (List.getElem?_eq_some_iff.1 hj).1
    rw [bytesWorld_cell w 5 s j hjs]
    rw [List.getD_eq_getElem?_getD, hj]; rfl
theorem setCells_grown (b : Nat) : ∀ (vs : List Value) (o : Nat) (w : World), w.grownBy (w.setCells b o vs) (some b)
  | [], _, w => ⟨rfl, rfl, rfl, Nat.le_refl _, fun _ _ _ => rfl⟩
  | v :: vs, o, w => by
    have h := setCells_grown b vs (o + 1) (w.setCell ⟨b, o, none⟩ v)
    have hs : (w.setCell ⟨b, o, none⟩ v).heap.size = w.heap.size := by simp [World.setCell]
    refine ⟨h.os, h.tape, h.output, by rw [← hs]; exact h.size, fun k hk hne => ?_⟩
    have e := h.block k (by rw [hs]; exact hk) hne
    refine e.trans ?_
    have : b ≠ k := fun e => hne (by rw [e])
    simp [World.setCell, Array.getElem?_modify, this]
/-- cells laid behind what is owned, where there is room -/
theorem ownC_room {w : World} {b0 n g cap : Nat} {xs ys : List UInt8} (h : OwnC w b0 (.slice (some ⟨g, 0, none⟩) n cap) n xs) (hr : n + ys.length ≤ cap) :
    OwnC (w.setCells g n (bC ys)) b0 (.slice (some ⟨g, 0, none⟩) (n + ys.length) cap) (n + ys.length) (xs ++ ys) := by
  have hgr := setCells_grown g (bC ys) n w
  have hyl : (bC ys).length = ys.length := by simp [bC]
  refine ⟨by rw [List.length_append, h.1], ?_⟩
  rcases h.2 with ⟨e, _⟩ | ⟨g', cap', hv, hg, hgw, h1, h2, h3, h4⟩
  · cases e
  · injection hv with e1 _ e3
    injection e1 with e1
    injection e1 with e1
    subst e1 e3
    have hin := World.cell?_setCells_in g (bC ys) n w (fun j hj => (h3 (n + j) (by omega)).1)
    refine .inr ⟨g, cap, rfl, hg, Nat.lt_of_lt_of_le hgw hgr.size, hr, h2, fun j hj => ?_, fun j b hj => ?_⟩
    · rw [World.frozen?_setCells]
      refine ⟨?_, (h3 j hj).2⟩
      by_cases h5 : j < n ∨ n + ys.length ≤ j
      · rw [World.cell?_setCells_out g (bC ys) n w ⟨g, j, none⟩ (fun _ _ => by rw [hyl]; exact h5)]
        exact (h3 j hj).1
      · have h6 := hin (j - n) (by omega)
        have e : n + (j - n) = j := by omega
        rw [e] at h6
        rw [h6]; rfl
    · by_cases h5 : j < n
      · rw [World.cell?_setCells_out g (bC ys) n w ⟨g, j, none⟩ (fun _ _ => .inl h5)]
        rw [List.getElem?_append_left (by rw [h.1]; exact h5)] at hj
        exact h4 j b hj
      · rw [List.getElem?_append_right (by rw [h.1]; omega), h.1] at hj
        have h6 : j - n < ys.length := (List.getElem?_eq_some_iff.1 hj).1
        have h7 := hin (j - n) (by omega)
        have e : n + (j - n) = j := by omega
        rw [e] at h7
        rw [h7]
        have h8 : (bC ys)[j - n]? = some (.int .u8 (b.toNat : Int)) := by rw [bC, List.getElem?_map, hj]; rfl
        rw [List.getElem?_eq_getElem (by omega)] at h8
        exact h8
theorem info5 : (Tryz.prog.info? 5).map (fun i => (i.zero, i.size, i.bytes)) = some (some (.int .u8 0), 1, 1) := by kernel_rfl
theorem u5' : Tryz.prog.underlying 5 = some (.int .u8) := by kernel_rfl
theorem zero_cells1 (w : World) (old need : Nat) (hn : old < need) (olds news : List UInt8) (hl : olds.length + news.length = need) (h63 : need ≤ maxLen) (b0 : Nat) (hb0 : b0 ≤ w.heap.size) :
    OwnC (w.drew.alloc (.cells ((bC olds).toArray ++ (bC news).toArray ++ Builtin.zeroCells (Value.int .u8 0).cells (grownCap w need old 5 - need)) 5)) b0 (.slice (some ⟨w.heap.size, 0, none⟩) need (grownCap w need old 5)) need (olds ++ news) := by
  have hge := grownCap_ge w need old 5
  have hle := grownCap_le_maxLen w need old 5 h63
  refine ownC_of_row ⟨by simp [bC]; omega, .inr ⟨w.heap.size, _, _, rfl, hb0, heap_alloc_new w.drew _, hge, hle, ?_, ?_⟩⟩
  · simp [bC, Builtin.zeroCells, Value.cells]; omega
  · have : need * 1 = ((bC olds) ++ (bC news)).length := by simp [bC]; omega
    simp only [Array.toList_append, List.toList_toArray]
    rw [this, List.take_left]
    simp [bC]
theorem bC_cells {w : World} {g : Nat} {xs : List UInt8} (h : ∀ j b, xs[j]? = some b → w.cell? ⟨g, j, none⟩ = some (.int .u8 (b.toNat : Int))) :
    ∀ j u, (bC xs)[j]? = some u → w.cell? ((⟨g, 0, none⟩ : Addr).add j) = some u := by
  intro j u hu
  rw [bC, List.getElem?_map] at hu
  cases hx : xs[j]? with
  | none => rw [hx] at hu; cases hu
  | some b =>
    rw [hx] at hu
    cases hu
    rw [Lib.add_plain, Nat.zero_add]
    exact h j b hx
theorem bC_one (xs : List UInt8) : ∀ v ∈ bC xs, v.oneCell' = true := by
  intro v hv
  obtain ⟨b, _, rfl⟩ := List.mem_map.1 hv
  simp [Value.oneCell']
theorem run_append_C_string (w : World) (b0 n : Nat) (v : Value) (xs : List UInt8) (ty : TypeId) (h : OwnC w b0 v n xs) (s : ByteArray) (hsz : n + s.size ≤ 1000000000) (hb0 : b0 ≤ w.heap.size) :
    ∃ v' w', (Builtin.append_ #[73, 9] ty #[v, .string s]).run Tryz.prog w = .ok v' w' ∧ OwnC w' b0 v' (n + s.size) (xs ++ s.data.toList) ∧ w.grownBy w' v.ownBlock := by
  obtain ⟨i0, hi, hz0, hz1, hz2⟩ := info_parts info5
  rcases h.2 with ⟨rfl, rfl⟩ | ⟨g, cap, rfl, hg, hgw, h1, h2, h3, h4⟩
  · have hx : xs = [] := List.length_eq_zero_iff.1 h.1
    subst hx
    obtain ⟨v', w', hr, ho, hgr, _⟩ := run_append_own_string (P := Tryz.prog) w b0 73 9 ty 5 i0 u73 u9 hi hz0 hz1 hz2 (.slice none 0 0) 0 [] ⟨rfl, .inl ⟨rfl, rfl⟩⟩ s (by unfold maxLen; omega) (by omega) hb0
    exact ⟨v', w', hr, ownC_of_row ho, hgr⟩
  · by_cases hr : n + s.size ≤ cap
    · have hl : s.data.toList.length = s.size := size_list s
      have hf := run_firstCells_string (P := Tryz.prog) w 1 s
      have hst := run_storeCells_cells (P := Tryz.prog) g n (strCells s) 0 w (fun j hj => (h3 (n + 0 + j) (by rw [strCells_length] at hj; omega)).1) (fun j hj => (h3 (n + 0 + j) (by rw [strCells_length] at hj; omega)).2) (strCells_oneCell s)
      simp only [Nat.add_zero] at hst
      refine ⟨.slice (some ⟨g, 0, none⟩) (n + s.size) cap, w.setCells g n (strCells s), ?_, ?_, ?_⟩
      · simp [Builtin.append_, run_underlying u73, run_underlying u9, sizeOf, typeInfo, hi, hz1, Builtin.lenOf, hr, hf, Addr.add_lit, hst]
      · have := ownC_room h (ys := s.data.toList) (by rw [hl]; exact hr)
        rw [hl] at this
        exact this
      · exact setCells_grown g _ n w
    · have hrun := run_append_grow_string (P := Tryz.prog) w 73 9 ty 5 i0 (.int .u8 0) u73 u9 hi hz0 ⟨g, 0, none⟩ n cap (bC xs) (by rw [hz1, bC, List.length_map, h.1, Nat.mul_one]) (bC_cells h4) s (by omega) (by omega) (by rw [hz2]; exact growslice_fits (by omega) (by omega))
      refine ⟨_, _, hrun, ?_, ⟨rfl, rfl, rfl, by simp, fun k hk _ => heap_alloc_old w.drew _ hk⟩⟩
      exact zero_cells1 w cap (n + s.size) (by omega) xs s.data.toList (by rw [h.1, size_list]) (by unfold maxLen; omega) b0 hb0
theorem run_append_C_byte (w : World) (b0 n : Nat) (v : Value) (xs : List UInt8) (ty : TypeId) (h : OwnC w b0 v n xs) (g1 : Nat) (b : UInt8) (hc : w.cell? ⟨g1, 0, none⟩ = some (.int .u8 (b.toNat : Int))) (hsz : n + 1 ≤ 1000000000) (hb0 : b0 ≤ w.heap.size) :
    ∃ v' w', (Builtin.append_ #[73, 73] ty #[v, .slice (some ⟨g1, 0, none⟩) 1 1]).run Tryz.prog w = .ok v' w' ∧ OwnC w' b0 v' (n + 1) (xs ++ [b]) ∧ w.grownBy w' v.ownBlock := by
  obtain ⟨i0, hi, hz0, hz1, hz2⟩ := info_parts info5
  have hnews : ∀ j u, (bC [b])[j]? = some u → w.cell? ((⟨g1, 0, none⟩ : Addr).add j) = some u := bC_cells (fun j c hj => by
    cases j with
    | zero => cases hj; exact hc
    | succ j => cases hj)
  rcases h.2 with ⟨rfl, rfl⟩ | ⟨g, cap, rfl, hg, hgw, h1, h2, h3, h4⟩
  · have hx : xs = [] := List.length_eq_zero_iff.1 h.1
    subst hx
    obtain ⟨v', w', hr, ho, hgr, _⟩ := run_append_own_at (P := Tryz.prog) w b0 73 ty 5 i0 (.int .u8 0) 1 1 u73 hi hz0 hz1 hz2 rfl (by decide) (.slice none 0 0) 0 [] ⟨rfl, .inl ⟨rfl, rfl⟩⟩ ⟨g1, 0, none⟩ 1 1 (bC [b]) rfl hnews (bC_one _) (by unfold maxLen; omega) (by omega) hb0
    exact ⟨v', w', hr, ownC_of_row ho, hgr⟩
  · by_cases hr : n + 1 ≤ cap
    · have hrun := run_append_room_cells (P := Tryz.prog) w 73 ty 5 i0 u73 hi g 0 n cap ⟨g1, 0, none⟩ 1 1 (bC [b]) (by rw [hz1]; rfl) hnews (bC_one _) hr
        (fun j hj => by rw [hz1]; have : (bC [b]).length = 1 := rfl; exact (h3 _ (by omega)).1) (fun j hj => by rw [hz1]; have : (bC [b]).length = 1 := rfl; exact (h3 _ (by omega)).2)
      have e : 0 + n * i0.size = n := by rw [hz1]; omega
      rw [e] at hrun
      exact ⟨_, _, hrun, ownC_room h (ys := [b]) hr, setCells_grown g _ n w⟩
    · have hrun := run_append_grow (P := Tryz.prog) w 73 ty 5 i0 (.int .u8 0) u73 hi hz0 ⟨g, 0, none⟩ n cap (bC xs) (by rw [hz1, bC, List.length_map, h.1, Nat.mul_one]) (bC_cells h4) ⟨g1, 0, none⟩ 1 1 (bC [b]) (by rw [hz1]; rfl) hnews (by omega) (by omega) (by rw [hz2]; exact growslice_fits (by omega) (by omega))
      refine ⟨_, _, hrun, ?_, ⟨rfl, rfl, rfl, by simp, fun k hk _ => heap_alloc_old w.drew _ hk⟩⟩
      exact zero_cells1 w cap (n + 1) (by omega) xs [b] (by rw [h.1]; rfl) (by unfold maxLen; omega) b0 hb0

/-- at a step of a region that draws -/
theorem step_append_C_string {ops : Array Oper} {o : Oper} {a : Act} {w : World} {K : Act → World → Prop} {Q : Exit → Act → World → Prop} {E : Prop} (hgd : o.guard = none) (s x : Operand)
    (ho : o.op = .call { callee := .builtin .append, args := #[s, x], argTypes := #[73, 9] })
    (b0 n : Nat) (v : Value) (xs : List UInt8) (hs : a.eval s = v) (hown : OwnC w b0 v n xs) (t : ByteArray) (hx : a.eval x = .string t) (hsz : n + t.size ≤ 1000000000) (hb0 : b0 ≤ w.heap.size)
    (h : ∀ v' w', OwnC w' b0 v' (n + t.size) (xs ++ t.data.toList) → w.grownBy w' v.ownBlock → K (a.put o.dst v') w') :
    if Region.wanted o (yielded ops a.tmps) = true then Oper.wp Tryz.prog o a w K Q else E := by
  have hw : Region.wanted o (yielded ops a.tmps) = true := by simp [Region.wanted, hgd]
  rw [if_pos hw]
  obtain ⟨v', w', hr, h2, h3⟩ := run_append_C_string w b0 n v xs o.type hown t hsz hb0
  unfold Oper.wp execOp
  simp only [ho, resolve, invoke, builtin, Sem.run_bind, Sem.run_pure, Result.andThen_ok, List.map_toArray, List.map_cons, List.map_nil, hs, hx, hr]
  exact h v' w' h2 h3
theorem step_append_C_byte {ops : Array Oper} {o : Oper} {a : Act} {w : World} {K : Act → World → Prop} {Q : Exit → Act → World → Prop} {E : Prop} (hgd : o.guard = none) (s x : Operand)
    (ho : o.op = .call { callee := .builtin .append, args := #[s, x], argTypes := #[73, 73] })
    (b0 n : Nat) (v : Value) (xs : List UInt8) (hs : a.eval s = v) (hown : OwnC w b0 v n xs) (g1 : Nat) (b : UInt8) (hx : a.eval x = .slice (some ⟨g1, 0, none⟩) 1 1) (hc : w.cell? ⟨g1, 0, none⟩ = some (.int .u8 (b.toNat : Int))) (hsz : n + 1 ≤ 1000000000) (hb0 : b0 ≤ w.heap.size)
    (h : ∀ v' w', OwnC w' b0 v' (n + 1) (xs ++ [b]) → w.grownBy w' v.ownBlock → K (a.put o.dst v') w') :
    if Region.wanted o (yielded ops a.tmps) = true then Oper.wp Tryz.prog o a w K Q else E := by
  have hw : Region.wanted o (yielded ops a.tmps) = true := by simp [Region.wanted, hgd]
  rw [if_pos hw]
  obtain ⟨v', w', hr, h2, h3⟩ := run_append_C_byte w b0 n v xs o.type hown g1 b hc hsz hb0
  unfold Oper.wp execOp
  simp only [ho, resolve, invoke, builtin, Sem.run_bind, Sem.run_pure, Result.andThen_ok, List.map_toArray, List.map_cons, List.map_nil, hs, hx, hr]
  exact h v' w' h2 h3
/-- at the list of a plain region -/
theorem wpList_append_C_string {ops : Array Oper} {rest : List Oper} {o : Oper} {a : Act} {w : World} {Q : Exit → Act → World → Prop} (hgd : o.guard = none) (s x : Operand)
    (ho : o.op = .call { callee := .builtin .append, args := #[s, x], argTypes := #[73, 9] })
    (b0 n : Nat) (v : Value) (xs : List UInt8) (hs : a.eval s = v) (hown : OwnC w b0 v n xs) (t : ByteArray) (hx : a.eval x = .string t) (hsz : n + t.size ≤ 1000000000) (hb0 : b0 ≤ w.heap.size)
    (h : ∀ v' w', OwnC w' b0 v' (n + t.size) (xs ++ t.data.toList) → w.grownBy w' v.ownBlock → wpList Tryz.prog ops Q rest (a.put o.dst v') w') : wpList Tryz.prog ops Q (o :: rest) a w := by
  refine wpList_plain hgd fun K hK => ?_
  obtain ⟨v', w', hr, h2, h3⟩ := run_append_C_string w b0 n v xs o.type hown t hsz hb0
  unfold Oper.wp execOp
  simp only [ho, resolve, invoke, builtin, Sem.run_bind, Sem.run_pure, Result.andThen_ok, List.map_toArray, List.map_cons, List.map_nil, hs, hx, hr]
  exact hK _ _ (h v' w' h2 h3)
theorem wpList_append_C_byte {ops : Array Oper} {rest : List Oper} {o : Oper} {a : Act} {w : World} {Q : Exit → Act → World → Prop} (hgd : o.guard = none) (s x : Operand)
    (ho : o.op = .call { callee := .builtin .append, args := #[s, x], argTypes := #[73, 73] })
    (b0 n : Nat) (v : Value) (xs : List UInt8) (hs : a.eval s = v) (hown : OwnC w b0 v n xs) (g1 : Nat) (b : UInt8) (hx : a.eval x = .slice (some ⟨g1, 0, none⟩) 1 1) (hc : w.cell? ⟨g1, 0, none⟩ = some (.int .u8 (b.toNat : Int))) (hsz : n + 1 ≤ 1000000000) (hb0 : b0 ≤ w.heap.size)
    (h : ∀ v' w', OwnC w' b0 v' (n + 1) (xs ++ [b]) → w.grownBy w' v.ownBlock → wpList Tryz.prog ops Q rest (a.put o.dst v') w') : wpList Tryz.prog ops Q (o :: rest) a w := by
  refine wpList_plain hgd fun K hK => ?_
  obtain ⟨v', w', hr, h2, h3⟩ := run_append_C_byte w b0 n v xs o.type hown g1 b hc hsz hb0
  unfold Oper.wp execOp
  simp only [ho, resolve, invoke, builtin, Sem.run_bind, Sem.run_pure, Result.andThen_ok, List.map_toArray, List.map_cons, List.map_nil, hs, hx, hr]
  exact hK _ _ (h v' w' h2 h3)
/-- the text of what is owned -/
theorem ownC_text {w : World} {b0 n g cap : Nat} {xs : List UInt8} (h : OwnC w b0 (.slice (some ⟨g, 0, none⟩) n cap) n xs) :
    (convert 73 9 (.slice (some ⟨g, 0, none⟩) n cap)).run Tryz.prog w = .ok (.string ⟨xs.toArray⟩) w := by
  have hr := run_convert_bytes_back (P := Tryz.prog) w 73 9 5 ⟨g, 0, none⟩ cap xs u73 u5 u9 (fun j hj => by
    rw [Lib.add_plain, Nat.zero_add]
    rcases h.2 with ⟨e, _⟩ | ⟨g', cap', hv, _, _, _, _, _, h4⟩
    · cases e
    · injection hv with e1 _ _
      injection e1 with e1
      injection e1 with e1
      subst e1
      exact h4 j _ (List.getElem?_eq_getElem hj))
  rw [h.1] at hr
  exact hr
end Go.Proofs.YtkbmckmlnphpmaaGreatDoor
namespace Go.Proofs.YtkbmckmlnphpmaaGreatDoor
open Go.RowKit Go.Lib Go.Shelf

theorem ownC_conv_all {w : World} {b0 n : Nat} {v : Value} {xs : List UInt8} (h : OwnC w b0 v n xs) : (convert 73 9 v).run Tryz.prog w = .ok (.string ⟨xs.toArray⟩) w := by
  rcases h.2 with ⟨rfl, rfl⟩ | ⟨g, cap, rfl, _⟩
  · have hx : xs = [] := List.length_eq_zero_iff.1 h.1
    subst hx
    exact run_convert_bytes_nil (P := Tryz.prog) w 73 5 u73 u5 0 0 9 u9
  · exact ownC_text h
theorem tailL_snoc (l : List Int) (x : Int) : tailL (l ++ [x]) = tailL l ++ 32 :: Lib.decDigits x.toNat := by simp [tailL]
theorem numT_size (u : Nat) (hu : u < 18446744073709551616) : (numT u).size ≤ 20 := by
  have := numT_len u hu
  rw [size_list] at this
  exact this

theorem new_cell (w : World) (v : Value) (t : TypeId) : (w.alloc (.cells #[v] t)).cell? ⟨w.heap.size, 0, none⟩ = some v := by
  rw [blk_cell (heap_alloc_new w _)]; rfl
theorem new_cell_d (w : World) (v : Value) (t : TypeId) : (w.alloc (.cells #[v] t)).drew.cell? ⟨w.heap.size, 0, none⟩ = some v := new_cell w v t
theorem below_alloc_d {B : Nat} {a w : World} (h : Below B a w.drew) (hB : B ≤ w.heap.size) (o : Obj) : Below B a (w.alloc o).drew := h.alloc hB o

set_option maxRecDepth 100000 in
set_option maxHeartbeats 4000000 in
theorem refWords_any (word : ByteArray) (A : Option Addr) (n c : Nat) (l : List Int) (w : World) (hl : l.length = n) (hw : WAt w A l) (hT : Tab w) (h1 : word.size ≤ 2000000) (h2 : n ≤ 2000000) :
    Calls Tryz.prog 17 #[.string word, .slice A n c] w (StrPost (lineT word l) w) := by
  obtain ⟨v0, w0, hcv, ho0, hb0⟩ : ∃ v0 w0, (convert 9 73 (.string word)).run Tryz.prog w = .ok v0 w0 ∧ OwnC w0 w.heap.size v0 word.size word.data.toList ∧ Below w.heap.size w w0 :=
    ⟨_, _, Go.Lib.run_convert_string_bytes (P := Tryz.prog) w 9 73 5 word u9 u73 u5, ownC_conv w word (by unfold maxLen; omega), below_bytes w word⟩
  have ho0 := Lib.hid ho0
  have hb0 := Lib.hid hb0
  have hT' := Lib.hid hT
  have hw' := Lib.hid hw
  have hl' := Lib.hid hl
  clear hT hw hl
  go_enter Tryz.func17, Tryz.ntmps17
  go_wp2_with fail
  go_loopg [5, 6] n (fun g s5 s6 wr => ∃ k N : Nat, k + g = n ∧ s6 = .int .i64 k ∧ N ≤ word.size + 21 * k ∧ OwnC wr w.heap.size s5 N (word.data.toList ++ tailL (l.take k)) ∧ Below w.heap.size w wr)
  case atStart => exact ⟨0, word.size, by omega, rfl, by omega, by simpa [tailL] using ho0.out, hb0.out⟩
  case round =>
    obtain ⟨k, N, hkg, rfl, hN, ho, hb⟩ := hrel
    have ho := Lib.hid ho
    have hb := Lib.hid hb
    cases gk with
    | zero =>
      have e0 : ¬ ((k : Int) < (n : Int)) := by omega
      have htk : l.take k = l := List.take_of_length_le (by rw [hl'.out]; omega)
      have hcv2 := ownC_conv_all ho.out
      rw [htk] at hcv2
      have hfin := Lib.hid (show (⟨(word.data.toList ++ tailL l).toArray⟩ : ByteArray) = lineT word l from ext_bytes (by rw [lineT_list]))
      rw [hfin.out] at hcv2
      clear htk
      go_wp2
      go_ret
      exact ⟨rfl, hb.out⟩
    | succ g =>
      have e0 : (k : Int) < (n : Int) := by omega
      obtain ⟨blk, off, x, rfl, hx, cx, x0, x1⟩ := hw'.out.at_ (k := k) (by rw [hl'.out]; omega)
      obtain ⟨u, rfl⟩ := Int.eq_ofNat_of_zero_le x0
      have hx' := Lib.hid hx
      have hu := Lib.hid (show u < 18446744073709551616 by omega)
      have hfm := Lib.hid fun (W : World) (h : Below w.heap.size w W) => fmtU u (by omega) W (hT'.out.below h)
      have hkp := Lib.hid fun (W : World) (h : Below w.heap.size w W) => (h.cell (p := ⟨blk, off + k, none⟩) (cell_some_lt cx)).trans cx
      have hsz20 := Lib.hid (numT_size u (by omega))
      have hN2 := Lib.hid (show N + 21 ≤ 1000000000 by omega)
      have hc1 := hkp.out _ hb.out
      clear hx cx x0 x1
      go_wp2_with fail
      have ho := Lib.hid (ho.out.kept ((Below.refl _ _).drew))
      have hb := Lib.hid hb.out.drew
      go_region_held_law (fun W => W.cell? ⟨blk, off + k, none⟩ = some (.int .u64 u)) (first | exact hkp.out _ hb5.out | exact hkp.out _ hb.out | exact hkp.out _ (below_alloc_d hb.out hb.out.size _) | exact hkp.out _ (hb.out.alloc hb.out.size _)) (first
        | (go_at_call 51; refine (hfm.out _ hb.out).mono ?_; rintro e w3 ⟨rfl, b3⟩; have ho := Lib.hid (ho.out.kept b3); have hb := Lib.hid (Below.next hb.out b3); clear b3)
        | (go_at_call 51; refine (hfm.out _ (below_alloc_d hb.out hb.out.size _)).mono ?_; rintro e w3 ⟨rfl, b3⟩; have hN := Lib.hid ((b3.cell (p := ⟨wr.heap.size, 0, none⟩) (by simp)).trans (new_cell_d wr _ _)); have ho := Lib.hid ((ho.out.kept (below_alloc_d (Below.refl _ _) (Nat.le_refl _) _)).kept b3); have hb := Lib.hid (Below.next (below_alloc_d hb.out hb.out.size _) b3); clear b3)
        | (refine step_append_C_string rfl _ _ rfl w.heap.size (N + 1) _ _ rfl ho.out (numT u) rfl (by have := hsz20.out; have := hN2.out; omega) hb.out.size ?_; intro v5 w5 ho5 hg5; have hb5 := Lib.hid (hb.out.grown hg5 hb.out.size (fun g' e => (ho.out.lt g' e).1)); have ho5' := Lib.hid ho5; clear ho5 hg5)
        | (refine step_append_C_byte rfl _ _ rfl w.heap.size N _ _ rfl ho.out _ 32 rfl hN.out (by have := hN2.out; omega) hb.out.size ?_; intro v4 w4 ho4 hg4; have hb := Lib.hid (hb.out.grown hg4 hb.out.size (fun g' e => (ho.out.lt g' e).1)); have ho := Lib.hid ho4; clear ho4 hg4)
        | (refine step_append_C_byte rfl _ _ rfl w.heap.size N _ _ rfl (ho.out.kept ((Below.refl _ _).alloc (Nat.le_refl _) _)) _ 32 rfl (new_cell _ _ _) (by have := hN2.out; omega) (hb.out.alloc hb.out.size _).size ?_; intro v4 w4 ho4 hg4; have hb := Lib.hid ((hb.out.alloc hb.out.size _).grown hg4 (hb.out.alloc hb.out.size _).size (fun g' e => (ho.out.lt g' e).1)); have ho := Lib.hid ho4; clear ho4 hg4)
        | (refine step_append_C_byte rfl _ _ rfl w.heap.size N _ _ rfl (ho.out.kept (below_alloc_d (Below.refl _ _) (Nat.le_refl _) _)) _ 32 rfl (new_cell_d _ _ _) (by have := hN2.out; omega) (below_alloc_d hb.out hb.out.size _).size ?_; intro v4 w4 ho4 hg4; have hb := Lib.hid ((below_alloc_d hb.out hb.out.size _).grown hg4 (below_alloc_d hb.out hb.out.size _).size (fun g' e => (ho.out.lt g' e).1)); have ho := Lib.hid ho4; clear ho4 hg4))
      all_goals (
        go_wp2
        go_roundg g
        case measure => omega
        case rel =>
          have hs20 := hsz20.out
          refine ⟨k + 1, N + 1 + (numT u).size, by omega, by go_num, by omega, ?_, hb5.out⟩
          have e5 : word.data.toList ++ tailL (l.take (k + 1)) = word.data.toList ++ tailL (l.take k) ++ [32] ++ (numT u).data.toList := by
            have e6 : l.take (k + 1) = l.take k ++ [(u : Int)] := by rw [List.take_add_one, hx'.out]; rfl
            rw [e6, tailL_snoc]
            simp [numT]
          rw [e5]
          exact ho5'.out)
end Go.Proofs.YtkbmckmlnphpmaaGreatDoor
