/- The reference's split: the parts of a line. -/
import Derived.Test.YtkbmckmlnphpmaaGreatDoorI
set_option linter.unusedSimpArgs false
set_option linter.unusedVariables false
namespace Go.Proofs.YtkbmckmlnphpmaaGreatDoor
open Go.RowKit Go.Lib Go.Shelf

def partsB (s : ByteArray) : List ByteArray := (partsF 32 s.data.toList).map fun l => ⟨l.toArray⟩
theorem parts_snoc (c b : UInt8) : ∀ (l : List UInt8) (P : List (List UInt8)) (q : List UInt8), partsF c l = P ++ [q] → partsF c (l ++ [b]) = if b = c then P ++ [q, []] else P ++ [q ++ [b]]
  | [], P, q, h => by
    have h : [[]] = P ++ [q] := h
    cases P with
    | nil =>
      have : q = [] := by simpa using h.symm
      subst this
      by_cases hb : b = c
      · subst hb; simp [partsF]
      · simp [partsF, hb]
    | cons p P => have := congrArg List.length h; simp at this
  | d :: l, P, q, h => by
    have hne := partsF_ne c l
    obtain ⟨P', q', h'⟩ : ∃ P' q', partsF c l = P' ++ [q'] := ⟨_, _, (List.dropLast_concat_getLast hne).symm⟩
    have ih := parts_snoc c b l P' q' h'
    by_cases hd : d = c
    · subst hd
      have h1 : partsF d (d :: l) = [] :: partsF d l := by simp [partsF]
      have h2 : partsF d (d :: l ++ [b]) = [] :: partsF d (l ++ [b]) := by simp [partsF]
      rw [h1, h'] at h
      have h3 : ([] :: P') ++ [q'] = P ++ [q] := h
      obtain ⟨e1, e2⟩ := List.append_inj' h3 rfl
      have e3 : q' = q := by simpa using e2
      subst e1 e3
      rw [h2, ih]
      split <;> rfl
    · have h1 : partsF c (d :: l) = (d :: (partsF c l).headD []) :: (partsF c l).tail := by simp [partsF, hd]
      have h2 : partsF c (d :: l ++ [b]) = (d :: (partsF c (l ++ [b])).headD []) :: (partsF c (l ++ [b])).tail := by simp [partsF, hd]
      rw [h2, ih]
      rw [h1, h'] at h
      cases P' with
      | nil =>
        have h4 : [d :: q'] = P ++ [q] := h
        cases P with
        | nil =>
          have : d :: q' = q := by simpa using h4
          subst this
          split <;> simp
        | cons p P => have := congrArg List.length h4; simp at this
      | cons p P' =>
        have h4 : ((d :: p) :: P') ++ [q'] = P ++ [q] := h
        obtain ⟨e1, e2⟩ := List.append_inj' h4 rfl
        have e3 : q' = q := by simpa using e2
        subst e1 e3
        split <;> simp
/-- a slice that reads as texts -/
def SAt (w : World) (A : Option Addr) (ss : List ByteArray) : Prop :=
  0 < ss.length → ∃ blk off, A = some ⟨blk, off, none⟩ ∧ ∀ i x, ss[i]? = some x → w.cell? ⟨blk, off + i, none⟩ = some (.string x)
theorem SAt.below {w w' : World} {A : Option Addr} {ss : List ByteArray} (h : SAt w A ss) (hb : Below w.heap.size w w') : SAt w' A ss := by
  intro hn
  obtain ⟨blk, off, e, hc⟩ := h hn
  exact ⟨blk, off, e, fun i x hx => (hb.cell (p := ⟨blk, off + i, none⟩) (cell_some_lt (hc i x hx))).trans (hc i x hx)⟩
theorem SAt.at_ {w : World} {A : Option Addr} {ss : List ByteArray} (h : SAt w A ss) {k : Nat} (hk : k < ss.length) :
    ∃ blk off x, A = some ⟨blk, off, none⟩ ∧ ss[k]? = some x ∧ w.cell? ⟨blk, off + k, none⟩ = some (.string x) := by
  obtain ⟨blk, off, e, hc⟩ := h (by omega)
  have e1 : ss[k]? = some ss[k] := List.getElem?_eq_getElem hk
  exact ⟨blk, off, _, e, e1, hc k _ e1⟩
/-- what owns a row reads as it -/
theorem own_at {w : World} {b0 : Nat} {t : TypeId} {s : Value} {n : Nat} {L : List Value} (h : w.ownsRow b0 t 1 s n L) (hL : L.length = n) :
    ∃ A c, s = .slice A n c ∧ (0 < n → ∃ g, A = some ⟨g, 0, none⟩ ∧ b0 ≤ g ∧ g < w.heap.size ∧ ∀ i v, L[i]? = some v → w.cell? ⟨g, i, none⟩ = some v) := by
  obtain ⟨hcl, hcase⟩ := h
  rcases hcase with ⟨hv, h0⟩ | ⟨g, cap, cur, hv, hg, hh, hcap, hm, hs, ht⟩
  · subst h0
    exact ⟨none, 0, hv, fun h => absurd h (by omega)⟩
  · refine ⟨_, _, hv, fun _ => ⟨g, rfl, hg, blk_lt hh, fun i v hi => ?_⟩⟩
    have hil : i < n := by rw [← hL]; exact (List.getElem?_eq_some_iff.1 hi).1
    rw [blk_cell hh]
    rw [← ht, Nat.mul_one, List.getElem?_take, if_pos hil] at hi
    simpa using hi
theorem own_SAt {w : World} {b0 : Nat} {s : Value} {n : Nat} {ss : List ByteArray} (h : w.ownsRow b0 9 1 s n (sCells ss)) (hL : ss.length = n) :
    ∃ A c, s = .slice A n c ∧ SAt w A ss := by
  obtain ⟨A, c, hv, hA⟩ := own_at h (by rw [sCells, List.length_map]; exact hL)
  refine ⟨A, c, hv, fun h0 => ?_⟩
  obtain ⟨g, h1, h2, h3, h4⟩ := hA (by omega)
  exact ⟨g, 0, h1, fun i x hx => by rw [Nat.zero_add]; exact h4 i _ (by rw [sCells, List.getElem?_map, hx]; rfl)⟩
def SlPost (ss : List ByteArray) (w : World) (e : Ending) (w' : World) : Prop := ∃ A c, e = .returned (.slice A ss.length c) ∧ SAt w' A ss ∧ Below w.heap.size w w'

theorem extract_list (s : ByteArray) (a b : Nat) : (s.extract a b).data.toList = (s.data.toList.take b).drop a := by
  rw [extract_data, List.drop_take]
theorem ext_bytes {a b : ByteArray} (h : a.data.toList = b.data.toList) : a = b := by
  cases a; cases b
  simp at h
  rw [h]

set_option maxRecDepth 100000 in
set_option maxHeartbeats 2000000 in
theorem split_any (s : ByteArray) (w : World) (hs : s.size ≤ 1000000) : Calls Tryz.prog 54 #[.string s] w (SlPost (partsB s) w) := by
  obtain ⟨i0, hi, hz0, hz1, hz2⟩ := info_parts info9
  have hi' := Lib.hid (And.intro hi (And.intro hz0 (And.intro hz1 hz2)))
  clear hi hz0 hz1 hz2
  go_enter Tryz.func54, Tryz.ntmps54
  go_wp2_with fail
  go_loopg [3, 4, 5] (s.size + 1) (fun g s3 s4 s5 wr => ∃ (k a n : Nat) (L : List ByteArray), k + g = s.size + 1 ∧ s5 = .int .i64 k ∧ s4 = .int .i64 a ∧ L.length = n ∧ n ≤ k ∧ wr.ownsRow w.heap.size 9 1 s3 n (sCells L) ∧ (k ≤ s.size → a ≤ k ∧ partsF 32 (s.data.toList.take k) = L.map (·.data.toList) ++ [(s.data.toList.take k).drop a]) ∧ (k = s.size + 1 → L = partsB s) ∧ Below w.heap.size w wr)
  case atStart => exact ⟨0, 0, 0, [], by omega, rfl, rfl, rfl, by omega, ⟨rfl, .inl ⟨rfl, rfl⟩⟩, fun _ => ⟨by omega, rfl⟩, fun h => by omega, Below.refl _ _⟩
  case round =>
    obtain ⟨k, a, n, L, hkg, rfl, rfl, hL, hnk, ho, hp, hq, hb⟩ := hrel
    have hp' := Lib.hid hp
    have hq' := Lib.hid hq
    have ho' := Lib.hid ho
    have hb' := Lib.hid hb
    have hL' := Lib.hid hL
    clear hp hq ho hb hL
    cases gk with
    | zero =>
      have e0 : ¬ ((k : Int) ≤ (s.size : Int)) := by omega
      have hLe := hq'.out (by omega)
      obtain ⟨A, c, rfl, hA⟩ := own_SAt ho'.out hL'.out
      have hA' := Lib.hid hA
      have hl2 := Lib.hid (show (partsB s).length = n by rw [← hLe]; exact hL'.out)
      have hLe' := Lib.hid hLe
      clear hA hLe
      go_wp2
      go_ret
      exact ⟨A, c, by rw [hl2.out]; rfl, by rw [← hLe'.out]; exact hA'.out, hb'.out⟩
    | succ g =>
      have e0 : (k : Int) ≤ (s.size : Int) := by omega
      obtain ⟨hak, hpk⟩ := hp'.out (by omega)
      have hpk' := Lib.hid hpk
      clear hpk
      have hown := Lib.hid ((show wr.ownsRow w.heap.size 9 1 u3 n (sCells L) from ho'.out).alloc (.cells #[.string (s.extract a k)] 9))
      have hnew := Lib.hid (cell_one_new wr (.string (s.extract a k)) 9)
      have hbA := Lib.hid ((Below.refl wr.heap.size wr).alloc (Nat.le_refl _) (.cells #[.string (s.extract a k)] 9))
      have hone := Lib.hid (show ∀ v ∈ [Value.string (s.extract a k)], v.oneCell' = true by simp [Value.oneCell'])
      have hszw := hb'.out.size
      have hbs := Lib.hid (show w.heap.size ≤ (wr.alloc (.cells #[.string (s.extract a k)] 9)).heap.size by simp; omega)
      have hk1 := Lib.hid (show n + 1 ≤ maxLen by unfold maxLen; omega)
      have hk2 := Lib.hid (show (n + 1) * 16 ≤ 140737488355328 by omega)
      have hak2 : (a : Int) ≤ (k : Int) := by omega
      obtain ⟨hj1, hj2, hj3, hj4⟩ := hi'.out
      by_cases hend : k = s.size
      · subst hend
        have e2 : ((s.size : Int) = (s.size : Int)) := rfl
        go_wp2_with ((at_builtin; refine wpList_append_own_at _ rfl _ _ 67 rfl w.heap.size 9 i0 _ 1 16 und67 hj1 hj2 hj3 hj4 rfl (by decide) u3 n (sCells L) rfl hown.out ⟨wr.heap.size, 0, none⟩ 1 1 [.string (s.extract a s.size)] rfl rfl hnew.out hone.out hk1.out hk2.out hbs.out ?_; intro v' w4 hown4 hg4 hnil4 hat4))
        have hB4 : Below w.heap.size w w4 := (Below.next hb'.out hbA.out).grown hg4 (by simp; omega) (fun g' e => (hown.out.lt g' e).1)
        have hB4' := Lib.hid hB4
        have hown4' := Lib.hid hown4
        clear hB4 hown4 hg4 hnil4 hat4
        go_wp2
        go_roundg g
        case measure => omega
        case rel =>
          refine ⟨s.size + 1, s.size + 1, n + 1, L ++ [s.extract a s.size], by omega, by go_num, by go_num, by simp [hL'.out], by omega, ?_, fun h => absurd h (by omega), fun _ => ?_, hB4'.out⟩
          · simpa [sCells] using hown4'.out
          · have h1 := hpk'.out
            have htk : s.data.toList.take s.size = s.data.toList := List.take_of_length_le (by rw [size_list]; exact Nat.le_refl _)
            unfold partsB
            rw [htk] at h1
            rw [h1, List.map_append, List.map_map]
            have e1 : (L.map ((fun l : List UInt8 => (⟨l.toArray⟩ : ByteArray)) ∘ fun x : ByteArray => x.data.toList)) = L := by
              have : ((fun l : List UInt8 => (⟨l.toArray⟩ : ByteArray)) ∘ fun x : ByteArray => x.data.toList) = id := by funext x; simp
              rw [this, List.map_id]
            rw [e1]
            congr 1
            simp only [List.map_cons, List.map_nil]
            congr 1
            apply ext_bytes
            rw [extract_list, htk]
      · have hks : k < s.size := by omega
        have e2 : ¬ ((k : Int) = (s.size : Int)) := by omega
        by_cases hsp : (s[k]'hks).toNat = 32
        · have e3 : ((s[k]'hks).toNat : Int) = 32 := by omega
          have htn := Lib.hid (take_next s k hks)
          have hb32 := Lib.hid (show s[k]'hks = 32 from UInt8.toNat_inj.1 hsp)
          go_wp2_with ((at_builtin; refine wpList_append_own_at _ rfl _ _ 67 rfl w.heap.size 9 i0 _ 1 16 und67 hj1 hj2 hj3 hj4 rfl (by decide) u3 n (sCells L) rfl hown.out ⟨wr.heap.size, 0, none⟩ 1 1 [.string (s.extract a k)] rfl rfl hnew.out hone.out hk1.out hk2.out hbs.out ?_; intro v' w4 hown4 hg4 hnil4 hat4))
          have hB4 : Below w.heap.size w w4 := (Below.next hb'.out hbA.out).grown hg4 (by simp; omega) (fun g' e => (hown.out.lt g' e).1)
          have hB4' := Lib.hid hB4
          have hown4' := Lib.hid hown4
          clear hB4 hown4 hg4 hnil4 hat4
          go_wp2
          go_roundg g
          case measure => omega
          case rel =>
            refine ⟨k + 1, k + 1, n + 1, L ++ [s.extract a k], by omega, by go_num, by go_num, by simp [hL'.out], by omega, ?_, fun h => ⟨by omega, ?_⟩, fun h => absurd h (by omega), hB4'.out⟩
            · simpa [sCells] using hown4'.out
            · have h1 := parts_snoc 32 (s[k]'hks) _ _ _ hpk'.out
              rw [if_pos hb32.out, ← htn.out] at h1
              rw [h1, List.map_append, List.append_assoc]
              congr 1
              simp only [List.map_cons, List.map_nil, List.cons_append, List.nil_append]
              rw [extract_list]
              congr 2
              rw [List.drop_eq_nil_of_le (by rw [List.length_take]; omega)]
        · have e3 : ¬ ((s[k]'hks).toNat : Int) = 32 := by omega
          have e4 : ((k : Int) == (s.size : Int)) = false := by simpa using e2
          have e5 : (((s[k]'hks).toNat : Int) == 32) = false := by simpa using e3
          have htn := Lib.hid (take_next s k hks)
          have hb32 := Lib.hid (show ¬ s[k]'hks = 32 from fun e => hsp (by rw [e]; rfl))
          go_wp2
          go_roundg g
          case measure => omega
          case rel =>
            refine ⟨k + 1, a, n, L, by omega, by go_num, rfl, hL'.out, by omega, ho'.out, fun h => ⟨by omega, ?_⟩, fun h => absurd h (by omega), hb'.out⟩
            have h1 := parts_snoc 32 (s[k]'hks) _ _ _ hpk'.out
            rw [if_neg hb32.out, ← htn.out] at h1
            rw [h1, htn.out]
            congr 2
            rw [List.drop_append_of_le_length (by rw [List.length_take, size_list]; omega)]
end Go.Proofs.YtkbmckmlnphpmaaGreatDoor
