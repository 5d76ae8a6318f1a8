/- What a line of words says: Unwords. -/
import Derived.Test.YtkbmckmlnphpmaaGreatDoorJ
set_option linter.unusedSimpArgs false
set_option linter.unusedVariables false
namespace Go.Proofs.YtkbmckmlnphpmaaGreatDoor
open Go.RowKit Go.Lib Go.Shelf

def numsM : List ByteArray → Option (List Int)
  | [] => some []
  | x :: xs => match numI x with | none => none | some u => (numsM xs).map fun l => (u : Int) :: l
theorem numsM_snoc : ∀ (xs : List ByteArray) (y : ByteArray) (L : List Int) (u : Nat), numsM xs = some L → numI y = some u → numsM (xs ++ [y]) = some (L ++ [(u : Int)])
  | [], y, L, u, h, hy => by cases h; simp [numsM, hy]
  | x :: xs, y, L, u, h, hy => by
    unfold numsM at h
    cases hx : numI x with
    | none => rw [hx] at h; cases h
    | some v =>
      rw [hx] at h
      cases hm : numsM xs with
      | none => rw [hm] at h; cases h
      | some l =>
        rw [hm] at h
        cases h
        show numsM (x :: (xs ++ [y])) = _
        unfold numsM
        rw [hx, numsM_snoc xs y l u hm hy]
        rfl
theorem numsM_none : ∀ (xs : List ByteArray) (y : ByteArray), y ∈ xs → numI y = none → numsM xs = none
  | [], y, h, _ => by cases h
  | x :: xs, y, h, hy => by
    unfold numsM
    rcases List.mem_cons.1 h with rfl | h
    · rw [hy]
    · cases hx : numI x with
      | none => rfl
      | some v => dsimp only; rw [numsM_none xs y h hy]; rfl
theorem numsM_range : ∀ (xs : List ByteArray) (L : List Int), numsM xs = some L → ∀ x ∈ L, 0 ≤ x ∧ x ≤ 18446744073709551615
  | [], L, h => by cases h; intro x hx; cases hx
  | y :: xs, L, h => by
    unfold numsM at h
    cases hx : numI y with
    | none => rw [hx] at h; cases h
    | some v =>
      rw [hx] at h
      cases hm : numsM xs with
      | none => rw [hm] at h; cases h
      | some l =>
        rw [hm] at h
        cases h
        intro x hx2
        rcases List.mem_cons.1 hx2 with rfl | h2
        · have := numI_lt hx; omega
        · exact numsM_range xs l hm x h2
/-- what a line of words says -/
def unwM (s : ByteArray) : Option (ByteArray × List Int) := if wordB ((partsB s).headD ⟨#[]⟩) then (numsM (partsB s).tail).map fun l => ((partsB s).headD ⟨#[]⟩, l) else none

theorem parts_pos (s : ByteArray) : 0 < (partsB s).length := by
  unfold partsB
  rw [List.length_map]
  exact List.length_pos_iff.2 (partsF_ne _ _)
theorem parts_count (s : ByteArray) : (partsB s).length = countB s ⟨#[32]⟩ + 1 := by unfold partsB; rw [List.length_map, parts_len]
theorem parts_le (s : ByteArray) : (partsB s).length ≤ s.size + 1 := by
  have h := countB_le ⟨#[32]⟩ (Nat.le_refl 1) s.size s (Nat.le_refl _)
  rw [parts_count]; omega
theorem parts_sizeF (c : UInt8) : ∀ (l p : List UInt8), p ∈ partsF c l → p.length ≤ l.length
  | [], p, h => by
    have : p = [] := by simpa [partsF] using h
    subst this; simp
  | b :: l, p, h => by
    have hne := partsF_ne c l
    unfold partsF at h
    split at h
    · rcases List.mem_cons.1 h with rfl | h
      · simp
      · have := parts_sizeF c l p h
        simp; omega
    · cases hl : partsF c l with
      | nil => exact absurd hl hne
      | cons q r =>
        rw [hl] at h
        rcases List.mem_cons.1 h with rfl | h
        · have := parts_sizeF c l q (by rw [hl]; simp)
          simp; omega
        · have := parts_sizeF c l p (by rw [hl]; simp at h; simp [h])
          simp; omega
theorem parts_size (s x : ByteArray) (h : x ∈ partsB s) : x.size ≤ s.size := by
  unfold partsB at h
  obtain ⟨p, hp, rfl⟩ := List.mem_map.1 h
  have := parts_sizeF 32 _ p hp
  rw [size_list] at this
  show p.toArray.size ≤ _
  simpa using this

/-- new words -/
def WNew (b0 : Nat) (w : World) (A : Option Addr) (ws : List Int) : Prop :=
  (∀ x ∈ ws, 0 ≤ x ∧ x ≤ 18446744073709551615) ∧ (0 < ws.length → ∃ blk, A = some ⟨blk, 0, none⟩ ∧ b0 ≤ blk ∧ ∀ i x, ws[i]? = some x → w.cell? ⟨blk, i, none⟩ = some (.int .u64 x))
theorem WNew.wat {b0 : Nat} {w : World} {A : Option Addr} {ws : List Int} (h : WNew b0 w A ws) : WAt w A ws := ⟨h.1, fun hn => by
  obtain ⟨blk, e, _, hc⟩ := h.2 hn
  exact ⟨blk, 0, e, fun i x hx => by rw [Nat.zero_add]; exact hc i x hx⟩⟩
theorem WNew.mono {b0 b1 : Nat} {w : World} {A : Option Addr} {ws : List Int} (h : WNew b0 w A ws) (hb : b1 ≤ b0) : WNew b1 w A ws := ⟨h.1, fun hn => by
  obtain ⟨blk, e, h2, hc⟩ := h.2 hn
  exact ⟨blk, e, by omega, hc⟩⟩
def wCells (l : List Int) : List Value := l.map (.int .u64)
theorem own_WNew {w : World} {b0 : Nat} {s : Value} {n : Nat} {l : List Int} (h : w.ownsRow b0 40 1 s n (wCells l)) (hL : l.length = n) (hr : ∀ x ∈ l, 0 ≤ x ∧ x ≤ 18446744073709551615) :
    ∃ A c, s = .slice A n c ∧ WNew b0 w A l := by
  obtain ⟨A, c, hv, hA⟩ := own_at h (by rw [wCells, List.length_map]; exact hL)
  refine ⟨A, c, hv, hr, fun h0 => ?_⟩
  obtain ⟨g, h1, h2, h3, h4⟩ := hA (by omega)
  exact ⟨g, h1, h2, fun i x hx => h4 i _ (by rw [wCells, List.getElem?_map, hx]; rfl)⟩
def UnwPost (enc : Bool → Value) (s : ByteArray) (w : World) (e : Ending) (w' : World) : Prop :=
  (unwM s = none → e = .returned (.tuple #[.string ⟨#[]⟩, .slice none 0 0, enc false])) ∧ (∀ p l, unwM s = some (p, l) → ∃ A c, e = .returned (.tuple #[.string p, .slice A l.length c, enc true]) ∧ WNew w.heap.size w' A l) ∧ Below w.heap.size w w'
def encE (b : Bool) : Value := .int .i64 (if b then 0 else 15)
theorem info40 : (Tryz.prog.info? 40).map (fun i => (i.zero, i.size, i.bytes)) = some (some (.int .u64 0), 1, 8) := by kernel_rfl
theorem und22 : Tryz.prog.underlying 22 = some (.slice 40) := by kernel_rfl

theorem unw_pos {s : ByteArray} {p : ByteArray} (hp : (partsB s)[0]? = some p) : unwM s = if wordB p then (numsM (partsB s).tail).map fun l => (p, l) else none := by
  unfold unwM
  have : (partsB s).headD ⟨#[]⟩ = p := by
    cases hl : partsB s with
    | nil => rw [hl] at hp; cases hp
    | cons a b => rw [hl] at hp; simpa using hp
  rw [this]

set_option maxRecDepth 100000 in
set_option maxHeartbeats 2000000 in
theorem unwords_any (s : ByteArray) (w : World) (hE : Env w) (hs : s.size ≤ 1000000) : Calls Tryz.prog 18 #[.string s] w (UnwPost encE s w) := by
  obtain ⟨i0, hi, hz0, hz1, hz2⟩ := info_parts info40
  have hi' := Lib.hid (And.intro hi (And.intro hz0 (And.intro hz1 hz2)))
  clear hi hz0 hz1 hz2
  obtain ⟨m, hm⟩ := hE.mx
  have hsp := Tryz.strings_Split s ⟨#[32]⟩ m w (by omega) hm (Nat.le_refl 1)
  rw [splitB_parts] at hsp
  rw [← parts_count] at hsp
  obtain ⟨N, hN⟩ : ∃ N, (partsB s).length = N + 1 := ⟨(partsB s).length - 1, by have := parts_pos s; omega⟩
  rw [hN] at hsp
  have hNle : N ≤ 1000000 := by have := parts_le s; omega
  have hsp' := Lib.hid (show Calls Tryz.prog 52 #[.string s, .string ⟨#[32]⟩] w fun e w' => e = .returned (.slice (some ⟨w.heap.size, 0, none⟩) (N + 1) (N + 1)) ∧ w' = w.alloc (.cells ((partsB s).map Value.string).toArray 9) from hsp)
  clear hsp hm
  have hN' := Lib.hid hN
  clear hN
  have hb1 := Lib.hid ((Below.refl w.heap.size w).alloc (Nat.le_refl _) (.cells ((partsB s).map Value.string).toArray 9))
  have hE' := Lib.hid hE
  clear hE
  have hc1 := Lib.hid (fun i x (hx : (partsB s)[i]? = some x) => show (w.alloc (.cells ((partsB s).map Value.string).toArray 9)).cell? ⟨w.heap.size, i, none⟩ = some (.string x) by
    rw [blk_cell (heap_alloc_new w _)]
    rw [List.getElem?_toArray, List.getElem?_map, hx]; rfl)
  have hsz1 := Lib.hid (show (w.alloc (.cells ((partsB s).map Value.string).toArray 9)).heap.size = w.heap.size + 1 by simp)
  obtain ⟨w1, hw1⟩ : ∃ w1, w.alloc (.cells ((partsB s).map Value.string).toArray 9) = w1 := ⟨_, rfl⟩
  rw [hw1] at hsp' hb1 hc1 hsz1
  clear hw1
  obtain ⟨p, hp⟩ : ∃ p, (partsB s)[0]? = some p := ⟨_, List.getElem?_eq_getElem (parts_pos s)⟩
  have hps : p.size ≤ 1000000 := Nat.le_trans (parts_size s p (List.mem_of_getElem? hp)) hs
  have hu := Lib.hid (unw_pos hp)
  have hp' := Lib.hid hp
  have hcp := hc1.out 0 p hp
  clear hp
  have hisw := Lib.hid (isWord_any p w1)
  have hsl : ∃ o : Nat, (0 < N → o = 1) ∧ ∀ W, (Instr.sliceAt 67 (.slice (some ⟨w.heap.size, 0, none⟩) (N + 1) (N + 1)) (some (.int .i64 1)) none none).run Tryz.prog W = .ok (.slice (some ⟨w.heap.size, o, none⟩) N N) W := by
    by_cases h0 : N = 0
    · subst h0
      exact ⟨0, fun h => absurd h (by omega), fun W => by go_simp⟩
    · exact ⟨1, fun _ => rfl, fun W => by
        have : 0 < N := by omega
        go_simp
        intro h
        omega⟩
  obtain ⟨o, ho, hsl⟩ := hsl
  have ho' := Lib.hid ho
  clear ho
  have hu2 := Lib.hid (fun h : wordB p = true => (show unwM s = (numsM (partsB s).tail).map fun l => (p, l) by rw [hu.out, if_pos h]))
  have hu3 := Lib.hid (fun h : wordB p = false => (show unwM s = none by rw [hu.out, if_neg (by rw [h]; simp)]))
  clear hu
  obtain ⟨t, ht⟩ : ∃ t, wordB p = t := ⟨_, rfl⟩
  rw [ht] at hisw
  have ht' := Lib.hid ht
  clear ht
  cases t
  · go_enter Tryz.func18, Tryz.ntmps18
    go_wp2_with fail
    refine hsp'.out.mono ?_
    rintro e w2 ⟨rfl, rfl⟩
    go_wp2_with fail
    refine hisw.out.mono ?_
    rintro e w3 ⟨rfl, hb3⟩
    have hb3' := Lib.hid (Below.next hb1.out hb3)
    clear hb3
    go_wp2
    go_ret3
    exact ⟨fun _ => rfl, (fun p l h => by rw [hu3.out ht'.out] at h; cases h), hb3'.out⟩
  · go_enter Tryz.func18, Tryz.ntmps18
    go_wp2_with fail
    refine hsp'.out.mono ?_
    rintro e w2 ⟨rfl, rfl⟩
    go_wp2_with fail
    refine hisw.out.mono ?_
    rintro e w3 ⟨rfl, hb3⟩
    have hb3' := Lib.hid hb3
    clear hb3
    go_wp2_with fail
    go_loopg [6, 21] N (fun g s6 s21 wr => ∃ (k : Nat) (L : List Int), k + g = N ∧ s21 = .int .i64 k ∧ L.length = k ∧ numsM ((partsB s).tail.take k) = some L ∧ wr.ownsRow w2.heap.size 40 1 s6 k (wCells L) ∧ Below w2.heap.size w2 wr)
    case atStart => exact ⟨0, [], by omega, rfl, rfl, rfl, ⟨rfl, .inl ⟨rfl, rfl⟩⟩, hb3'.out⟩
    case round =>
      obtain ⟨k, L, hkg, rfl, hL, hnm, ho4, hbr⟩ := hrel
      have hnm' := Lib.hid hnm
      have ho4' := Lib.hid ho4
      have hbr' := Lib.hid hbr
      have hL' := Lib.hid hL
      clear hnm ho4 hbr hL
      cases gk with
      | zero =>
        have hkN : k = N := by omega
        subst hkN
        have e0 : ¬ ((k : Int) < (k : Int)) := by omega
        have htl : (partsB s).tail.take k = (partsB s).tail := List.take_of_length_le (by rw [List.length_tail, hN'.out]; omega)
        have hnm2 := hnm'.out
        rw [htl] at hnm2
        obtain ⟨A, c, rfl, hA⟩ := own_WNew ho4'.out hL'.out (numsM_range _ _ hnm2)
        have hA' := Lib.hid hA
        have hnm3 := Lib.hid hnm2
        have hcp2 : wr.cell? ⟨w.heap.size, 0, none⟩ = some (.string p) := (hbr'.out.cell (p := ⟨w.heap.size, 0, none⟩) (cell_some_lt hcp)).trans hcp
        have hfin := Lib.hid (Below.next hb1.out hbr'.out)
        clear hA hnm2 htl
        go_wp2
        go_ret3
        refine ⟨fun h => ?_, fun p2 l2 h => ?_, hfin.out⟩
        · rw [hu2.out ht'.out, hnm3.out] at h; cases h
        · rw [hu2.out ht'.out, hnm3.out] at h
          cases h
          exact ⟨A, c, by rw [hL'.out]; rfl, hA'.out.mono hb1.out.size⟩
      | succ g =>
        have e0 : (k : Int) < (N : Int) := by omega
        have ho1 : o = 1 := ho'.out (by omega)
        subst ho1
        obtain ⟨x, hx⟩ : ∃ x, (partsB s)[1 + k]? = some x := ⟨_, List.getElem?_eq_getElem (by rw [hN'.out]; omega)⟩
        have hcx0 := hc1.out _ _ hx
        have hcx : wr.cell? ⟨w.heap.size, 1 + k, none⟩ = some (.string x) := (hbr'.out.cell (p := ⟨w.heap.size, 1 + k, none⟩) (cell_some_lt hcx0)).trans hcx0
        have hxs : x.size ≤ 1000000 := Nat.le_trans (parts_size s x (List.mem_of_getElem? hx)) hs
        have hxt := Lib.hid (show (partsB s).tail[k]? = some x by rw [List.getElem?_tail, Nat.add_comm]; exact hx)
        have hnum := number_any x wr (hE'.out.below (Below.next hb1.out hbr'.out)) hxs
        clear hx hcx0
        cases hn : numI x with
        | none =>
          have hbad := Lib.hid (show unwM s = none by rw [hu2.out ht'.out, numsM_none _ x (List.mem_of_getElem? hxt.out) hn]; rfl)
          have hnum2 := Lib.hid (hnum.mono (fun e w' h => (show ∃ v : Nat, e = .returned (.tuple #[.int .u64 v, .bool false]) ∧ Below wr.heap.size wr w' by
            obtain ⟨v, h1, _, _, h4⟩ := h
            rw [hn] at h1
            exact ⟨v, h1, h4⟩)))
          clear hnum hn
          go_wp2_with fail
          refine hnum2.out.mono ?_
          rintro e w4 ⟨v, rfl, hb4⟩
          have hfin := Lib.hid (Below.next hb1.out (Below.next hbr'.out hb4))
          clear hb4
          go_wp2
          go_ret3
          exact ⟨fun _ => rfl, (fun p l h => by rw [hbad.out] at h; cases h), hfin.out⟩
        | some u =>
          have hnum2 := Lib.hid (hnum.mono (fun e w' h => (show e = .returned (.tuple #[.int .u64 u, .bool true]) ∧ Below wr.heap.size wr w' by
            obtain ⟨v, h1, h2, _, h4⟩ := h
            rw [hn] at h1
            rw [h2 u hn] at h1
            exact ⟨h1, h4⟩)))
          have hnx := Lib.hid hn
          clear hnum hn
          go_wp2_with fail
          refine hnum2.out.mono ?_
          rintro e w4 ⟨rfl, hb4⟩
          have hb4' := Lib.hid hb4
          have hsz4 := hb4.size
          have hszr := hbr'.out.size
          have hsz2 := hsz1.out
          have hown := Lib.hid ((show w4.ownsRow w2.heap.size 40 1 u6 k (wCells L) from ho4'.out.kept (row := none) ⟨hb4.os, hb4.tape, hb4.output, hb4.size, fun i hi _ => hb4.block i hi⟩ (Classical.em _)).alloc (.cells #[.int .u64 u] 40))
          have hnew := Lib.hid (cell_one_new w4 (.int .u64 u) 40)
          have hbA := Lib.hid ((Below.refl w4.heap.size w4).alloc (Nat.le_refl _) (.cells #[.int .u64 u] 40))
          have hone := Lib.hid (show ∀ v ∈ [Value.int .u64 (u : Int)], v.oneCell' = true by simp [Value.oneCell'])
          have hbs := Lib.hid (show w2.heap.size ≤ (w4.alloc (.cells #[.int .u64 u] 40)).heap.size by simp; omega)
          have hk1 := Lib.hid (show k + 1 ≤ maxLen by unfold maxLen; omega)
          have hk2 := Lib.hid (show (k + 1) * 8 ≤ 140737488355328 by omega)
          obtain ⟨hj1, hj2, hj3, hj4⟩ := hi'.out
          clear hb4 hcx
          go_wp2_with ((at_builtin; refine wpList_append_own_at _ rfl _ _ 22 rfl w2.heap.size 40 i0 _ 1 8 und22 hj1 hj2 hj3 hj4 rfl (by decide) u6 k (wCells L) rfl hown.out ⟨w4.heap.size, 0, none⟩ 1 1 [.int .u64 u] rfl rfl hnew.out hone.out hk1.out hk2.out hbs.out ?_; intro v' w5 hown5 hg5 hnil5 hat5))
          have hB5 : Below w2.heap.size w2 w5 := (Below.next (Below.next hbr'.out hb4'.out) hbA.out).grown hg5 (by simp; omega) (fun g' e => (hown.out.lt g' e).1)
          have hB5' := Lib.hid hB5
          have hown5' := Lib.hid hown5
          clear hB5 hown5 hg5 hnil5 hat5
          go_wp2
          go_roundg g
          case measure => omega
          case rel =>
            refine ⟨k + 1, L ++ [(u : Int)], by omega, by go_num, by simp [hL'.out], ?_, ?_, hB5'.out⟩
            · rw [List.take_add_one, hxt.out]
              exact numsM_snoc _ x L u hnm'.out hnx.out
            · simpa [wCells] using hown5'.out
end Go.Proofs.YtkbmckmlnphpmaaGreatDoor
