/- The reference's Unseen. -/
import Derived.Test.YtkbmckmlnphpmaaGreatDoorAG
import Derived.Test.YtkbmckmlnphpmaaGreatDoorL
set_option linter.unusedSimpArgs false
set_option linter.unusedVariables false
namespace Go.Proofs.YtkbmckmlnphpmaaGreatDoor
open Go.RowKit Go.Lib Go.Shelf

def RUnsPost (s : ByteArray) (w : World) (e : Ending) (w' : World) : Prop :=
  (unseenM s = none → e = .returned (.tuple #[.slice none 0 0, .bool false])) ∧ (∀ L, unseenM s = some L → ∃ A c, e = .returned (.tuple #[.slice A L.length c, .bool true]) ∧ SnAt w' A L) ∧ Below w.heap.size w w'

set_option maxRecDepth 100000 in
set_option maxHeartbeats 2000000 in
theorem refUnseen_empty (s : ByteArray) (w : World) (hs : s.size = 0) : Calls Tryz.prog 28 #[.string s] w (RUnsPost s w) := by
  have hem : s.toList.isEmpty = true := by
    rw [ByteArray.toList_eq]
    have := size_list s
    rw [List.isEmpty_iff]
    exact List.length_eq_zero_iff.1 (by omega)
  have hm := Lib.hid (show unseenM s = some [] by unfold unseenM; rw [if_pos hs])
  clear hs
  go_enter Tryz.func28, Tryz.ntmps28
  go_wp2
  go_ret2
  refine ⟨fun h => ?_, fun L h => ?_, Below.refl _ _⟩
  · rw [hm.out] at h; cases h
  · rw [hm.out] at h
    cases h
    exact ⟨none, 0, rfl, snAt_nil _⟩

set_option maxRecDepth 100000 in
set_option maxHeartbeats 4000000 in
theorem refUnseen_some (s : ByteArray) (w : World) (hz : s.size ≠ 0) (hs : s.size ≤ 1000000) : Calls Tryz.prog 28 #[.string s] w (RUnsPost s w) := by
  obtain ⟨i0, hi, hz0, hz1, hz2⟩ := info_parts info84
  have hi' := Lib.hid (And.intro hi (And.intro hz0 (And.intro hz1 hz2)))
  clear hi hz0 hz1 hz2
  have hem : s.toList.isEmpty = false := by
    rw [ByteArray.toList_eq]
    have := size_list s
    cases hl : s.data.toList with
    | nil => rw [hl] at this; exact absurd this.symm hz
    | cons a b => rfl
  have hm := Lib.hid (show unseenM s = unsL (partsB s) by unfold unseenM; rw [if_neg hz])
  clear hz
  obtain ⟨N, hN⟩ : ∃ N, (partsB s).length = N := ⟨_, rfl⟩
  have hNle : N ≤ 1000001 := by have := parts_le s; omega
  have hsp := split_any s w hs
  unfold SlPost at hsp
  rw [hN] at hsp
  have hsp' := Lib.hid hsp
  have hN' := Lib.hid hN
  have hpos : 0 < N := by rw [← hN]; exact parts_pos s
  clear hsp hN
  go_enter Tryz.func28, Tryz.ntmps28
  go_wp2_with fail
  refine hsp'.out.mono ?_
  rintro e w2 ⟨A, c, rfl, hA, hb1⟩
  obtain ⟨blk, off, rfl, hc⟩ := hA (by rw [hN'.out]; omega)
  have hc1 := Lib.hid hc
  have hb1' := Lib.hid hb1
  clear hc hb1 hA
  go_wp2_with fail
  go_loopg [5, 6] N (fun g s5 s6 wr => ∃ (k : Nat) (L : List Sn), k + g = N ∧ s6 = .int .i64 k ∧ L.length = k ∧ unsL ((partsB s).take k) = some L ∧ wr.ownsRow w2.heap.size 84 3 s5 k (snCells L) ∧ Below w2.heap.size w2 wr)
  case atStart => exact ⟨0, [], by omega, rfl, rfl, rfl, ⟨rfl, .inl ⟨rfl, rfl⟩⟩, Below.refl _ _⟩
  case round =>
    obtain ⟨k, L, hkg, rfl, hL, hnm, ho5, hbr⟩ := hrel
    have hnm' := Lib.hid hnm
    have ho5' := Lib.hid ho5
    have hbr' := Lib.hid hbr
    have hL' := Lib.hid hL
    clear hnm ho5 hbr hL
    cases gk with
    | zero =>
      have hkN : k = N := by omega
      have e0 : ¬ ((k : Int) < (N : Int)) := by omega
      have hmm := Lib.hid (show unseenM s = some L by
        have h := hnm'.out
        rw [List.take_of_length_le (by rw [hN'.out]; omega)] at h
        rw [hm.out, h])
      obtain ⟨A, c, rfl, hA⟩ := own_SnAt (by rw [hL'.out]; exact ho5'.out) (unsL_range _ _ hnm'.out)
      have hA' := Lib.hid hA
      have hfin := Lib.hid (Below.next hb1'.out hbr'.out)
      clear hA
      go_wp2
      go_ret2
      refine ⟨fun h => ?_, fun L2 h => ?_, hfin.out⟩
      · rw [hmm.out] at h; cases h
      · rw [hmm.out] at h
        cases h
        exact ⟨A, c, rfl, hA'.out⟩
    | succ g =>
      have e0 : (k : Int) < (N : Int) := by omega
      obtain ⟨x, hx⟩ : ∃ x, (partsB s)[k]? = some x := ⟨_, List.getElem?_eq_getElem (by rw [hN'.out]; omega)⟩
      have hcx0 := hc1.out _ _ hx
      have hcx : wr.cell? ⟨blk, off + k, none⟩ = some (.string x) := (hbr'.out.cell (p := ⟨blk, off + k, none⟩) (cell_some_lt hcx0)).trans hcx0
      have hxs : x.size ≤ 1000000 := Nat.le_trans (parts_size s x (List.mem_of_getElem? hx)) hs
      have hx' := Lib.hid hx
      have hnum := refNumber_any x wr hxs
      clear hx hcx0
      by_cases hj1 : x = j1W
      · have c1 : (x.toList == [106, 49]) = true := by rw [hj1, ByteArray.toList_eq]; decide
        have hux := Lib.hid (show unsT x = some ⟨true, true, 0⟩ by rw [hj1]; decide)
        clear hnum hj1
        have hown := Lib.hid ((show wr.ownsRow w2.heap.size 84 3 u5 k (snCells L) from ho5'.out).alloc (.cells #[.bool true, .bool true, .int .u64 0] 84))
        have hnew := Lib.hid (new3 wr (.bool true) (.bool true) (.int .u64 0) 84)
        have hbA := Lib.hid ((Below.refl wr.heap.size wr).alloc (Nat.le_refl _) (.cells #[.bool true, .bool true, .int .u64 0] 84))
        have hone := Lib.hid (show ∀ v ∈ [Value.bool true, .bool true, .int .u64 0], v.oneCell' = true by simp [Value.oneCell'])
        have hszr := hbr'.out.size
        have hbs := Lib.hid (show w2.heap.size ≤ (wr.alloc (.cells #[.bool true, .bool true, .int .u64 0] 84)).heap.size by simp; omega)
        have hk1 := Lib.hid (show k + 1 ≤ maxLen by unfold maxLen; omega)
        have hk2 := Lib.hid (show (k + 1) * 16 ≤ 140737488355328 by omega)
        obtain ⟨hj1, hj2, hj3, hj4⟩ := hi'.out
        go_wp2_with ((at_builtin; refine wpList_append_own_at _ rfl _ _ 53 rfl w2.heap.size 84 i0 _ 3 16 und53 hj1 hj2 hj3 hj4 rfl (by decide) u5 k (snCells L) rfl hown.out ⟨wr.heap.size, 0, none⟩ 1 1 [.bool true, .bool true, .int .u64 0] rfl rfl hnew.out hone.out hk1.out hk2.out hbs.out ?_; intro v' w5 hown5 hg5 hnil5 hat5))
        have hB5 : Below w2.heap.size w2 w5 := (Below.next hbr'.out hbA.out).grown hg5 (by simp; omega) (fun g' e => (hown.out.lt g' e).1)
        have hB5' := Lib.hid hB5
        have hown5' := Lib.hid hown5
        clear hB5 hown5 hg5 hnil5 hat5
        go_wp2
        go_roundg g
        case measure => omega
        case rel =>
          refine ⟨k + 1, L ++ [⟨true, true, 0⟩], by omega, by go_num, by simp [hL'.out], ?_, ?_, hB5'.out⟩
          · rw [List.take_add_one, hx'.out]
            exact unsL_snoc _ _ _ _ hnm'.out hux.out
          · rw [snCells_snoc]
            exact hown5'.out
      · by_cases hj0 : x = j0W
        · have c1 : (x.toList == [106, 49]) = false := by rw [hj0, ByteArray.toList_eq]; decide
          have c0 : (x.toList == [106, 48]) = true := by rw [hj0, ByteArray.toList_eq]; decide
          have hux := Lib.hid (show unsT x = some ⟨true, false, 0⟩ by rw [hj0]; decide)
          clear hnum hj0 hj1
          have hown := Lib.hid ((show wr.ownsRow w2.heap.size 84 3 u5 k (snCells L) from ho5'.out).alloc (.cells #[.bool true, .bool false, .int .u64 0] 84))
          have hnew := Lib.hid (new3 wr (.bool true) (.bool false) (.int .u64 0) 84)
          have hbA := Lib.hid ((Below.refl wr.heap.size wr).alloc (Nat.le_refl _) (.cells #[.bool true, .bool false, .int .u64 0] 84))
          have hone := Lib.hid (show ∀ v ∈ [Value.bool true, .bool false, .int .u64 0], v.oneCell' = true by simp [Value.oneCell'])
          have hszr := hbr'.out.size
          have hbs := Lib.hid (show w2.heap.size ≤ (wr.alloc (.cells #[.bool true, .bool false, .int .u64 0] 84)).heap.size by simp; omega)
          have hk1 := Lib.hid (show k + 1 ≤ maxLen by unfold maxLen; omega)
          have hk2 := Lib.hid (show (k + 1) * 16 ≤ 140737488355328 by omega)
          obtain ⟨hj1, hj2, hj3, hj4⟩ := hi'.out
          go_wp2_with ((at_builtin; refine wpList_append_own_at _ rfl _ _ 53 rfl w2.heap.size 84 i0 _ 3 16 und53 hj1 hj2 hj3 hj4 rfl (by decide) u5 k (snCells L) rfl hown.out ⟨wr.heap.size, 0, none⟩ 1 1 [.bool true, .bool false, .int .u64 0] rfl rfl hnew.out hone.out hk1.out hk2.out hbs.out ?_; intro v' w5 hown5 hg5 hnil5 hat5))
          have hB5 : Below w2.heap.size w2 w5 := (Below.next hbr'.out hbA.out).grown hg5 (by simp; omega) (fun g' e => (hown.out.lt g' e).1)
          have hB5' := Lib.hid hB5
          have hown5' := Lib.hid hown5
          clear hB5 hown5 hg5 hnil5 hat5
          go_wp2
          go_roundg g
          case measure => omega
          case rel =>
            refine ⟨k + 1, L ++ [⟨true, false, 0⟩], by omega, by go_num, by simp [hL'.out], ?_, ?_, hB5'.out⟩
            · rw [List.take_add_one, hx'.out]
              exact unsL_snoc _ _ _ _ hnm'.out hux.out
            · rw [snCells_snoc]
              exact hown5'.out
        · have c1 : (x.toList == [106, 49]) = false := cmp_ne hj1
          have c0 : (x.toList == [106, 48]) = false := cmp_ne hj0
          have hux := Lib.hid (show unsT x = (numI x).map fun (u : Nat) => (⟨false, false, (u : Int)⟩ : Sn) by unfold unsT; rw [if_neg hj0, if_neg hj1])
          clear hj0 hj1
          cases hn : numI x with
          | none =>
            have hbad := Lib.hid (show unseenM s = none by rw [hm.out]; exact unsL_none _ x (List.mem_of_getElem? hx'.out) (by rw [hux.out, hn]; rfl))
            have hnum2 := Lib.hid (hnum.mono (fun e w' h => (show ∃ v : Int, e = .returned (.tuple #[.int .u64 v, .int .i64 15]) ∧ wr = w' by
              obtain ⟨v, er, h1, h2, _, h4⟩ := h
              rw [h2 hn] at h1
              exact ⟨v, h1, h4⟩)))
            clear hnum hn
            go_wp2_with fail
            refine hnum2.out.mono ?_
            rintro e w4 ⟨v, rfl, rfl⟩
            have hfin := Lib.hid (Below.next hb1'.out hbr'.out)
            go_wp2
            go_ret2
            exact ⟨fun _ => rfl, (fun L h => by rw [hbad.out] at h; cases h), hfin.out⟩
          | some u =>
            have hnum2 := Lib.hid (hnum.mono (fun e w' h => (show e = .returned (.tuple #[.int .u64 u, .int .i64 0]) ∧ wr = w' by
              obtain ⟨v, er, h1, _, h3, h4⟩ := h
              obtain ⟨h5, h6⟩ := h3 u hn
              rw [h5, h6] at h1
              exact ⟨h1, h4⟩)))
            have huy := Lib.hid (show unsT x = some ⟨false, false, (u : Int)⟩ by rw [hux.out, hn]; rfl)
            clear hnum hn
            go_wp2_with fail
            refine hnum2.out.mono ?_
            rintro e w4 ⟨rfl, rfl⟩
            have hown := Lib.hid ((show wr.ownsRow w2.heap.size 84 3 u5 k (snCells L) from ho5'.out).alloc (.cells #[.bool false, .bool false, .int .u64 (u : Int)] 84))
            have hnew := Lib.hid (new3 wr (.bool false) (.bool false) (.int .u64 (u : Int)) 84)
            have hbA := Lib.hid ((Below.refl wr.heap.size wr).alloc (Nat.le_refl _) (.cells #[.bool false, .bool false, .int .u64 (u : Int)] 84))
            have hone := Lib.hid (show ∀ v ∈ [Value.bool false, .bool false, .int .u64 (u : Int)], v.oneCell' = true by simp [Value.oneCell'])
            have hszr := hbr'.out.size
            have hbs := Lib.hid (show w2.heap.size ≤ (wr.alloc (.cells #[.bool false, .bool false, .int .u64 (u : Int)] 84)).heap.size by simp; omega)
            have hk1 := Lib.hid (show k + 1 ≤ maxLen by unfold maxLen; omega)
            have hk2 := Lib.hid (show (k + 1) * 16 ≤ 140737488355328 by omega)
            obtain ⟨hj1, hj2, hj3, hj4⟩ := hi'.out
            go_wp2_with ((at_builtin; refine wpList_append_own_at _ rfl _ _ 53 rfl w2.heap.size 84 i0 _ 3 16 und53 hj1 hj2 hj3 hj4 rfl (by decide) u5 k (snCells L) rfl hown.out ⟨wr.heap.size, 0, none⟩ 1 1 [.bool false, .bool false, .int .u64 (u : Int)] rfl rfl hnew.out hone.out hk1.out hk2.out hbs.out ?_; intro v' w5 hown5 hg5 hnil5 hat5))
            have hB5 : Below w2.heap.size w2 w5 := (Below.next hbr'.out hbA.out).grown hg5 (by simp; omega) (fun g' e => (hown.out.lt g' e).1)
            have hB5' := Lib.hid hB5
            have hown5' := Lib.hid hown5
            clear hB5 hown5 hg5 hnil5 hat5
            go_wp2
            go_roundg g
            case measure => omega
            case rel =>
              refine ⟨k + 1, L ++ [⟨false, false, (u : Int)⟩], by omega, by go_num, by simp [hL'.out], ?_, ?_, hB5'.out⟩
              · rw [List.take_add_one, hx'.out]
                exact unsL_snoc _ _ _ _ hnm'.out huy.out
              · rw [snCells_snoc]
                exact hown5'.out
theorem refUnseen_any (s : ByteArray) (w : World) (hs : s.size ≤ 1000000) : Calls Tryz.prog 28 #[.string s] w (RUnsPost s w) := by
  by_cases h0 : s.size = 0
  · exact refUnseen_empty s w h0
  · exact refUnseen_some s w h0 hs
end Go.Proofs.YtkbmckmlnphpmaaGreatDoor
