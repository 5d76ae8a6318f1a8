/- The reference's Unwords. -/
import Derived.Test.YtkbmckmlnphpmaaGreatDoorK
set_option linter.unusedSimpArgs false
set_option linter.unusedVariables false
namespace Go.Proofs.YtkbmckmlnphpmaaGreatDoor
open Go.RowKit Go.Lib Go.Shelf

def encB (b : Bool) : Value := .bool b

set_option maxRecDepth 100000 in
set_option maxHeartbeats 2000000 in
theorem refUnwords_any (s : ByteArray) (w : World) (hs : s.size ≤ 1000000) : Calls Tryz.prog 19 #[.string s] w (UnwPost encB s w) := by
  obtain ⟨i0, hi, hz0, hz1, hz2⟩ := info_parts info40
  have hi' := Lib.hid (And.intro hi (And.intro hz0 (And.intro hz1 hz2)))
  clear hi hz0 hz1 hz2
  obtain ⟨N, hN⟩ : ∃ N, (partsB s).length = N + 1 := ⟨(partsB s).length - 1, by have := parts_pos s; omega⟩
  have hNle : N ≤ 1000000 := by have := parts_le s; omega
  have hsp := split_any s w hs
  unfold SlPost at hsp
  rw [hN] at hsp
  have hsp' := Lib.hid hsp
  clear hsp
  have hN' := Lib.hid hN
  clear hN
  obtain ⟨p, hp⟩ : ∃ p, (partsB s)[0]? = some p := ⟨_, List.getElem?_eq_getElem (parts_pos s)⟩
  have hps : p.size ≤ 1000000 := Nat.le_trans (parts_size s p (List.mem_of_getElem? hp)) hs
  have hu := Lib.hid (unw_pos hp)
  have hp' := Lib.hid hp
  clear hp
  have hisw := Lib.hid (fun w1 => refWord_any p w1 hps)
  have hu2 := Lib.hid (fun h : wordB p = true => (show unwM s = (numsM (partsB s).tail).map fun l => (p, l) by rw [hu.out, if_pos h]))
  have hu3 := Lib.hid (fun h : wordB p = false => (show unwM s = none by rw [hu.out, if_neg (by rw [h]; simp)]))
  clear hu
  obtain ⟨t, ht⟩ : ∃ t, wordB p = t := ⟨_, rfl⟩
  rw [ht] at hisw
  have ht' := Lib.hid ht
  clear ht
  go_enter Tryz.func19, Tryz.ntmps19
  go_wp2_with fail
  refine hsp'.out.mono ?_
  rintro e w2 ⟨A, c, rfl, hA, hb1⟩
  obtain ⟨blk, off, rfl, hc⟩ := hA (by rw [hN'.out]; omega)
  have hc1 := Lib.hid hc
  have hcp : w2.cell? ⟨blk, off, none⟩ = some (.string p) := hc 0 p hp'.out
  have hb1' := Lib.hid hb1
  clear hc hb1 hA
  cases t
  · go_wp2_with fail
    refine (hisw.out w2).mono ?_
    rintro e w3 ⟨rfl, rfl⟩
    go_wp2
    go_ret3
    exact ⟨fun _ => rfl, (fun p l h => by rw [hu3.out ht'.out] at h; cases h), hb1'.out⟩
  · go_wp2_with fail
    refine (hisw.out w2).mono ?_
    rintro e w3 ⟨rfl, rfl⟩
    go_wp2_with fail
    go_loopg [6, 7] N (fun g s6 s7 wr => ∃ (k : Nat) (L : List Int), k + g = N ∧ s7 = .int .i64 ((1 + k : Nat) : Int) ∧ L.length = k ∧ numsM ((partsB s).tail.take k) = some L ∧ wr.ownsRow w2.heap.size 40 1 s6 k (wCells L) ∧ Below w2.heap.size w2 wr)
    case atStart => exact ⟨0, [], by omega, rfl, rfl, rfl, ⟨rfl, .inl ⟨rfl, rfl⟩⟩, Below.refl _ _⟩
    case round =>
      obtain ⟨k, L, hkg, rfl, hL, hnm, ho4, hbr⟩ := hrel
      have hnm' := Lib.hid hnm
      have ho4' := Lib.hid ho4
      have hbr' := Lib.hid hbr
      have hL' := Lib.hid hL
      clear hnm ho4 hbr hL
      cases gk with
      | zero =>
        have hkN : k = N := by omega
        subst hkN
        have e0 : ¬ (((1 + k : Nat) : Int) < ((k + 1 : Nat) : Int)) := by omega
        have htl : (partsB s).tail.take k = (partsB s).tail := List.take_of_length_le (by rw [List.length_tail, hN'.out]; omega)
        have hnm2 := hnm'.out
        rw [htl] at hnm2
        obtain ⟨A, c, rfl, hA⟩ := own_WNew ho4'.out hL'.out (numsM_range _ _ hnm2)
        have hA' := Lib.hid hA
        have hnm3 := Lib.hid hnm2
        have hcp2 : wr.cell? ⟨blk, off, none⟩ = some (.string p) := (hbr'.out.cell (p := ⟨blk, off, none⟩) (cell_some_lt hcp)).trans hcp
        have hfin := Lib.hid (Below.next hb1'.out hbr'.out)
        clear hA hnm2 htl
        go_wp2
        go_ret3
        refine ⟨fun h => ?_, fun p2 l2 h => ?_, hfin.out⟩
        · rw [hu2.out ht'.out, hnm3.out] at h; cases h
        · rw [hu2.out ht'.out, hnm3.out] at h
          cases h
          exact ⟨A, c, by rw [hL'.out]; rfl, hA'.out.mono hb1'.out.size⟩
      | succ g =>
        have e0 : ((1 + k : Nat) : Int) < ((N + 1 : Nat) : Int) := by omega
        obtain ⟨x, hx⟩ : ∃ x, (partsB s)[1 + k]? = some x := ⟨_, List.getElem?_eq_getElem (by rw [hN'.out]; omega)⟩
        have hcx0 := hc1.out _ _ hx
        have hcx : wr.cell? ⟨blk, off + (1 + k), none⟩ = some (.string x) := (hbr'.out.cell (p := ⟨blk, off + (1 + k), none⟩) (cell_some_lt hcx0)).trans hcx0
        have hxs : x.size ≤ 1000000 := Nat.le_trans (parts_size s x (List.mem_of_getElem? hx)) hs
        have hxt := Lib.hid (show (partsB s).tail[k]? = some x by rw [List.getElem?_tail, Nat.add_comm]; exact hx)
        have hnum := refNumber_any x wr hxs
        clear hx hcx0
        cases hn : numI x with
        | none =>
          have hbad := Lib.hid (show unwM s = none by rw [hu2.out ht'.out, numsM_none _ x (List.mem_of_getElem? hxt.out) hn]; rfl)
          have hnum2 := Lib.hid (hnum.mono (fun e w' h => (show ∃ v : Int, e = .returned (.tuple #[.int .u64 v, .int .i64 15]) ∧ wr = w' by
            obtain ⟨v, er, h1, h2, _, h4⟩ := h
            rw [h2 hn] at h1
            exact ⟨v, h1, h4⟩)))
          clear hnum hn
          go_wp2_with fail
          refine hnum2.out.mono ?_
          rintro e w4 ⟨v, rfl, rfl⟩
          have hfin := Lib.hid (Below.next hb1'.out hbr'.out)
          go_wp2
          go_ret3
          exact ⟨fun _ => rfl, (fun p l h => by rw [hbad.out] at h; cases h), hfin.out⟩
        | some u =>
          have hnum2 := Lib.hid (hnum.mono (fun e w' h => (show e = .returned (.tuple #[.int .u64 u, .int .i64 0]) ∧ wr = w' by
            obtain ⟨v, er, h1, _, h3, h4⟩ := h
            obtain ⟨h5, h6⟩ := h3 u hn
            rw [h5, h6] at h1
            exact ⟨h1, h4⟩)))
          have hnx := Lib.hid hn
          clear hnum hn
          go_wp2_with fail
          refine hnum2.out.mono ?_
          rintro e w4 ⟨rfl, rfl⟩
          have hszr := hbr'.out.size
          have hown := Lib.hid ((show wr.ownsRow w2.heap.size 40 1 u6 k (wCells L) from ho4'.out).alloc (.cells #[.int .u64 u] 40))
          have hnew := Lib.hid (cell_one_new wr (.int .u64 u) 40)
          have hbA := Lib.hid ((Below.refl wr.heap.size wr).alloc (Nat.le_refl _) (.cells #[.int .u64 u] 40))
          have hone := Lib.hid (show ∀ v ∈ [Value.int .u64 (u : Int)], v.oneCell' = true by simp [Value.oneCell'])
          have hbs := Lib.hid (show w2.heap.size ≤ (wr.alloc (.cells #[.int .u64 u] 40)).heap.size by simp; omega)
          have hk1 := Lib.hid (show k + 1 ≤ maxLen by unfold maxLen; omega)
          have hk2 := Lib.hid (show (k + 1) * 8 ≤ 140737488355328 by omega)
          obtain ⟨hj1, hj2, hj3, hj4⟩ := hi'.out
          clear hcx
          go_wp2_with ((at_builtin; refine wpList_append_own_at _ rfl _ _ 22 rfl w2.heap.size 40 i0 _ 1 8 und22 hj1 hj2 hj3 hj4 rfl (by decide) u6 k (wCells L) rfl hown.out ⟨wr.heap.size, 0, none⟩ 1 1 [.int .u64 u] rfl rfl hnew.out hone.out hk1.out hk2.out hbs.out ?_; intro v' w5 hown5 hg5 hnil5 hat5))
          have hB5 : Below w2.heap.size w2 w5 := (Below.next hbr'.out hbA.out).grown hg5 (by simp; omega) (fun g' e => (hown.out.lt g' e).1)
          have hB5' := Lib.hid hB5
          have hown5' := Lib.hid hown5
          clear hB5 hown5 hg5 hnil5 hat5
          go_wp2
          go_roundg g
          case measure => omega
          case rel =>
            refine ⟨k + 1, L ++ [(u : Int)], by omega, by go_num, by simp [hL'.out], ?_, ?_, hB5'.out⟩
            · rw [List.take_add_one, hxt.out]
              exact numsM_snoc _ x L u hnm'.out hnx.out
            · simpa [wCells] using hown5'.out
end Go.Proofs.YtkbmckmlnphpmaaGreatDoor
