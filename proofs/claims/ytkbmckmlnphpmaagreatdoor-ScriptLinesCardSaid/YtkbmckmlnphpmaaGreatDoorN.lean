/- Lists of words, and lists of those, compared by the reference. -/
import Derived.Test.YtkbmckmlnphpmaaGreatDoorL
import Derived.ChangeKeysEq
import Derived.BigQuiet
set_option linter.unusedSimpArgs false
set_option linter.unusedVariables false
namespace Go.Proofs.YtkbmckmlnphpmaaGreatDoor
open Go.RowKit Go.Lib Go.Shelf

theorem ret_bool {a b : Bool} (h : a = b) : Ending.returned (.bool a) = .returned (.bool b) := by rw [h]
theorem below_drewN {B : Nat} {a w : World} (h : Below B a w) (n : Nat) : Below B a (w.drewN n) := ⟨h.os, h.tape, h.output, h.size, h.block⟩
/-- a slice that reads as lists of words -/
def WsAt (w : World) (A : Option Addr) (W : List (List Int)) : Prop :=
  0 < W.length → ∃ blk off, A = some ⟨blk, off, none⟩ ∧ ∀ i ws, W[i]? = some ws → ∃ A' c, w.cell? ⟨blk, off + i, none⟩ = some (.slice A' ws.length c) ∧ ws.length ≤ 4000000 ∧ WAt w A' ws
theorem WsAt.below {w w' : World} {A : Option Addr} {W : List (List Int)} (h : WsAt w A W) (hb : Below w.heap.size w w') : WsAt w' A W := by
  intro hn
  obtain ⟨blk, off, e, hc⟩ := h hn
  refine ⟨blk, off, e, fun i ws hws => ?_⟩
  obtain ⟨A', c, h1, h2, h4⟩ := hc i ws hws
  exact ⟨A', c, (hb.cell (p := ⟨blk, off + i, none⟩) (cell_some_lt h1)).trans h1, h2, h4.below hb⟩
theorem WsAt.at_ {w : World} {A : Option Addr} {W : List (List Int)} (h : WsAt w A W) {k : Nat} (hk : k < W.length) :
    ∃ blk off ws A' c, A = some ⟨blk, off, none⟩ ∧ W[k]? = some ws ∧ w.cell? ⟨blk, off + k, none⟩ = some (.slice A' ws.length c) ∧ ws.length ≤ 4000000 ∧ WAt w A' ws := by
  obtain ⟨blk, off, e, hc⟩ := h (by omega)
  have e1 : W[k]? = some W[k] := List.getElem?_eq_getElem hk
  obtain ⟨A', c, h1, h2, h4⟩ := hc k _ e1
  exact ⟨blk, off, _, A', c, e, e1, h1, h2, h4⟩
theorem list_ne_at {α : Type} {X Y : List α} {k : Nat} {x y : α} (hx : X[k]? = some x) (hy : Y[k]? = some y) (h : x ≠ y) : X ≠ Y := by
  rintro rfl
  rw [hx] at hy
  cases hy
  exact h rfl
theorem list_eq_all {α : Type} {X Y : List α} {n : Nat} (hX : X.length = n) (hY : Y.length = n) (h : ∀ i, i < n → X[i]? = Y[i]?) : X = Y := by
  apply List.ext_getElem?
  intro i
  by_cases hi : i < n
  · exact h i hi
  · rw [List.getElem?_eq_none (by omega), List.getElem?_eq_none (by omega)]
theorem below_drewN' {B : Nat} {a w : World} (h : Below B a w) (n : Nat) : Below B a (w.drewN n) := ⟨h.os, h.tape, h.output, h.size, h.block⟩

set_option maxRecDepth 100000 in
set_option maxHeartbeats 2000000 in
theorem sameWords_any (A A' : Option Addr) (n c n' c' : Nat) (V W : List (List Int)) (w : World) (hV : V.length = n) (hW : W.length = n') (hv : WsAt w A V) (hw : WsAt w A' W) (hn : n ≤ 9223372036854775807) (hn' : n' ≤ 9223372036854775807) :
    Calls Tryz.prog 56 #[.slice A n c, .slice A' n' c'] w (BoolPost (decide (V = W)) w) := by
  have hv' := Lib.hid hv
  have hw' := Lib.hid hw
  have hV' := Lib.hid hV
  have hW' := Lib.hid hW
  clear hv hw hV hW
  by_cases hnn : n = n'
  · subst hnn
    go_enter Tryz.func56, Tryz.ntmps56
    go_wp2_with fail
    go_loopg [5] n (fun g s4 wr => ∃ k : Nat, k + g = n ∧ s4 = .int .i64 k ∧ (∀ i, i < k → V[i]? = W[i]?) ∧ Below w.heap.size w wr)
    case atStart => exact ⟨0, by omega, rfl, fun i h => absurd h (by omega), Below.refl _ _⟩
    case round =>
      obtain ⟨k, hkg, rfl, hall, hb⟩ := hrel
      have hall' := Lib.hid hall
      have hb' := Lib.hid hb
      clear hall hb
      cases gk with
      | zero =>
        have e0 : ¬ ((k : Int) < (n : Int)) := by omega
        have hfin := Lib.hid (show V = W from list_eq_all hV'.out hW'.out fun i hi => hall'.out i (by omega))
        go_wp2
        go_ret
        exact ⟨ret_bool (by simp [hfin.out]), hb'.out⟩
      | succ g =>
        have e0 : (k : Int) < (n : Int) := by omega
        obtain ⟨blk, off, vs, Ai, ci, rfl, hvs, v1, v2, v4⟩ := (hv'.out.below hb'.out).at_ (k := k) (by rw [hV'.out]; omega)
        obtain ⟨blk', off', ws, Ai', ci', rfl, hws, w1, w2, w4⟩ := (hw'.out.below hb'.out).at_ (k := k) (by rw [hW'.out]; omega)
        have hvs' := Lib.hid hvs
        have hws' := Lib.hid hws
        have v4' := Lib.hid v4
        have w4' := Lib.hid w4
        clear hvs hws v4 w4
        by_cases hll : vs.length = ws.length
        · have hd : ((vs.length : Int) != (ws.length : Int)) = false := by simp [hll]
          obtain ⟨wo, hwo⟩ : ∃ wo : World, wo = wr := ⟨_, rfl⟩
          rw [← hwo] at v1 w1 v4' w4' hb' ⊢
          clear hwo
          go_wp2
          go_quiet (fail)
          go_wp2_with fail
          go_loopg [6] vs.length (fun g2 s6 wy => ∃ j : Nat, j + g2 = vs.length ∧ s6 = .int .i64 j ∧ (∀ i, i < j → vs[i]? = ws[i]?) ∧ Below wo.heap.size wo wy)
          case atStart => exact ⟨0, by omega, rfl, fun i h => absurd h (by omega), below_drewN (Below.refl _ _) _⟩
          case round =>
            obtain ⟨j, hjg, rfl, hal2, hb2⟩ := hrel
            have hal2' := Lib.hid hal2
            have hb2' := Lib.hid hb2
            have v1w := (hb2.cell (p := ⟨blk, off + k, none⟩) (cell_some_lt v1)).trans v1
            have w1w := (hb2.cell (p := ⟨blk', off' + k, none⟩) (cell_some_lt w1)).trans w1
            have v1' := Lib.hid v1
            have w1' := Lib.hid w1
            clear hal2 hb2 v1 w1
            cases gk with
            | zero =>
              have e1 : ¬ ((j : Int) < (vs.length : Int)) := by omega
              have hfin := Lib.hid (show vs = ws from list_eq_all (n := vs.length) rfl hll.symm fun i hi => hal2'.out i (by omega))
              go_wp2
              go_roundg g
              case measure => omega
              case rel =>
                refine ⟨k + 1, by omega, by go_num, fun i hi => ?_, Below.next hb'.out hb2'.out⟩
                rcases Nat.lt_or_ge i k with h | h
                · exact hall'.out i h
                · obtain rfl : i = k := by omega
                  rw [hvs'.out, hws'.out, hfin.out]
            | succ g2 =>
              have e1 : (j : Int) < (vs.length : Int) := by omega
              have e2 : (j : Int) < (ws.length : Int) := by omega
              obtain ⟨b1, o1, x, rfl, hx, x1, x2, x3⟩ := (v4'.out.below hb2'.out).at_ (k := j) (by omega)
              obtain ⟨b2, o2, y, rfl, hy, y1, y2, y3⟩ := (w4'.out.below hb2'.out).at_ (k := j) (by omega)
              have hx' := Lib.hid hx
              have hy' := Lib.hid hy
              clear hx hy
              by_cases hxy : x = y
              · have hd2 : (x != y) = false := by simp [hxy]
                go_wp2
                go_quiet (fail)
                go_wp2
                go_roundg g2
                case measure => omega
                case rel =>
                  refine ⟨j + 1, by omega, by go_num, fun i hi => ?_, below_drewN hb2'.out _⟩
                  rcases Nat.lt_or_ge i j with h | h
                  · exact hal2'.out i h
                  · obtain rfl : i = j := by omega
                    rw [hx'.out, hy'.out, hxy]
              · have hd2 : (x != y) = true := by simp [hxy]
                have hfin := Lib.hid (show V ≠ W from list_ne_at hvs'.out hws'.out (list_ne_at hx'.out hy'.out hxy))
                clear hxy
                go_wp2
                go_quiet (fail)
                go_wp2
                go_ret
                exact ⟨ret_bool (by simp [hfin.out]), Below.next hb'.out (below_drewN hb2'.out _)⟩
        · have hd : ((vs.length : Int) != (ws.length : Int)) = true := by simp; omega
          have hfin := Lib.hid (show V ≠ W from list_ne_at hvs'.out hws'.out fun e => hll (by rw [e]))
          clear hll
          go_wp2
          go_quiet (fail)
          go_wp2
          go_ret
          exact ⟨ret_bool (by simp [hfin.out]), below_drewN hb'.out _⟩
  · have hd : ((n : Int) != (n' : Int)) = true := by simp; omega
    have hfin := Lib.hid (show V ≠ W from fun e => hnn (by rw [← hV'.out, ← hW'.out, e]))
    clear hnn
    go_enter Tryz.func56, Tryz.ntmps56
    go_wp2
    go_ret
    exact ⟨ret_bool (by simp [hfin.out]), Below.refl _ _⟩

set_option maxRecDepth 100000 in
set_option maxHeartbeats 1000000 in
theorem sameList_any (A A' : Option Addr) (n c n' c' : Nat) (x y : List Int) (w : World) (hx : x.length = n) (hy : y.length = n') (hv : WAt w A x) (hw : WAt w A' y) (hn : n ≤ 4000000) (hn' : n' ≤ 4000000) :
    Calls Tryz.prog 20 #[.slice A n c, .slice A' n' c'] w (BoolPost (decide (x = y)) w) := by
  have hb1 := Lib.hid (((Below.refl w.heap.size w).alloc (Nat.le_refl _) (.cells #[.slice A n c] 22)).alloc (by simp) (.cells #[.slice A' n' c'] 22))
  have hk := sameWords_any (some ⟨w.heap.size, 0, none⟩) (some ⟨w.heap.size + 1, 0, none⟩) 1 1 1 1 [x] [y] ((w.alloc (.cells #[.slice A n c] 22)).alloc (.cells #[.slice A' n' c'] 22)) rfl rfl
    (fun _ => ⟨w.heap.size, 0, rfl, fun i ws h => by
      cases i with
      | zero =>
        cases h
        refine ⟨A, c, ?_, by omega, hv.below hb1.out⟩
        rw [hx, blk_cell ((heap_alloc_old _ _ (by simp)).trans (heap_alloc_new w _))]; rfl
      | succ i => cases h⟩)
    (fun _ => ⟨w.heap.size + 1, 0, rfl, fun i ws h => by
      cases i with
      | zero =>
        cases h
        refine ⟨A', c', ?_, by omega, hw.below hb1.out⟩
        have e : (w.alloc (.cells #[.slice A n c] 22)).heap.size = w.heap.size + 1 := by simp
        rw [hy, ← e, blk_cell (heap_alloc_new _ _)]; rfl
      | succ i => cases h⟩) (by omega) (by omega)
  have he : decide ([x] = [y]) = decide (x = y) := by simp
  rw [he] at hk
  have hk' := Lib.hid hk
  have e1 : (w.alloc (.cells #[.slice A n c] 22)).heap.size = w.heap.size + 1 := by simp
  generalize decide (x = y) = t at hk'
  clear hk he hx hy hv hw
  go_enter Tryz.func20, Tryz.ntmps20
  go_wp2_with fail
  refine hk'.out.mono ?_
  rintro e w1 ⟨rfl, hb⟩
  have hb' := Lib.hid (hb1.out.trans (hb.mono (by simp; omega)))
  clear hb
  go_wp2
  go_ret
  exact ⟨rfl, hb'.out⟩
end Go.Proofs.YtkbmckmlnphpmaaGreatDoor
