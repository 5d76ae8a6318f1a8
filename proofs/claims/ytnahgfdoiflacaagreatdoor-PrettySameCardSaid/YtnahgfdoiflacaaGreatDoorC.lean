/- Number, Name; the reference's Own, Name. -/
import Derived.Test.YtnahgfdoiflacaaGreatDoorB
set_option linter.unusedSimpArgs false
set_option linter.unusedVariables false
namespace Go.Proofs.YtnahgfdoiflacaaGreatDoor
open Go.RowKit Go.Lib Go.Shelf

def nameB (s : ByteArray) : Bool := decide (0 < s.size) && decide (s.size ≤ 16) && lowB (s.data.toList.headD 0) && s.data.toList.all partB && !ownB s
theorem span_all (p : UInt8 → Bool) : ∀ l : List UInt8, (spanN p l = l.length) ↔ l.all p = true
  | [] => by simp [spanN]
  | b :: l => by
    have ih := span_all p l
    unfold spanN at ih ⊢
    rw [List.takeWhile_cons]
    cases hb : p b
    · simp [hb]
    · simp [hb, ih]
theorem head_get {s : ByteArray} (h : 0 < s.size) : s.data.toList.headD 0 = s[0]'h := by
  have := get_list s 0 h
  cases hl : s.data.toList with
  | nil => rw [hl] at this; cases this
  | cons b l => rw [hl] at this; cases this; rfl
theorem empty_iff (s : ByteArray) : s.toList.isEmpty = decide (s.size = 0) := by
  rw [ByteArray.toList_eq, ← size_list]
  cases s.data.toList <;> simp

set_option maxRecDepth 100000 in
set_option maxHeartbeats 2000000 in
theorem name_any (s : ByteArray) (w : World) (hs : s.size ≤ 2000000) : Calls Tryz.prog 62 #[.string s] w (BoolPost (nameB s) w) := by
  have hem := empty_iff s
  by_cases h0 : s.size = 0
  · have hn : nameB s = false := by unfold nameB; rw [decide_eq_false (show ¬ 0 < s.size by omega)]; rfl
    rw [hn]
    rw [decide_eq_true h0] at hem
    clear hn h0
    go_enter Tryz.func62, Tryz.ntmps62
    go_wp2
    go_ret
    exact ⟨rfl, Below.refl _ _⟩
  · rw [decide_eq_false h0] at hem
    by_cases h16 : s.size ≤ 16
    · have e16 : (s.size : Int) ≤ 16 := by omega
      have hpos : 0 < s.size := by omega
      have hl := letter_any (s[0]'hpos) w
      obtain ⟨t, ht⟩ : ∃ t, lowB (s[0]'hpos) = t := ⟨_, rfl⟩
      rw [ht] at hl
      have hl := Lib.hid hl
      have hsp := Lib.hid (while_any 108 partB part_pred s 0 w hs (by omega))
      rw [List.drop_zero] at hsp
      have hal := span_all partB s.data.toList
      rw [size_list] at hal
      obtain ⟨n, hn⟩ : ∃ n, spanN partB s.data.toList = n := ⟨_, rfl⟩
      rw [hn] at hsp hal
      have ho := own_any s w
      obtain ⟨o, hob⟩ : ∃ o, ownB s = o := ⟨_, rfl⟩
      rw [hob] at ho
      have ho := Lib.hid ho
      have hN : nameB s = (t && s.data.toList.all partB && !o) := by
        unfold nameB
        rw [head_get hpos, ht, hob, decide_eq_true hpos, decide_eq_true h16]
        rfl
      by_cases hna : n = s.size
      · have hall := hal.1 hna
        have en : ((n : Int) == (s.size : Int)) = true := by simp [hna]
        rw [hall] at hN
        cases t
        · rw [hN]
          clear hN hal hall hna hob ho hn
          go_enter Tryz.func62, Tryz.ntmps62
          go_wp2_with (go_at_call 106; refine hl.out.mono ?_; rintro e w1 ⟨rfl, rfl⟩)
          go_ret
          exact ⟨rfl, Below.refl _ _⟩
        · rw [hN]
          clear hN hal hall hna hob hn
          cases o
          all_goals
            go_enter Tryz.func62, Tryz.ntmps62
            go_wp2_with (first | (go_at_call 106; refine hl.out.mono ?_; rintro e w1 ⟨rfl, rfl⟩) | (go_at_call 107; refine hsp.out.mono ?_; rintro e w1 ⟨rfl, rfl⟩) | (go_at_call 109; refine ho.out.mono ?_; rintro e w2 ⟨rfl, hb2⟩; have hb2 := Lib.hid hb2))
            go_ret
            exact ⟨rfl, hb2.out⟩
      · have hall : s.data.toList.all partB = false := by
          rw [← Bool.not_eq_true]
          exact fun h => hna (hal.2 h)
        have en : ((n : Int) == (s.size : Int)) = false := by simp; omega
        rw [hall, Bool.and_false, Bool.false_and] at hN
        rw [hN]
        clear hN hal hall hna hob ho hn
        cases t
        all_goals
          go_enter Tryz.func62, Tryz.ntmps62
          go_wp2_with (first | (go_at_call 106; refine hl.out.mono ?_; rintro e w1 ⟨rfl, rfl⟩) | (go_at_call 107; refine hsp.out.mono ?_; rintro e w1 ⟨rfl, rfl⟩))
          go_ret
          exact ⟨rfl, Below.refl _ _⟩
    · have e16 : ¬ (s.size : Int) ≤ 16 := by omega
      have hn : nameB s = false := by unfold nameB; rw [decide_eq_false h16, Bool.and_false]; rfl
      rw [hn]
      clear hn
      go_enter Tryz.func62, Tryz.ntmps62
      go_wp2
      go_ret
      exact ⟨rfl, Below.refl _ _⟩

/-- the reference's Own: its words one by one -/
theorem own_get (j : Nat) (hj : j < 11) : ∃ x, ownW[j]? = some x := ⟨_, List.getElem?_eq_getElem (show j < ownW.length from hj)⟩
set_option maxRecDepth 100000 in
set_option maxHeartbeats 2000000 in
theorem refOwn_any (s : ByteArray) (w : World) : Calls Tryz.prog 121 #[.string s] w (BoolPost (ownB s) w) := by
  have hb0 := Lib.hid ((Below.refl w.heap.size w).alloc (Nat.le_refl _) (.cells ownCells 9))
  have hc := Lib.hid (show ∀ j x, ownW[j]? = some x → (w.alloc (.cells ownCells 9)).cell? ⟨w.heap.size, j, none⟩ = some (.string x) from fun j x hx => by
    rw [blk_cell (heap_alloc_new w _)]
    show (ownW.map Value.string).toArray[j]? = _
    rw [List.getElem?_toArray, List.getElem?_map, hx]
    rfl)
  go_enter Tryz.func121, Tryz.ntmps121
  go_wp2_with fail
  have hcells : (#[Value.string ⟨#[97, 114, 114, 97, 121]⟩, Value.string ⟨#[101, 108, 115, 101]⟩, Value.string ⟨#[102, 110]⟩, Value.string ⟨#[102, 111, 114]⟩, Value.string ⟨#[105, 102]⟩, Value.string ⟨#[112, 105, 99, 107]⟩, Value.string ⟨#[114, 101, 103, 105, 111, 110]⟩, Value.string ⟨#[115, 101, 99, 114, 101, 116]⟩, Value.string ⟨#[115, 116, 97, 99, 107]⟩, Value.string ⟨#[118, 97, 114]⟩, Value.string ⟨#[119, 104, 105, 108, 101]⟩] : Array Value) = ownCells := rfl
  rw [hcells]
  clear hcells
  go_loopg [4] 11 (fun g s4 wr => ∃ k : Nat, k + g = 11 ∧ s4 = .int .i64 k ∧ (∀ j x, j < k → ownW[j]? = some x → x ≠ s) ∧ w.alloc (.cells ownCells 9) = wr)
  case atStart => exact ⟨0, by omega, rfl, fun j x h => absurd h (by omega), rfl⟩
  case round =>
    obtain ⟨k, hkg, rfl, hall, rfl⟩ := hrel
    have hall := Lib.hid hall
    cases gk with
    | zero =>
      have e0 : ¬ ((k : Int) < 11) := by omega
      have hfin := Lib.hid (show ownB s = false by
        rw [← Bool.not_eq_true]
        unfold ownB
        rw [Lib.containsS_iff]
        intro h
        obtain ⟨j, hj⟩ := List.getElem?_of_mem h
        have : j < ownW.length := (List.getElem?_eq_some_iff.1 hj).1
        have h11 : ownW.length = 11 := rfl
        exact hall.out j s (by omega) hj rfl)
      go_wp2
      go_ret
      exact ⟨by rw [hfin.out]; rfl, hb0.out⟩
    | succ g2 =>
      have e0 : (k : Int) < 11 := by omega
      obtain ⟨x, hx⟩ := own_get k (by omega)
      have cx := hc.out k x hx
      have hx := Lib.hid hx
      by_cases hxs : x = s
      · have heq : (x.toList == s.toList) = true := by simp [hxs]
        have hfin := Lib.hid (show ownB s = true by
          unfold ownB
          rw [Lib.containsS_iff, ← hxs]
          exact List.mem_of_getElem? hx.out)
        clear hxs
        go_wp2
        go_ret
        exact ⟨by rw [hfin.out]; rfl, hb0.out⟩
      · have heq : (x.toList == s.toList) = false := by
          rw [beq_eq_false_iff_ne]
          intro h
          rw [ByteArray.toList_eq, ByteArray.toList_eq] at h
          exact hxs (by cases x; cases s; simp at h; rw [h])
        have hxs := Lib.hid hxs
        go_wp2
        go_roundg g2
        case measure => omega
        case rel =>
          refine ⟨k + 1, by omega, by go_num, fun j y hj hy => ?_, rfl⟩
          rcases Nat.lt_or_ge j k with h | h
          · exact hall.out j y h hy
          · obtain rfl : j = k := by omega
            rw [hx.out] at hy
            cases hy
            exact hxs.out
end Go.Proofs.YtnahgfdoiflacaaGreatDoor
