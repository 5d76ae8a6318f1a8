/- The reference's Word. -/
import Derived.Test.YtkbmckmlnphpmaaGreatDoorE
set_option linter.unusedSimpArgs false
set_option linter.unusedVariables false
namespace Go.Proofs.YtkbmckmlnphpmaaGreatDoor
open Go.RowKit Go.Lib Go.Shelf

set_option maxRecDepth 100000 in
set_option maxHeartbeats 1000000 in
theorem refWord_any (s : ByteArray) (w : World) (hs : s.size ≤ 1000000) : Calls Tryz.prog 15 #[.string s] w fun e w' => e = .returned (.bool (wordB s)) ∧ w = w' := by
  go_enter Tryz.func15, Tryz.ntmps15
  go_wp2_with fail
  go_loopg [3] s.size (fun g s3 wr => ∃ k : Nat, k + g = s.size ∧ s3 = .int .i64 k ∧ (∀ i (h : i < s.size), i < k → lowB (s[i]'h) = true) ∧ w = wr)
  case atStart => exact ⟨0, by omega, rfl, fun i _ h => absurd h (by omega), rfl⟩
  case round =>
    obtain ⟨k, hkg, rfl, hall, rfl⟩ := hrel
    have hall' := Lib.hid hall
    clear hall
    cases gk with
    | zero =>
      have e0 : ¬ ((k : Int) < (s.size : Int)) := by omega
      have hw : wordB s = decide (0 < s.size) := by
        unfold wordB
        have : s.data.toList.all lowB = true := by
          rw [List.all_eq_true]
          intro b hb
          obtain ⟨n, hn, rfl⟩ := List.getElem_of_mem hb
          have hns : n < s.size := by have hlen : s.data.toList.length = s.size := Array.length_toList; omega
          exact hall'.out n hns (by omega)
        rw [this, Bool.and_true]
      by_cases hz : 0 < s.size
      · have d1 : (0 : Int) < (s.size : Int) := by omega
        have hw2 := Lib.hid (hw.trans (decide_eq_true hz))
        clear hw
        go_wp2
        go_ret
        exact ⟨by rw [hw2.out]; rfl, rfl⟩
      · have d1 : ¬ ((0 : Int) < (s.size : Int)) := by omega
        have hw2 := Lib.hid (hw.trans (decide_eq_false hz))
        clear hw
        go_wp2
        go_ret
        exact ⟨by rw [hw2.out]; rfl, rfl⟩
    | succ g =>
      have e0 : (k : Int) < (s.size : Int) := by omega
      have hk : k < s.size := by omega
      have hno : lowB (s[k]'hk) = false → wordB s = false := fun h => by
        unfold wordB
        have : s.data.toList.all lowB = false := by
          rw [List.all_eq_false]
          exact ⟨s[k]'hk, List.getElem_mem (by have hlen : s.data.toList.length = s.size := Array.length_toList; omega), by simpa using h⟩
        rw [this, Bool.and_false]
      have hno' := Lib.hid hno
      clear hno
      by_cases h1 : (s[k]'hk).toNat < 97
      · have e1 : ((s[k]'hk).toNat : Int) < 97 := by omega
        have hw := Lib.hid (hno'.out (by unfold lowB; simp; omega))
        go_wp2
        go_ret
        exact ⟨by rw [hw.out]; rfl, rfl⟩
      · have e1 : ¬ (((s[k]'hk).toNat : Int) < 97) := by omega
        by_cases h2 : 122 < (s[k]'hk).toNat
        · have e2 : (122 : Int) < ((s[k]'hk).toNat : Int) := by omega
          have hw := Lib.hid (hno'.out (by unfold lowB; simp; omega))
          go_wp2
          go_ret
          exact ⟨by rw [hw.out]; rfl, rfl⟩
        · have e2 : ¬ ((122 : Int) < ((s[k]'hk).toNat : Int)) := by omega
          go_wp2
          go_roundg g
          case measure => omega
          case rel =>
            refine ⟨k + 1, by omega, by go_num, fun i h hi => ?_, rfl⟩
            rcases Nat.lt_or_ge i k with h3 | h3
            · exact hall'.out i h h3
            · obtain rfl : i = k := by omega
              unfold lowB; simp; omega
end Go.Proofs.YtkbmckmlnphpmaaGreatDoor
