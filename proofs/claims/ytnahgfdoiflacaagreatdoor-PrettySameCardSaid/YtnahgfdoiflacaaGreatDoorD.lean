/- The reference's Name; the language's own numbers. -/
import Derived.Test.YtnahgfdoiflacaaGreatDoorC
set_option linter.unusedSimpArgs false
set_option linter.unusedVariables false
namespace Go.Proofs.YtnahgfdoiflacaaGreatDoor
open Go.RowKit Go.Lib Go.Shelf

theorem all_of {s : ByteArray} {p : UInt8 → Bool} (h : ∀ (k : Nat) (hk : k < s.size), p (s[k]'hk) = true) : s.data.toList.all p = true := by
  rw [List.all_eq_true]
  intro b hb
  obtain ⟨k, hk⟩ := List.getElem?_of_mem hb
  have hlt : k < s.size := by rw [← size_list]; exact (List.getElem?_eq_some_iff.1 hk).1
  rw [get_list s k hlt] at hk
  cases hk
  exact h k hlt
theorem all_no {s : ByteArray} {p : UInt8 → Bool} {k : Nat} (hk : k < s.size) (h : p (s[k]'hk) = false) : s.data.toList.all p = false := by
  rw [List.all_eq_false]
  exact ⟨s[k]'hk, List.mem_of_getElem? (get_list s k hk), by simp [h]⟩

set_option maxRecDepth 100000 in
set_option maxHeartbeats 2000000 in
theorem refName_any (s : ByteArray) (w : World) (hs : s.size ≤ 2000000) : Calls Tryz.prog 71 #[.string s] w (BoolPost (nameB s) w) := by
  by_cases h0 : s.size < 1
  · have hn : nameB s = false := by unfold nameB; rw [decide_eq_false (show ¬ 0 < s.size by omega)]; rfl
    have e0 : ((s.size : Int) < 1) := by omega
    rw [hn]
    clear hn h0
    go_enter Tryz.func71, Tryz.ntmps71
    go_wp2
    go_ret
    exact ⟨rfl, Below.refl _ _⟩
  · have e0 : ¬ ((s.size : Int) < 1) := by omega
    by_cases h16 : 16 < s.size
    · have e16 : (16 : Int) < (s.size : Int) := by omega
      have hn : nameB s = false := by unfold nameB; rw [decide_eq_false (show ¬ s.size ≤ 16 by omega), Bool.and_false]; rfl
      rw [hn]
      clear hn
      go_enter Tryz.func71, Tryz.ntmps71
      go_wp2
      go_ret
      exact ⟨rfl, Below.refl _ _⟩
    · have e16 : ¬ (16 : Int) < (s.size : Int) := by omega
      have hpos : 0 < s.size := by omega
      have hl := refLetter_any (s[0]'hpos) w
      obtain ⟨t, ht⟩ : ∃ t, lowB (s[0]'hpos) = t := ⟨_, rfl⟩
      rw [ht] at hl
      have hl := Lib.hid hl
      have ho := refOwn_any s w
      obtain ⟨o, hob⟩ : ∃ o, ownB s = o := ⟨_, rfl⟩
      rw [hob] at ho
      have ho := Lib.hid ho
      have hN : nameB s = (t && s.data.toList.all partB && !o) := by
        unfold nameB
        rw [head_get hpos, ht, hob, decide_eq_true hpos, decide_eq_true (show s.size ≤ 16 by omega)]
        rfl
      have hNh := Lib.hid hN
      have hpt := Lib.hid fun (k : Nat) (hk : k < s.size) W => refPart_any (s[k]'hk) W
      clear ht hob hN
      cases t
      · have hfin := Lib.hid (show nameB s = false by rw [hNh.out]; rfl)
        go_enter Tryz.func71, Tryz.ntmps71
        go_wp2_with (go_at_call 120; refine hl.out.mono ?_; rintro e w1 ⟨rfl, rfl⟩)
        go_ret
        exact ⟨by rw [hfin.out]; rfl, Below.refl _ _⟩
      · cases o
        · have hN2 := Lib.hid (show nameB s = s.data.toList.all partB by rw [hNh.out, Bool.true_and, Bool.not_false, Bool.and_true])
          go_enter Tryz.func71, Tryz.ntmps71
          go_wp2_with (first | (go_at_call 120; refine hl.out.mono ?_; rintro e w1 ⟨rfl, rfl⟩) | (go_at_call 121; refine ho.out.mono ?_; rintro e w2 ⟨rfl, hb2⟩; have hb2 := Lib.hid hb2))
          go_loopg [3] s.size (fun g s3 wr => ∃ k : Nat, k + g = s.size ∧ s3 = .int .i64 k ∧ (∀ (j : Nat) (hj : j < s.size), j < k → partB (s[j]'hj) = true) ∧ Below w.heap.size w wr)
          case atStart => exact ⟨0, by omega, rfl, fun j hj h => absurd h (by omega), hb2.out⟩
          case round =>
            obtain ⟨k, hkg, rfl, hall, hb⟩ := hrel
            have hall := Lib.hid hall
            have hb := Lib.hid hb
            cases gk with
            | zero =>
              have e1 : ¬ ((k : Int) < (s.size : Int)) := by omega
              have hfin := Lib.hid (show nameB s = true by rw [hN2.out]; exact all_of fun j hj => hall.out j hj (by omega))
              go_wp2
              go_ret
              exact ⟨by rw [hfin.out]; rfl, hb.out⟩
            | succ g2 =>
              have hk : k < s.size := by omega
              have e1 : ((k : Int) < (s.size : Int)) := by omega
              have hc := hpt.out k hk wr
              obtain ⟨u, hu⟩ : ∃ u, partB (s[k]'hk) = u := ⟨_, rfl⟩
              rw [hu] at hc
              have hc := Lib.hid hc
              have hu := Lib.hid hu
              go_wp2_with fail
              refine hc.out.mono ?_
              rintro e w3 ⟨rfl, rfl⟩
              cases u
              · have hfin := Lib.hid (show nameB s = false by rw [hN2.out]; exact all_no hk hu.out)
                go_wp2
                go_ret
                exact ⟨by rw [hfin.out]; rfl, hb.out⟩
              · go_wp2
                go_roundg g2
                case measure => omega
                case rel =>
                  refine ⟨k + 1, by omega, by go_num, fun j hj hjk => ?_, hb.out⟩
                  rcases Nat.lt_or_ge j k with h | h
                  · exact hall.out j hj h
                  · obtain rfl : j = k := by omega
                    exact hu.out
        · have hfin := Lib.hid (show nameB s = false by rw [hNh.out]; simp)
          go_enter Tryz.func71, Tryz.ntmps71
          go_wp2_with (first | (go_at_call 120; refine hl.out.mono ?_; rintro e w1 ⟨rfl, rfl⟩) | (go_at_call 121; refine ho.out.mono ?_; rintro e w2 ⟨rfl, hb2⟩; have hb2 := Lib.hid hb2))
          go_ret
          exact ⟨by rw [hfin.out]; rfl, hb2.out⟩
end Go.Proofs.YtnahgfdoiflacaaGreatDoor
