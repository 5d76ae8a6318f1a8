/- WordHolds answers true. -/
import Derived.Test.YtkfenljldmbmcaaT6
set_option linter.unusedSimpArgs false
set_option linter.unusedVariables false
namespace Go.Proofs.Ytkfenljldmbmcaa
open Go.RowKit Go.MapKept

/-- the block of an argument that is boxed -/
theorem boxed {w w1 w2 : World} {o : Obj} (hk : w1.heap[w.heap.size]? = some o) (hsz : w.heap.size < w1.heap.size) (hb : Below w1.heap.size w1 w2) : w2.heap[w.heap.size]? = some o := (hb.block _ hsz).trans hk

theorem turn_bd {k : Int} (hk : 0 ≤ k ∧ k ≤ 15) : 0 ≤ turnI k ∧ turnI k ≤ 15 := by unfold turnI; split <;> omega
theorem turn_holds {k : Int} (hk : 0 ≤ k ∧ k ≤ 15) (c z s o p : Bool) : holdsB (turnI k) c z s o p = !(holdsB k c z s o p) := by
  rcases sixteen hk with rfl | rfl | rfl | rfl | rfl | rfl | rfl | rfl | rfl | rfl | rfl | rfl | rfl | rfl | rfl | rfl <;> revert c z s o p <;> decide

set_option maxHeartbeats 1000000 in
theorem wordHolds_no (k : Int) (c z s o p : Bool) (w : World) (hk : ¬ (0 ≤ k ∧ k ≤ 15)) : Calls Try.prog 6 #[.int .i64 k, .agg #[.bool c, .bool z, .bool s, .bool o, .bool p]] w (Yes w) := by
  have hk' := Lib.hid hk
  have hd : (decide (k < 0) || decide (15 < k)) = true := by simp; omega
  by_cases h0 : k < 0
  · clear hk hd
    go_enter Try.func6, Try.ntmps6
    go_wp2_with fail
    refine (HoldsP_no _ _ _ _ _ _ _ hk'.out).mono ?_
    rintro e w1 ⟨rfl, hb⟩
    obtain ⟨hblk, hbel, hsz⟩ := kept5 hb
    have hbel' := Lib.hid hbel
    clear hb hbel hblk
    go_wp2_with fail
    refine (TurnedP_no _ _ hk'.out).mono ?_
    rintro e w2 ⟨rfl, rfl⟩
    go_wp2_with (first | (go_at_call 16; refine (num_any _ _).mono ?_; rintro e w' ⟨rfl, rfl⟩))
    refine (known_any _).mono ?_
    rintro e w3 ⟨rfl, h3⟩
    go_wp2_with fail
    go_ret
    exact ⟨rfl, Below.next hbel'.out h3⟩
  · have h1 : 15 < k := by omega
    clear hk hd
    go_enter Try.func6, Try.ntmps6
    go_wp2_with fail
    refine (HoldsP_no _ _ _ _ _ _ _ hk'.out).mono ?_
    rintro e w1 ⟨rfl, hb⟩
    obtain ⟨hblk, hbel, hsz⟩ := kept5 hb
    have hbel' := Lib.hid hbel
    clear hb hbel hblk
    go_wp2_with fail
    refine (TurnedP_no _ _ hk'.out).mono ?_
    rintro e w2 ⟨rfl, rfl⟩
    go_wp2_with (first | (go_at_call 16; refine (num_any _ _).mono ?_; rintro e w' ⟨rfl, rfl⟩))
    refine (known_any _).mono ?_
    rintro e w3 ⟨rfl, h3⟩
    go_wp2_with fail
    go_ret
    exact ⟨rfl, Below.next hbel'.out h3⟩

set_option maxRecDepth 100000 in
set_option maxHeartbeats 1000000 in
theorem wordHolds_yes (k : Int) (c z s o p : Bool) (w : World) (hk : 0 ≤ k ∧ k ≤ 15) : Calls Try.prog 6 #[.int .i64 k, .agg #[.bool c, .bool z, .bool s, .bool o, .bool p]] w (Yes w) := by
  have hk' := Lib.hid hk
  obtain ⟨ka, kb⟩ := hk
  have hT := Lib.hid (turn_bd hk'.out)
  have hH := turn_holds hk'.out c z s o p
  obtain ⟨H, hHd⟩ : ∃ H, H = holdsB k c z s o p := ⟨_, rfl⟩
  rw [← hHd] at hH
  have hHd' := Lib.hid hHd
  have hH' := Lib.hid hH
  clear hHd hH
  go_enter Try.func6, Try.ntmps6
  go_wp2_with fail
  refine (HoldsP_any _ _ _ _ _ _ _ hk'.out).mono ?_
  rw [← hHd'.out]
  rintro e w1 ⟨rfl, hb⟩
  obtain ⟨hblk, hbel, hsz⟩ := kept5 hb
  have hbel' := Lib.hid hbel
  have hblk' := Lib.hid hblk
  obtain ⟨g0, g1, g2, g3, g4, f0⟩ := cells5 hblk
  clear hb hbel hblk
  go_wp2_with fail
  refine (TurnedP_any _ _ hk'.out).mono ?_
  rintro e w2 ⟨rfl, rfl⟩
  go_wp2_with fail
  refine (HoldsP_any _ _ _ _ _ _ _ hT.out).mono ?_
  rw [hH'.out]
  rintro e w3 ⟨rfl, h3⟩
  obtain ⟨e0, e1, e2, e3, e4, f1⟩ := cells5 (boxed hblk'.out hsz h3)
  have hbel3 := Lib.hid (Below.next hbel'.out h3)
  clear h3 g0 g1 g2 g3 g4 f0
  go_wp2_with fail
  refine (Holds_any _ _ _ _ _ _ _ hk'.out).mono ?_
  rw [← hHd'.out]
  rintro e w4 ⟨rfl, h4⟩
  have hbel4 := Lib.hid (Below.next hbel3.out h4)
  clear h4 e0 e1 e2 e3 e4 f1
  cases H
  all_goals
    go_wp2_with (first | (go_at_call 16; refine (num_any _ _).mono ?_; rintro e w' ⟨rfl, rfl⟩))
    refine (known_any _).mono ?_
    rintro e w5 ⟨rfl, h5⟩
    go_wp2_with fail
    go_ret
    exact ⟨rfl, Below.next hbel4.out h5⟩

theorem wordHolds_any (k : Int) (c z s o p : Bool) (w : World) : Calls Try.prog 6 #[.int .i64 k, .agg #[.bool c, .bool z, .bool s, .bool o, .bool p]] w (Yes w) := by
  by_cases hk : 0 ≤ k ∧ k ≤ 15
  · exact wordHolds_yes k c z s o p w hk
  · exact wordHolds_no k c z s o p w hk
end Go.Proofs.Ytkfenljldmbmcaa
