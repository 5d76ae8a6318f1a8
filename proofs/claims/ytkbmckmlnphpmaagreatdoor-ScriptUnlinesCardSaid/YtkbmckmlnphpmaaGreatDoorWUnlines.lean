/- ScriptUnlines: the walk. -/
import Derived.Test.YtkbmckmlnphpmaaGreatDoorAP3
import Derived.Test.YtkbmckmlnphpmaaGreatDoorAR
set_option linter.unusedSimpArgs false
set_option linter.unusedVariables false
namespace Go.Proofs.YtkbmckmlnphpmaaGreatDoor
open Go.RowKit Go.Lib Go.Shelf

theorem askOK_nil (w : World) (k st fu : Int) : AskOK w ⟨k, [], [], st, fu⟩ none none := ⟨⟨(fun x hx => by cases hx), fun h => absurd h (Nat.lt_irrefl 0)⟩, fun h => absurd h (Nat.lt_irrefl 0), Nat.zero_le _, Nat.zero_le _⟩
set_option maxRecDepth 100000 in
set_option maxHeartbeats 4000000 in
theorem scriptUnlines_any (s : ByteArray) (w : World) (hE : Env w) : Calls Tryz.prog 4 #[.string s] w (BoolPost true w) := by
  have hk0 := Lib.hid (known_any w hE)
  by_cases h1 : 9000 < s.size
  · have e1 : (9000 : Int) < (s.size : Int) := by omega
    clear h1
    go_enter Tryz.func4, Tryz.ntmps4
    go_wp2_with fail
    refine hk0.out.mono ?_
    rintro e w1 ⟨rfl, hb⟩
    have hb' := Lib.hid hb
    clear hb
    go_wp2
    go_ret
    exact ⟨rfl, hb'.out⟩
  · have e1 : ¬ (9000 : Int) < (s.size : Int) := by omega
    obtain ⟨k, st, fu, ok, hU, hV⟩ : ∃ (k st fu : Int) (ok : Bool), (Calls Tryz.prog 21 #[.string s] w fun e w' => e = .returned (.tuple #[.agg #[.int .i64 k, .slice none 0 0, .slice none 0 0, .int .u64 st, .int .i64 fu], .int .i64 (if ok then 0 else 15)]) ∧ Below w.heap.size w w') ∧
        (∀ W, Calls Tryz.prog 22 #[.string s] W fun e w' => e = .returned (.tuple #[.agg #[.int .i64 k, .slice none 0 0, .slice none 0 0, .int .u64 st, .int .i64 fu], .bool ok]) ∧ Below W.heap.size W w') := by
      cases hu : unlineM s with
      | none => exact ⟨0, 0, 0, false, (unline_any s w hE (by omega)).mono fun e w' h => ⟨h.1 hu, h.2.2⟩, fun W => (refUnline_any s W (by omega)).mono fun e w' h => ⟨h.1 hu, h.2.2⟩⟩
      | some x =>
        obtain ⟨k, st, fu⟩ := x
        exact ⟨k, st, fu, true, (unline_any s w hE (by omega)).mono fun e w' h => ⟨h.2.1 k st fu hu, h.2.2⟩, fun W => (refUnline_any s W (by omega)).mono fun e w' h => ⟨h.2.1 k st fu hu, h.2.2⟩⟩
    have kU := Lib.hid hU
    have kV := Lib.hid hV
    have kS := Lib.hid fun (W : World) => (show Calls Tryz.prog 23 #[.agg #[.int .i64 k, .slice none 0 0, .slice none 0 0, .int .u64 st, .int .i64 fu], .agg #[.int .i64 k, .slice none 0 0, .slice none 0 0, .int .u64 st, .int .i64 fu]] W (BoolPost true W) from by
      have h := refSame_any ⟨k, [], [], st, fu⟩ ⟨k, [], [], st, fu⟩ none none none none 0 0 0 0 W (askOK_nil W k st fu) (askOK_nil W k st fu)
      rw [decide_eq_true rfl] at h
      exact h)
    have kK := Lib.hid fun (W : World) (hb : Below w.heap.size w W) => known_any W (hE.below hb)
    have hnn := Lib.hid fun e w => num_any e w
    clear hU hV hE h1 hk0
    cases ok
    all_goals (
      go_enter Tryz.func4, Tryz.ntmps4
      go_wp2_with fail
      refine kU.out.mono ?_
      rintro e w1 ⟨rfl, hb1⟩
      have b1 := Lib.hid hb1
      have hnew := Lib.hid (heap_alloc_new w1 (.cells #[.int .i64 k, .slice none 0 0, .slice none 0 0, .int .u64 st, .int .i64 fu] 42))
      have ba := Lib.hid ((Below.refl w1.heap.size w1).alloc (Nat.le_refl _) (.cells #[.int .i64 k, .slice none 0 0, .slice none 0 0, .int .u64 st, .int .i64 fu] 42))
      clear hb1
      go_wp2_with fail
      refine (kV.out _).mono ?_
      rintro e w2 ⟨rfl, hb2⟩
      have hq := (hb2.block w1.heap.size (by simp)).trans hnew.out
      have b2 := Lib.hid (Below.next b1.out (ba.out.trans (hb2.mono ba.out.size)))
      have hlt := blk_lt hq
      have ha := heap_alloc_old w2 (.cells #[.int .i64 k, .slice none 0 0, .slice none 0 0, .int .u64 st, .int .i64 fu] 42) hlt
      obtain ⟨q0, q1, q2, q3, q4, qf⟩ := box5 (ha.trans hq)
      have b3 := Lib.hid (b2.out.alloc b2.out.size (.cells #[.int .i64 k, .slice none 0 0, .slice none 0 0, .int .u64 st, .int .i64 fu] 42))
      clear hb2 ha hq
      go_wp2_with fail
      refine (kS.out _).mono ?_
      rintro e w3 ⟨rfl, hb3⟩
      have b4 := Lib.hid (b3.out.trans (hb3.mono b3.out.size))
      clear hb3
      go_wp2_with (first | (go_at_call 16; refine (hnn.out _ _).mono ?_; rintro e wA ⟨rfl, rfl⟩) | (go_at_call 13; refine (kK.out _ b4.out).mono ?_; rintro e w6 ⟨rfl, hb6⟩; have b6 := Lib.hid (Below.next b4.out hb6); clear hb6))
      go_ret
      exact ⟨rfl, b6.out⟩)
end Go.Proofs.YtkbmckmlnphpmaaGreatDoor
