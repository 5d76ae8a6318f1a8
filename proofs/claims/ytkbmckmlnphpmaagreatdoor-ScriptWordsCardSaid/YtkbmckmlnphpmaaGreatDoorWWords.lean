/- ScriptWords: the walk. -/
import Derived.Test.YtkbmckmlnphpmaaGreatDoorAJ
set_option linter.unusedSimpArgs false
set_option linter.unusedVariables false
namespace Go.Proofs.YtkbmckmlnphpmaaGreatDoor
open Go.RowKit Go.Lib Go.Shelf

set_option maxRecDepth 100000 in
set_option maxHeartbeats 8000000 in
theorem scriptWords_any (word : ByteArray) (A : Option Addr) (n c : Nat) (l : List Int) (s : ByteArray) (w : World) (hl : l.length = n) (hA : WAt w A l) (hE : Env w) :
    Calls Tryz.prog 3 #[.string word, .slice A n c, .string s] w (BoolPost true w) := by
  have hk0 := Lib.hid (known_any w hE)
  by_cases h1 : 9000 < word.size
  · have e1 : (9000 : Int) < (word.size : Int) := by omega
    clear h1
    go_enter Tryz.func3, Tryz.ntmps3
    go_wp2_with fail
    refine hk0.out.mono ?_
    rintro e w1 ⟨rfl, hb⟩
    have hb' := Lib.hid hb
    clear hb
    go_wp2
    go_ret
    exact ⟨rfl, hb'.out⟩
  · have e1 : ¬ (9000 : Int) < (word.size : Int) := by omega
    by_cases h2 : 9000 < s.size
    · have e2 : (9000 : Int) < (s.size : Int) := by omega
      clear h1 h2
      go_enter Tryz.func3, Tryz.ntmps3
      go_wp2_with fail
      refine hk0.out.mono ?_
      rintro e w1 ⟨rfl, hb⟩
      have hb' := Lib.hid hb
      clear hb
      go_wp2
      go_ret
      exact ⟨rfl, hb'.out⟩
    · have e2 : ¬ (9000 : Int) < (s.size : Int) := by omega
      by_cases h3 : 600 < n
      · have e3 : (600 : Int) < (n : Int) := by omega
        clear h1 h2 h3
        go_enter Tryz.func3, Tryz.ntmps3
        go_wp2_with fail
        refine hk0.out.mono ?_
        rintro e w1 ⟨rfl, hb⟩
        have hb' := Lib.hid hb
        clear hb
        go_wp2
        go_ret
        exact ⟨rfl, hb'.out⟩
      · have e3 : ¬ (600 : Int) < (n : Int) := by omega
        have kW := Lib.hid (words_any word A n c l w hl hA hE.tab (by omega) (by omega))
        have kR := Lib.hid fun (W : World) => refWord_any word W (by omega)
        have kQ := Lib.hid fun (W : World) (hb : Below w.heap.size w W) => refWords_any word A n c l W hl (hA.below hb) (hE.below hb).tab (by omega) (by omega)
        have kU := Lib.hid fun (W : World) (hb : Below w.heap.size w W) => unwords_any s W (hE.below hb) (by omega)
        have kV := Lib.hid fun (W : World) => refUnwords_any s W (by omega)
        have kK := Lib.hid fun (W : World) (hb : Below w.heap.size w W) => known_any W (hE.below hb)
        have hul := Lib.hid fun p l (h : unwM s = some (p, l)) => unw_len h
        have hs9 := Lib.hid (show s.size ≤ 9000 by omega)
        clear hl hA hE h1 h2 h3 hk0
        -- the second half, for whatever comes of the first
        obtain ⟨p, ls, ok, hU, hV⟩ : ∃ (p : ByteArray) (ls : List Int) (ok : Bool), (∀ W, Below w.heap.size w W → Calls Tryz.prog 18 #[.string s] W fun e w' => ∃ A2 c2, e = .returned (.tuple #[.string p, .slice A2 ls.length c2, encE ok]) ∧ WAt w' A2 ls ∧ Below W.heap.size W w') ∧
            (∀ W, Calls Tryz.prog 19 #[.string s] W fun e w' => ∃ A2 c2, e = .returned (.tuple #[.string p, .slice A2 ls.length c2, .bool ok]) ∧ WAt w' A2 ls ∧ Below W.heap.size W w') ∧ ls.length ≤ 9001 := by
          cases hu : unwM s with
          | none =>
            exact ⟨⟨#[]⟩, [], false, fun W hb => (kU.out W hb).mono fun e w' h => ⟨none, 0, h.1 hu, ⟨(fun x hx => by cases hx), fun h => absurd h (Nat.lt_irrefl 0)⟩, h.2.2⟩, fun W => (kV.out W).mono fun e w' h => ⟨none, 0, h.1 hu, ⟨(fun x hx => by cases hx), fun h => absurd h (Nat.lt_irrefl 0)⟩, h.2.2⟩, Nat.zero_le _⟩
          | some pl =>
            obtain ⟨p, ls⟩ := pl
            refine ⟨p, ls, true, fun W hb => (kU.out W hb).mono fun e w' h => ?_, fun W => (kV.out W).mono fun e w' h => ?_, by have := hul.out p ls hu; have := hs9.out; omega⟩
            · obtain ⟨A2, c2, h3, h4⟩ := h.2.1 p ls hu
              exact ⟨A2, c2, h3, h4.wat, h.2.2⟩
            · obtain ⟨A2, c2, h3, h4⟩ := h.2.1 p ls hu
              exact ⟨A2, c2, h3, h4.wat, h.2.2⟩
        obtain ⟨hV, hls⟩ := hV
        have kU2 := Lib.hid hU
        have kV2 := Lib.hid hV
        have hls' := Lib.hid hls
        obtain ⟨t, ht⟩ : ∃ t, wordB word = t := ⟨_, rfl⟩
        rw [ht] at kW kR
        obtain ⟨nl, hnl⟩ : ∃ nl, ls.length = nl := ⟨_, rfl⟩
        rw [hnl] at kU2 kV2 hls'
        have kS := Lib.hid fun (W : World) A1 c1 A2 c2 (h1 : WAt W A1 ls) (h2 : WAt W A2 ls) => (show Calls Tryz.prog 20 #[.slice A1 nl c1, .slice A2 nl c2] W (BoolPost true W) from by
          have h := sameList_any A1 A2 nl c1 nl c2 ls ls W hnl hnl h1 h2 (by have := hls'.out; omega) (by have := hls'.out; omega)
          rw [decide_eq_true rfl] at h
          exact h)
        have hnn := Lib.hid fun e w => num_any e w
        clear hU hV hls ht hnl kU kV hul
        unfold encE at kU2
        cases t
        · have kW2 := Lib.hid (show Calls Tryz.prog 14 #[.string word, .slice A n c] w (StrErr ⟨#[]⟩ 2 w) from kW.out)
          clear kW kQ
          cases ok
          all_goals (
            go_enter Tryz.func3, Tryz.ntmps3
            go_wp2_with fail
            refine kW2.out.mono ?_
            rintro e w1 ⟨rfl, hb1⟩
            have b1 := Lib.hid hb1
            clear hb1
            go_wp2_with fail
            refine (kR.out w1).mono ?_
            rintro e w2 ⟨rfl, rfl⟩
            go_wp2_with (first | (go_at_call 16; refine (hnn.out _ _).mono ?_; rintro e wA ⟨rfl, rfl⟩))
            refine (kU2.out _ b1.out).mono ?_
            rintro e w3 ⟨A3, c3, rfl, hA3, hb3⟩
            have b3 := Lib.hid (Below.next b1.out hb3)
            have hA3' := Lib.hid hA3
            clear hb3 hA3
            go_wp2_with fail
            refine (kV2.out w3).mono ?_
            rintro e w4 ⟨A4, c4, rfl, hA4, hb4⟩
            have b4 := Lib.hid (Below.next b3.out hb4)
            have kS2 := Lib.hid (kS.out w4 A3 c3 A4 c4 (hA3'.out.below hb4) hA4)
            clear hb4 hA4
            go_wp2_with (first | (go_at_call 16; refine (hnn.out _ _).mono ?_; rintro e wA ⟨rfl, rfl⟩) | (go_at_call 20; refine kS2.out.mono ?_; rintro e w5 ⟨rfl, hb5⟩; have b5 := Lib.hid (Below.next b4.out hb5); clear hb5) | (go_at_call 13; refine (kK.out _ b5.out).mono ?_; rintro e w6 ⟨rfl, hb6⟩; have b6 := Lib.hid (Below.next b5.out hb6); clear hb6))
            go_ret
            exact ⟨rfl, b6.out⟩)
        · have kW2 := Lib.hid (show Calls Tryz.prog 14 #[.string word, .slice A n c] w (StrErr (lineT word l) 0 w) from kW.out)
          clear kW
          obtain ⟨lt, hlt⟩ : ∃ lt, lineT word l = lt := ⟨_, rfl⟩
          rw [hlt] at kW2 kQ
          clear hlt
          cases ok
          all_goals (
            go_enter Tryz.func3, Tryz.ntmps3
            go_wp2_with fail
            refine kW2.out.mono ?_
            rintro e w1 ⟨rfl, hb1⟩
            have b1 := Lib.hid hb1
            clear hb1
            go_wp2_with fail
            refine (kR.out w1).mono ?_
            rintro e w2 ⟨rfl, rfl⟩
            go_wp2_with fail
            refine (kQ.out _ b1.out).mono ?_
            rintro e w2 ⟨rfl, hb2⟩
            have b2 := Lib.hid (Below.next b1.out hb2)
            clear hb2
            go_wp2_with (first | (go_at_call 16; refine (hnn.out _ _).mono ?_; rintro e wA ⟨rfl, rfl⟩))
            refine (kU2.out _ b2.out).mono ?_
            rintro e w3 ⟨A3, c3, rfl, hA3, hb3⟩
            have b3 := Lib.hid (Below.next b2.out hb3)
            have hA3' := Lib.hid hA3
            clear hb3 hA3
            go_wp2_with fail
            refine (kV2.out w3).mono ?_
            rintro e w4 ⟨A4, c4, rfl, hA4, hb4⟩
            have b4 := Lib.hid (Below.next b3.out hb4)
            have kS2 := Lib.hid (kS.out w4 A3 c3 A4 c4 (hA3'.out.below hb4) hA4)
            clear hb4 hA4
            go_wp2_with (first | (go_at_call 16; refine (hnn.out _ _).mono ?_; rintro e wA ⟨rfl, rfl⟩) | (go_at_call 20; refine kS2.out.mono ?_; rintro e w5 ⟨rfl, hb5⟩; have b5 := Lib.hid (Below.next b4.out hb5); clear hb5) | (go_at_call 13; refine (kK.out _ b5.out).mono ?_; rintro e w6 ⟨rfl, hb6⟩; have b6 := Lib.hid (Below.next b5.out hb6); clear hb6))
            go_ret
            exact ⟨rfl, b6.out⟩)
end Go.Proofs.YtkbmckmlnphpmaaGreatDoor
