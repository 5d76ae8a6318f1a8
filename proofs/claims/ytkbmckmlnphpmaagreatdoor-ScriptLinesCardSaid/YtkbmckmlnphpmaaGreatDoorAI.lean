/- The chapter's rows: known. -/
import Derived.Test.YtkbmckmlnphpmaaGreatDoorAH
set_option linter.unusedSimpArgs false
set_option linter.unusedVariables false
namespace Go.Proofs.YtkbmckmlnphpmaaGreatDoor
open Go.RowKit Go.Lib Go.Shelf

set_option maxRecDepth 100000 in
set_option maxHeartbeats 1000000 in
theorem num_any (e : Int) (w : World) : Calls Tryz.prog 16 #[.int .i64 e] w fun e' w' => e' = .returned (.int .i64 e) ∧ w = w' := by
  go_enter Tryz.func16, Tryz.ntmps16
  go_wp2
  go_ret
  exact ⟨rfl, rfl⟩
set_option maxRecDepth 100000 in
set_option maxHeartbeats 2000000 in
theorem wrong_any (text : ByteArray) (line : Int) (w : World) (hE : Env w) (hs : text.size ≤ 1000000 ∨ 1048576 < text.size) :
    Calls Tryz.prog 43 #[.string text, .int .i64 line] w (BoolPost (decide ((parseM text).1.length = 0 ∧ ((parseM text).2.1 : Int) = line ∧ (parseM text).2.2 = 15)) w) := by
  have hk := parse_any text w hE hs
  obtain ⟨⟨L, n, er⟩, hp⟩ : ∃ x, parseM text = x := ⟨_, rfl⟩
  unfold ParsePost at hk
  rw [hp] at hk ⊢
  dsimp only at hk ⊢
  have hk' := Lib.hid hk
  obtain ⟨ll, hll⟩ : ∃ ll, L.length = ll := ⟨_, rfl⟩
  rw [hll] at hk' ⊢
  clear hk hp hs hE hll
  have hn := Lib.hid fun e w => num_any e w
  by_cases h1 : ll = 0
  · subst h1
    by_cases h2 : (n : Int) = line
    · subst h2
      by_cases h3 : er = 15
      · subst h3
        go_enter Tryz.func43, Tryz.ntmps43
        go_wp2_with fail
        refine hk'.out.mono ?_
        rintro e w1 ⟨A, c, rfl, _, hb⟩
        have hb' := Lib.hid hb
        clear hb
        go_wp2_with fail
        refine (hn.out _ _).mono ?_
        rintro e w2 ⟨rfl, rfl⟩
        go_wp2
        go_ret
        exact ⟨ret_bool (by simp), hb'.out⟩
      · have e3 : (er == 15) = false := by simpa using h3
        have h3' := Lib.hid h3
        go_enter Tryz.func43, Tryz.ntmps43
        go_wp2_with fail
        refine hk'.out.mono ?_
        rintro e w1 ⟨A, c, rfl, _, hb⟩
        have hb' := Lib.hid hb
        clear hb
        go_wp2_with fail
        refine (hn.out _ _).mono ?_
        rintro e w2 ⟨rfl, rfl⟩
        go_wp2
        go_ret
        exact ⟨ret_bool (by simp [h3'.out]), hb'.out⟩
    · have e2 : ((n : Int) == line) = false := by simpa using h2
      have h2' := Lib.hid h2
      clear h2
      go_enter Tryz.func43, Tryz.ntmps43
      go_wp2_with fail
      refine hk'.out.mono ?_
      rintro e w1 ⟨A, c, rfl, _, hb⟩
      have hb' := Lib.hid hb
      clear hb
      go_wp2
      go_ret
      exact ⟨ret_bool (by simp [h2'.out]), hb'.out⟩
  · have e1 : ((ll : Int) == 0) = false := by simpa using h1
    have h1' := Lib.hid h1
    clear h1
    go_enter Tryz.func43, Tryz.ntmps43
    go_wp2_with fail
    refine hk'.out.mono ?_
    rintro e w1 ⟨A, c, rfl, _, hb⟩
    have hb' := Lib.hid hb
    clear hb
    go_wp2
    go_ret
    exact ⟨ret_bool (by simp [h1'.out]), hb'.out⟩
end Go.Proofs.YtkbmckmlnphpmaaGreatDoor
