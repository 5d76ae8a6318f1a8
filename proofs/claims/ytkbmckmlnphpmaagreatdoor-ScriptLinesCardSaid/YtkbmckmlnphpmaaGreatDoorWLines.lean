/- ScriptLines: the walk. -/
import Derived.Test.YtkbmckmlnphpmaaGreatDoorBI
import Derived.Test.YtkbmckmlnphpmaaGreatDoorBJ
import Derived.Test.YtkbmckmlnphpmaaGreatDoorAJ
set_option linter.unusedSimpArgs false
set_option linter.unusedVariables false
namespace Go.Proofs.YtkbmckmlnphpmaaGreatDoor
open Go.RowKit Go.Lib Go.Shelf

theorem sat_nil (w : World) : SAt w none [] := fun h => absurd h (Nat.lt_irrefl 0)
theorem linesM_len (a : Ask) (hs : AskSm a) : (linesM a).length ≤ 100000 := by
  unfold linesM linesA
  have := hs.l2
  split
  · simp; omega
  · exact Nat.zero_le _
theorem AskO.ok {w : World} {a : Ask} {A1 A2 : Option Addr} (h : AskO w a A1 A2) (h1 : a.args.length ≤ 4000000) (h2 : a.regs.length ≤ 4000000) (h3 : ∀ ws ∈ a.regs, ws.length ≤ 4000000) : AskOK w a A1 A2 :=
  ⟨h.args, h.regs.wsAt h3, h1, h2⟩
theorem once_any (a : Ask) (A1 A2 : Option Addr) (c1 c2 : Nat) (B : Option Addr) (LN cw : Nat) (m : Int) (w : World) (hA : AskOK w a A1 A2) (hs : AskSm a) (hT : Tab w) (hLN : (linesM a).length = LN) (hB : SAt w B (linesM a)) :
    Calls Tryz.prog 36 #[askVal a A1 c1 A2 c2, .slice B LN cw, .int .i64 m] w (BoolPost true w) :=
  callsIn_wide.1 (once_in a A1 A2 c1 c2 B LN cw m w hA hs hT hLN hB (by rw [← hLN]; exact linesM_len a hs))

set_option maxRecDepth 100000 in
set_option maxHeartbeats 8000000 in
theorem scriptLines_any (a : Ask) (A1 A2 : Option Addr) (c1 c2 : Nat) (m : Int) (w : World) (hO : AskO w a A1 A2) (hZ : AskLe a) (hE : Env w) :
    Calls Tryz.prog 7 #[askVal a A1 c1 A2 c2, .int .i64 m] w (BoolPost true w) := by
  have hb0 := Lib.hid ((Below.refl w.heap.size w).alloc (Nat.le_refl _) (.cells #[.int .i64 a.k, .slice A1 a.args.length c1, .slice A2 a.regs.length c2, .int .u64 a.st, .int .i64 a.fu] 42))
  have hbx := heap_alloc_new w (.cells #[.int .i64 a.k, .slice A1 a.args.length c1, .slice A2 a.regs.length c2, .int .u64 a.st, .int .i64 a.fu] 42)
  obtain ⟨g0, g1, g2, g3, g4, gf⟩ := box5 hbx
  have kc := Lib.hid fun (W : World) (h : Below (w.alloc (.cells #[.int .i64 a.k, .slice A1 a.args.length c1, .slice A2 a.regs.length c2, .int .u64 a.st, .int .i64 a.fu] 42)).heap.size (w.alloc (.cells #[.int .i64 a.k, .slice A1 a.args.length c1, .slice A2 a.regs.length c2, .int .u64 a.st, .int .i64 a.fu] 42)) W) => (show W.cell? ⟨w.heap.size, 0, none⟩ = some (.int .i64 a.k) ∧ W.cell? ⟨w.heap.size, 1, none⟩ = some (.slice A1 a.args.length c1) ∧ W.cell? ⟨w.heap.size, 2, none⟩ = some (.slice A2 a.regs.length c2) ∧ W.cell? ⟨w.heap.size, 3, none⟩ = some (.int .u64 a.st) ∧ W.cell? ⟨w.heap.size, 4, none⟩ = some (.int .i64 a.fu) from by
    obtain ⟨g0, g1, g2, g3, g4, gf⟩ := box5 ((h.block _ (blk_lt hbx)).trans hbx)
    exact ⟨g0, g1, g2, g3, g4⟩)
  have kS := Lib.hid (refSmall_any a.k A1 A2 a.args.length c1 a.regs.length c2 a.regs a.st a.fu 3000 (w.alloc (.cells #[.int .i64 a.k, .slice A1 a.args.length c1, .slice A2 a.regs.length c2, .int .u64 a.st, .int .i64 a.fu] 42)) rfl (hO.regs.below hb0.out) hZ.1 hZ.2.1 (by omega))
  have kK := Lib.hid fun W (hb : Below w.heap.size w W) => known_any W (hE.below hb)
  have hnn := Lib.hid fun e w => num_any e w
  have hO' := Lib.hid hO
  have hZ' := Lib.hid hZ
  have hE' := Lib.hid hE
  clear hO hZ hE hbx
  unfold askVal
  go_enter Tryz.func7, Tryz.ntmps7
  go_wp2_with fail
  refine kS.out.mono ?_
  rintro e w1 ⟨b, rfl, hbm, hb1⟩
  cases b
  · have b1 := Lib.hid (Below.next hb0.out hb1)
    clear hb1 hbm
    go_wp2_with fail
    refine (kK.out _ b1.out).mono ?_
    rintro e w2 ⟨rfl, hb2⟩
    have b2 := Lib.hid (Below.next b1.out hb2)
    clear hb2
    go_wp2
    go_ret
    exact ⟨rfl, b2.out⟩
  · obtain ⟨q1, q2⟩ := hbm rfl
    have hok := Lib.hid (hO'.out.ok (by omega) (by omega) (fun ws h => by have := q2 ws h; omega))
    have hsm := Lib.hid (show AskSm a from ⟨by omega, by omega, fun ws h => by have := q2 ws h; omega, hO'.out.st⟩)
    obtain ⟨t, ht⟩ : ∃ t, mayA a = t := ⟨_, rfl⟩
    have ht' := Lib.hid ht
    have kO := Lib.hid fun W (hb : Below w.heap.size w W) B LN cw m (hLN : (linesM a).length = LN) (hB : SAt W B (linesM a)) => (show Calls Tryz.prog 36 #[.agg #[.int .i64 a.k, .slice A1 a.args.length c1, .slice A2 a.regs.length c2, .int .u64 a.st, .int .i64 a.fu], .slice B LN cw, .int .i64 m] W (BoolPost true W) from once_any a A1 A2 c1 c2 B LN cw m W (hok.out.below hb) hsm.out (hE'.out.below hb).tab hLN hB)
    have kL := fun W (hb : Below w.heap.size w W) => line33_any a.k A1 A2 a.args.length c1 a.regs.length c2 a.regs a.st a.fu W rfl (hok.out.below hb).2.1 (by omega) (by omega) (hE'.out.below hb).tab hO'.out.st
    have kM := fun W (hb : Below w.heap.size w W) => may_any a.k A1 A2 a.args.length c1 a.regs.length c2 a.regs a.st a.fu W rfl (hok.out.below hb).2.1 (by omega) (by omega)
    have kN := fun W (hb : Below w.heap.size w W) => refMay_any a.k A1 A2 a.args.length c1 a.regs.length c2 a.regs a.st a.fu W rfl (hO'.out.regs.below hb) hZ'.out.1 hZ'.out.2.1
    rw [show mayV a.k a.args.length a.regs.length a.st a.fu (shortB a.regs) = t from ht] at kL kM kN
    have kM := Lib.hid kM
    have kN := Lib.hid kN
    have b1 := Lib.hid (Below.next hb0.out hb1)
    have d1 := Lib.hid hb1
    obtain ⟨g0, g1, g2, g3, g4⟩ := kc.out _ d1.out
    clear hb1 hbm q1 q2 ht
    cases t
    · rw [if_neg (by simp), if_neg (by simp)] at kL
      have kL := Lib.hid kL
      have hl0 := Lib.hid (show linesM a = [] by unfold linesM; rw [ht'.out]; rfl)
      go_wp2_with fail
      refine (kL.out _ b1.out).mono ?_
      rintro e w2 ⟨rfl, hb2⟩
      have b2 := Lib.hid (Below.next b1.out hb2)
      have d2 := Lib.hid (Below.next d1.out hb2)
      obtain ⟨g0, g1, g2, g3, g4⟩ := kc.out _ d2.out
      clear hb2
      have y0 := Sub.cell g0
      have y1 := Sub.cell g1
      have y2 := Sub.cell g2
      have y3 := Sub.cell g3
      have y4 := Sub.cell g4
      have sM := Lib.hid fun (s : Sub w2) => kM.out s.val (Below.next b2.out s.property)
      have sN := Lib.hid fun (s : Sub w2) => kN.out s.val (Below.next b2.out s.property)
      go_wp2_with fail
      refine wp_region_below (by kernel_rfl) (by kernel_rfl) ?_
      repeat (go_big_quiet_step ((first | (go_at_call 34; exact Sub.call (sM.out _)) | (go_at_call 35; exact Sub.call (sN.out _)))))
      refine wpQuiet_nil ?_
      rintro _ ⟨⟨w3, hb3⟩, rfl⟩
      have b3 := Lib.hid (Below.next b2.out hb3)
      have d3 := Lib.hid (Below.next d2.out hb3)
      obtain ⟨g0, g1, g2, g3, g4⟩ := kc.out _ d3.out
      clear hb3 y0 y1 y2 y3 y4
      go_wp2_with fail
      refine (kN.out _ b3.out).mono ?_
      rintro e w4 ⟨rfl, hb4⟩
      have b4 := Lib.hid (Below.next b3.out hb4)
      have d4 := Lib.hid (Below.next d3.out hb4)
      obtain ⟨g0, g1, g2, g3, g4⟩ := kc.out _ d4.out
      clear hb4
      go_wp2_with (first | (go_at_call 16; refine (hnn.out _ _).mono ?_; rintro e wA ⟨rfl, rfl⟩) | (go_at_call 36; refine (kO.out _ b4.out none 0 0 0 (by rw [hl0.out]; rfl) (by rw [hl0.out]; exact sat_nil _)).mono ?_; rintro e w5 ⟨rfl, hb5⟩; have b5 := Lib.hid (Below.next b4.out hb5); clear hb5) | (go_at_call 13; refine (kK.out _ b5.out).mono ?_; rintro e w6 ⟨rfl, hb6⟩; have b6 := Lib.hid (Below.next b5.out hb6); clear hb6))
      go_ret
      exact ⟨rfl, b6.out⟩
    · rw [if_pos rfl, if_pos rfl] at kL
      have kR := Lib.hid fun W (hb : Below w.heap.size w W) => (show Calls Tryz.prog 37 #[.agg #[.int .i64 a.k, .slice A1 a.args.length c1, .slice A2 a.regs.length c2, .int .u64 a.st, .int .i64 a.fu]] W (SlPost (linesM a) W) from by
        have h := refLines_any a A1 A2 c1 c2 W (hok.out.below hb) hsm.out.l1 hsm.out.l2 hsm.out.l3 (hE'.out.below hb).tab hsm.out.st (mayA_fu ht'.out)
        rw [show linesA a = linesM a by unfold linesM; rw [if_pos ht'.out]] at h
        exact h)
      have kT := fun W (hb : Below w.heap.size w W) => refLine_any a.k A1 A2 a.args.length c1 a.regs.length c2 a.st a.fu W (hE'.out.below hb).tab hsm.out.st.1 hsm.out.st.2 (mayA_fu ht'.out).1 (mayA_fu ht'.out).2
      generalize askedT a.k a.st a.fu = T at kL kT
      have kL := Lib.hid kL
      have kT := Lib.hid kT
      obtain ⟨LN, hLN⟩ : ∃ LN, (linesM a).length = LN := ⟨_, rfl⟩
      have hLN' := Lib.hid hLN
      clear hLN
      go_wp2_with fail
      refine (kL.out _ b1.out).mono ?_
      rintro e w2 ⟨rfl, hb2⟩
      have b2 := Lib.hid (Below.next b1.out hb2)
      have d2 := Lib.hid (Below.next d1.out hb2)
      obtain ⟨g0, g1, g2, g3, g4⟩ := kc.out _ d2.out
      clear hb2
      have y0 := Sub.cell g0
      have y1 := Sub.cell g1
      have y2 := Sub.cell g2
      have y3 := Sub.cell g3
      have y4 := Sub.cell g4
      have sM := Lib.hid fun (s : Sub w2) => kM.out s.val (Below.next b2.out s.property)
      have sN := Lib.hid fun (s : Sub w2) => kN.out s.val (Below.next b2.out s.property)
      go_wp2_with fail
      refine wp_region_below (by kernel_rfl) (by kernel_rfl) ?_
      repeat (go_big_quiet_step ((first | (go_at_call 34; exact Sub.call (sM.out _)) | (go_at_call 35; exact Sub.call (sN.out _)))))
      refine wpQuiet_nil ?_
      rintro _ ⟨⟨w3, hb3⟩, rfl⟩
      have b3 := Lib.hid (Below.next b2.out hb3)
      have d3 := Lib.hid (Below.next d2.out hb3)
      obtain ⟨g0, g1, g2, g3, g4⟩ := kc.out _ d3.out
      clear hb3 y0 y1 y2 y3 y4
      go_wp2_with fail
      refine (kN.out _ b3.out).mono ?_
      rintro e w4 ⟨rfl, hb4⟩
      have b4 := Lib.hid (Below.next b3.out hb4)
      have d4 := Lib.hid (Below.next d3.out hb4)
      obtain ⟨g0, g1, g2, g3, g4⟩ := kc.out _ d4.out
      clear hb4
      go_wp2_with fail
      refine (kR.out _ b4.out).mono ?_
      rintro e w5 ⟨B, cw, rfl, hB, hb5⟩
      rw [hLN'.out]
      have b5 := Lib.hid (Below.next b4.out hb5)
      have d5 := Lib.hid (Below.next d4.out hb5)
      obtain ⟨g0, g1, g2, g3, g4⟩ := kc.out _ d5.out
      have hB := Lib.hid hB
      clear hb5
      go_wp2_with fail
      refine (kT.out _ b5.out).mono ?_
      rintro e w6 ⟨rfl, hb6⟩
      have b6 := Lib.hid (Below.next b5.out hb6)
      have d6 := Lib.hid (Below.next d5.out hb6)
      have hB := Lib.hid (hB.out.below hb6)
      obtain ⟨g0, g1, g2, g3, g4⟩ := kc.out _ d6.out
      clear hb6
      go_wp2_with (go_at_call 16; refine (hnn.out _ _).mono ?_; rintro e wA ⟨rfl, rfl⟩)
      refine (kO.out _ b6.out B LN cw m hLN'.out hB.out).mono ?_
      rintro e w7 ⟨rfl, hb7⟩
      have b7 := Lib.hid (Below.next b6.out hb7)
      have d7 := Lib.hid (Below.next d6.out hb7)
      have hB := Lib.hid (hB.out.below hb7)
      obtain ⟨g0, g1, g2, g3, g4⟩ := kc.out _ d7.out
      clear hb7
      go_wp2_with fail
      refine (kO.out _ b7.out B LN cw 0 hLN'.out hB.out).mono ?_
      rintro e w8 ⟨rfl, hb8⟩
      have b8 := Lib.hid (Below.next b7.out hb8)
      clear hb8
      go_wp2_with fail
      refine (kK.out _ b8.out).mono ?_
      rintro e w9 ⟨rfl, hb9⟩
      have b9 := Lib.hid (Below.next b8.out hb9)
      clear hb9
      go_wp2
      go_ret
      exact ⟨rfl, b9.out⟩
end Go.Proofs.YtkbmckmlnphpmaaGreatDoor
