/- ScriptBack: the walk. -/
import Derived.Test.YtkbmckmlnphpmaaGreatDoorCG
import Derived.Test.YtkbmckmlnphpmaaGreatDoorBJ
import Derived.Test.YtkbmckmlnphpmaaGreatDoorAJ
set_option linter.unusedSimpArgs false
set_option linter.unusedVariables false
namespace Go.Proofs.YtkbmckmlnphpmaaGreatDoor
open Go.RowKit Go.Lib Go.Shelf

theorem asksAt_K {w : World} {A : Option Addr} {L : List Ask} (h : AsksAt w A L) : AsksK w A L := by
  intro hn
  obtain ⟨g, e, hc⟩ := h hn
  refine ⟨g, 0, e, fun i a hi => ?_⟩
  obtain ⟨A1, c1, A2, c2, h1, h2⟩ := hc i a hi
  exact ⟨A1, c1, A2, c2, fun j v hj => by rw [Nat.zero_add]; exact h1 j v hj, h2.1, h2.2.1, by have := h2.2.2.1; omega, by have := h2.2.2.2; omega⟩
theorem unline_st {s : ByteArray} {k st fu : Int} (h : unlineM s = some (k, st, fu)) : 0 ≤ st ∧ st ≤ 18446744073709551615 := by
  rw [unlineM_eq] at h
  unfold refUnlM at h
  cases hu : unwM s with
  | none => rw [hu] at h; cases h
  | some pl =>
    obtain ⟨p, l⟩ := pl
    rw [hu] at h
    dsimp only at h
    have hr := unw_range hu
    have hd : 0 ≤ l.headD 0 ∧ l.headD 0 ≤ 18446744073709551615 := by
      cases l with
      | nil => exact ⟨Int.le_refl 0, by show (0 : Int) ≤ _; omega⟩
      | cons x l => exact hr x (by simp)
    split at h
    · cases h
    · split at h
      · cases h; exact ⟨Int.le_refl 0, by omega⟩
      · split at h
        · cases h; exact hd
        · split at h
          · cases h; exact hd
          · cases h
theorem take_st {r r' : RSt} {s : ByteArray} (h : takeM r s = some r') (hr : ∀ a ∈ r.l, 0 ≤ a.st ∧ a.st ≤ 18446744073709551615) : ∀ a ∈ r'.l, 0 ≤ a.st ∧ a.st ≤ 18446744073709551615 := by
  obtain ⟨l, args, regs, on⟩ := r
  unfold takeM at h
  cases on with
  | false =>
    dsimp only at h
    cases hu : unwM s with
    | none => rw [hu] at h; cases h
    | some pl =>
      obtain ⟨p, ws⟩ := pl
      rw [hu] at h
      dsimp only at h
      split at h
      · cases h; exact hr
      · cases h
  | true =>
    dsimp only at h
    cases hu : unwM s with
    | none => rw [hu] at h; cases h
    | some pl =>
      obtain ⟨p, ws⟩ := pl
      rw [hu] at h
      dsimp only at h
      split at h
      · split at h
        · cases h; exact hr
        · cases h
      · cases hl : unlineM s with
        | none => rw [hl] at h; cases h
        | some x =>
          obtain ⟨k, st, fu⟩ := x
          rw [hl] at h
          cases h
          intro a ha
          rcases List.mem_append.1 ha with ha | ha
          · exact hr a ha
          · rw [List.mem_singleton] at ha
            subst ha
            exact unline_st hl
theorem run_st : ∀ (ls : List ByteArray) (r r' : RSt), runL r ls = some r' → (∀ a ∈ r.l, 0 ≤ a.st ∧ a.st ≤ 18446744073709551615) → ∀ a ∈ r'.l, 0 ≤ a.st ∧ a.st ≤ 18446744073709551615
  | [], r, r', h, hr => by cases h; exact hr
  | s :: ls, r, r', h, hr => by
    rw [runL_cons] at h
    cases ht : takeM r s with
    | none => rw [ht] at h; cases h
    | some r2 =>
      rw [ht] at h
      exact run_st ls r2 r' h (take_st ht hr)
theorem parse_st {t : ByteArray} {L : List Ask} {n : Nat} (h : parseM t = (L, n, 0)) : (∀ a ∈ L, 0 ≤ a.st ∧ a.st ≤ 18446744073709551615) ∧ L.length ≤ 64 := by
  unfold parseM at h
  split at h
  · cases h
  · rename_i hs
    rw [run_goL _ _ _ _ (by rw [size_list]; omega)] at h
    obtain ⟨⟨m, o⟩, hg⟩ : ∃ x, goL zeroR 0 (linesB t.data.toList) (linesF t.data.toList).2 = x := ⟨_, rfl⟩
    rw [hg] at h
    cases o with
    | none => cases h
    | some r =>
      have h : (if r.on = true then (([] : List Ask), m, (15 : Int)) else if 64 < r.l.length then ([], 0, 3) else (r.l, 0, 0)) = (L, n, 0) := h
      by_cases hon : r.on = true
      · rw [if_pos hon] at h; cases h
      · rw [if_neg hon] at h
        by_cases hl : 64 < r.l.length
        · rw [if_pos hl] at h; cases h
        · rw [if_neg hl] at h
          have eL : r.l = L := by cases h; rfl
          subst eL
          obtain ⟨h1, _⟩ := goL_inv _ _ _ _ _ _ hg
          exact ⟨run_st _ _ _ h1 (fun a ha => by cases ha), by omega⟩

set_option maxRecDepth 100000 in
set_option maxHeartbeats 16000000 in
theorem scriptBack_any (L : List Ask) (A : Option Addr) (n c : Nat) (text : ByteArray) (w : World) (hL : L.length = n) (hO : AsksO w A L) (hZ : ∀ a ∈ L, AskLe a) (hn : n ≤ 17592186044416) (hE : Env w) : Calls Tryz.prog 11 #[.slice A n c, .string text] w (BoolPost true w) := by
  have kK := Lib.hid fun W (hb : Below w.heap.size w W) => known_any W (hE.below hb)
  have kM := Lib.hid fun W (hb : Below w.heap.size w W) => many_any L A n c W hL (hO.below hb) hZ hn
  have hnn := Lib.hid fun e w => num_any e w
  have hL' := Lib.hid hL
  have hO' := Lib.hid hO
  have hE' := Lib.hid hE
  clear hL hO hZ hE
  go_enter Tryz.func11, Tryz.ntmps11
  go_wp2_with fail
  refine (kK.out _ (Below.refl _ _)).mono ?_
  rintro e w1 ⟨rfl, hb1⟩
  have b1 := Lib.hid hb1
  clear hb1
  by_cases h3 : text.size ≤ 30000
  · have e3 : (text.size : Int) ≤ 30000 := by omega
    have kP := parse_any text w1 (hE'.out.below b1.out) (.inl (by omega))
    unfold ParsePost at kP
    obtain ⟨⟨L0, nn, er⟩, hp⟩ : ∃ x, parseM text = x := ⟨_, rfl⟩
    rw [hp] at kP
    dsimp only at kP
    have kP := Lib.hid kP
    have hp := Lib.hid hp
    clear h3
    go_wp2_with fail
    refine kP.out.mono ?_
    rintro e w2 ⟨A0, c0, rfl, hA0, hb2⟩
    have hA0 := Lib.hid (asksAt_K hA0)
    have b2 := Lib.hid (Below.next b1.out hb2)
    clear hb2 kP
    go_wp2_with fail
    refine (hnn.out _ _).mono ?_
    rintro e wB ⟨rfl, rfl⟩
    by_cases hr0 : er = 0
    · subst hr0
      obtain ⟨hst0, hl64⟩ := parse_st hp.out
      have kT0 := text_any L0 A0 L0.length c0 w2 rfl hA0.out (by omega) hst0 (hE'.out.below b2.out).tab
      unfold TextPost at kT0
      rw [parse_text hp.out] at kT0
      have kT0 := Lib.hid kT0
      clear hst0 hl64
      go_wp2_with fail
      refine kT0.out.mono ?_
      rintro e w3 ⟨rfl, hb3⟩
      have b3 := Lib.hid (Below.next b2.out hb3)
      clear hb3 kT0
      go_wp2_with (go_at_call 16; refine (hnn.out _ _).mono ?_; rintro e wA ⟨rfl, rfl⟩)
      refine (kM.out _ b3.out).mono ?_
      rintro e wm ⟨bm, rfl, hbm, hbm1⟩
      have bM := Lib.hid (Below.next b3.out hbm1)
      clear hbm1
      cases bm
      · obtain ⟨h80, hsm⟩ := hbm rfl
        rw [hL'.out] at h80
        have hA := hO'.out.small fun a ha => ⟨by have := (hsm a ha).1; omega, fun ws hws => by have := (hsm a ha).2 ws hws; omega⟩
        have hA' := Lib.hid hA
        have hst := Lib.hid (show ∀ a ∈ L, 0 ≤ a.st ∧ a.st ≤ 18446744073709551615 from fun a ha => by
          obtain ⟨k, hk⟩ := List.getElem?_of_mem ha
          have hlk := (List.getElem?_eq_some_iff.1 hk).1
          obtain ⟨_, _, q', B1, _, B2, _, _, hq', hokq, _⟩ := hO'.out.at_ (k := k) hlk
          rw [hk] at hq'
          cases hq'
          exact hokq.st)
        have hwW := Lib.hid (show ∀ a ∈ L, AskW a from fun q hq => by
          obtain ⟨k, hk⟩ := List.getElem?_of_mem hq
          have hlk := (List.getElem?_eq_some_iff.1 hk).1
          obtain ⟨_, _, q', B1, _, B2, _, _, hq', hokq, _⟩ := hA'.out.at_ (k := k) hlk
          rw [hk] at hq'
          cases hq'
          exact askOK_w hokq (hst.out q hq))
        have kT := text_any L A n c wm hL'.out (hA.below bM.out) (by omega) hst.out (hE'.out.below bM.out).tab
        unfold TextPost at kT
        obtain ⟨⟨tt, te⟩, hte⟩ : ∃ x, textM L = x := ⟨_, rfl⟩
        rw [hte] at kT
        have kT := Lib.hid kT
        have hte := Lib.hid hte
        clear hbm hsm hA
        go_wp2_with fail
        refine kT.out.mono ?_
        rintro e wt ⟨rfl, hbt⟩
        have bT := Lib.hid (Below.next bM.out hbt)
        clear hbt kT
        go_wp2_with fail
        refine (hnn.out _ _).mono ?_
        rintro e wA ⟨rfl, rfl⟩
        by_cases h0 : te = 0
        · subst h0
          have hpm := text_parse hte.out hwW.out
          have hts : tt.size ≤ 2000000 := by
            have h := hte.out
            unfold textM at h
            split at h
            · split at h
              · cases h
              · split at h
                · cases h
                · cases h; omega
            · cases h
          have kP := parse_any tt wt (hE'.out.below bT.out) (.inl hts)
          unfold ParsePost at kP
          rw [hpm] at kP
          dsimp only at kP
          rw [hL'.out] at kP
          have kP := Lib.hid kP
          clear hpm hts
          go_wp2_with fail
          refine kP.out.mono ?_
          rintro e wp ⟨B, cB, rfl, hB, hbp⟩
          have hB := Lib.hid (asksAt_K hB)
          have bP := Lib.hid (Below.next bT.out hbp)
          clear hbp kP
          go_wp2_with (go_at_call 16; refine (hnn.out _ _).mono ?_; rintro e wA ⟨rfl, rfl⟩)
          go_loopg [15] n (fun g s15 wr => ∃ k : Nat, k + g = n ∧ s15 = .int .i64 k ∧ Below wp.heap.size wp wr)
          case atStart => exact ⟨0, by omega, rfl, Below.refl _ _⟩
          case round =>
            obtain ⟨k, hkg, rfl, hb⟩ := hrel
            have hb := Lib.hid hb
            cases gk with
            | zero =>
              have e0 : ¬ ((k : Int) < (n : Int)) := by omega
              go_wp2
              go_ret
              exact ⟨rfl, Below.next bP.out hb.out⟩
            | succ g =>
              have e0 : (k : Int) < (n : Int) := by omega
              obtain ⟨g1, o1, a, A1, c1, A2, c2', rfl, ha, hok, y0, y1, y2, y3, y4⟩ := (hB.out.below hb.out).at_ (k := k) (by rw [hL'.out]; omega)
              obtain ⟨g2, o2, a2, B1, d1, B2, d2, rfl, ha2, hok2, z0, z1, z2, z3, z4⟩ := (hA'.out.below (Below.next bP.out hb.out)).at_ (k := k) (by rw [hL'.out]; omega)
              rw [ha] at ha2
              cases ha2
              have y0 := Sub.cell y0
              have y1 := Sub.cell y1
              have y2 := Sub.cell y2
              have y3 := Sub.cell y3
              have y4 := Sub.cell y4
              have z0 := Sub.cell z0
              have z1 := Sub.cell z1
              have z2 := Sub.cell z2
              have z3 := Sub.cell z3
              have z4 := Sub.cell z4
              have hsame := Lib.hid fun (s : Sub wr) => (show Calls Tryz.prog 23 #[.agg #[.int .i64 a.k, .slice A1 a.args.length c1, .slice A2 a.regs.length c2', .int .u64 a.st, .int .i64 a.fu], .agg #[.int .i64 a.k, .slice B1 a.args.length d1, .slice B2 a.regs.length d2, .int .u64 a.st, .int .i64 a.fu]] s.val (fun e w' => e = .returned (.bool true) ∧ Below s.val.heap.size s.val w') from by
                have h := refSame_any a a A1 A2 B1 B2 c1 c2' d1 d2 s.val (hok.below s.property) (hok2.below s.property)
                rw [decide_eq_true rfl] at h
                exact h)
              have hsame2 := Lib.hid fun (s : Sub wr) => (show Calls Tryz.prog 45 #[.agg #[.int .i64 a.k, .slice A1 a.args.length c1, .slice A2 a.regs.length c2', .int .u64 a.st, .int .i64 a.fu], .agg #[.int .i64 a.k, .slice B1 a.args.length d1, .slice B2 a.regs.length d2, .int .u64 a.st, .int .i64 a.fu]] s.val (fun e w' => e = .returned (.bool true) ∧ Below s.val.heap.size s.val w') from by
                have h := same_any a a A1 A2 B1 B2 c1 c2' d1 d2 s.val (hok.below s.property) (hok2.below s.property)
                rw [decide_eq_true rfl] at h
                exact h)
              clear ha hok hok2
              go_wp2_with fail
              refine wp_region_below (by kernel_rfl) (by kernel_rfl) ?_
              repeat (go_big_quiet_step (first | (go_at_call 23; exact Sub.call (hsame.out _)) | (go_at_call 45; exact Sub.call (hsame2.out _))))
              refine wpQuiet_nil ?_
              rintro _ ⟨⟨w3, hb3⟩, rfl⟩
              have hb3' := Lib.hid (Below.next hb.out hb3)
              clear hb3 y0 y1 y2 y3 y4 z0 z1 z2 z3 z4
              go_wp2
              go_roundg g
              case measure => omega
              case rel => exact ⟨k + 1, by omega, by go_num, hb3'.out⟩
        · have d0 : (te != 0) = true := by simpa using h0
          clear h0
          go_wp2
          go_ret
          exact ⟨rfl, bT.out⟩
      · clear hbm
        go_wp2
        go_ret
        exact ⟨rfl, bM.out⟩
    · have d1 : (er == 0) = false := by simpa using hr0
      clear hr0
      go_wp2_with fail
      refine (kM.out _ b2.out).mono ?_
      rintro e wm ⟨bm, rfl, hbm, hbm1⟩
      have bM := Lib.hid (Below.next b2.out hbm1)
      clear hbm1
      cases bm
      · obtain ⟨h80, hsm⟩ := hbm rfl
        rw [hL'.out] at h80
        have hA := hO'.out.small fun a ha => ⟨by have := (hsm a ha).1; omega, fun ws hws => by have := (hsm a ha).2 ws hws; omega⟩
        have hA' := Lib.hid hA
        have hst := Lib.hid (show ∀ a ∈ L, 0 ≤ a.st ∧ a.st ≤ 18446744073709551615 from fun a ha => by
          obtain ⟨k, hk⟩ := List.getElem?_of_mem ha
          have hlk := (List.getElem?_eq_some_iff.1 hk).1
          obtain ⟨_, _, q', B1, _, B2, _, _, hq', hokq, _⟩ := hO'.out.at_ (k := k) hlk
          rw [hk] at hq'
          cases hq'
          exact hokq.st)
        have hwW := Lib.hid (show ∀ a ∈ L, AskW a from fun q hq => by
          obtain ⟨k, hk⟩ := List.getElem?_of_mem hq
          have hlk := (List.getElem?_eq_some_iff.1 hk).1
          obtain ⟨_, _, q', B1, _, B2, _, _, hq', hokq, _⟩ := hA'.out.at_ (k := k) hlk
          rw [hk] at hq'
          cases hq'
          exact askOK_w hokq (hst.out q hq))
        have kT := text_any L A n c wm hL'.out (hA.below bM.out) (by omega) hst.out (hE'.out.below bM.out).tab
        unfold TextPost at kT
        obtain ⟨⟨tt, te⟩, hte⟩ : ∃ x, textM L = x := ⟨_, rfl⟩
        rw [hte] at kT
        have kT := Lib.hid kT
        have hte := Lib.hid hte
        clear hbm hsm hA
        go_wp2_with fail
        refine kT.out.mono ?_
        rintro e wt ⟨rfl, hbt⟩
        have bT := Lib.hid (Below.next bM.out hbt)
        clear hbt kT
        go_wp2_with fail
        refine (hnn.out _ _).mono ?_
        rintro e wA ⟨rfl, rfl⟩
        by_cases h0 : te = 0
        · subst h0
          have hpm := text_parse hte.out hwW.out
          have hts : tt.size ≤ 2000000 := by
            have h := hte.out
            unfold textM at h
            split at h
            · split at h
              · cases h
              · split at h
                · cases h
                · cases h; omega
            · cases h
          have kP := parse_any tt wt (hE'.out.below bT.out) (.inl hts)
          unfold ParsePost at kP
          rw [hpm] at kP
          dsimp only at kP
          rw [hL'.out] at kP
          have kP := Lib.hid kP
          clear hpm hts
          go_wp2_with fail
          refine kP.out.mono ?_
          rintro e wp ⟨B, cB, rfl, hB, hbp⟩
          have hB := Lib.hid (asksAt_K hB)
          have bP := Lib.hid (Below.next bT.out hbp)
          clear hbp kP
          go_wp2_with (go_at_call 16; refine (hnn.out _ _).mono ?_; rintro e wA ⟨rfl, rfl⟩)
          go_loopg [15] n (fun g s15 wr => ∃ k : Nat, k + g = n ∧ s15 = .int .i64 k ∧ Below wp.heap.size wp wr)
          case atStart => exact ⟨0, by omega, rfl, Below.refl _ _⟩
          case round =>
            obtain ⟨k, hkg, rfl, hb⟩ := hrel
            have hb := Lib.hid hb
            cases gk with
            | zero =>
              have e0 : ¬ ((k : Int) < (n : Int)) := by omega
              go_wp2
              go_ret
              exact ⟨rfl, Below.next bP.out hb.out⟩
            | succ g =>
              have e0 : (k : Int) < (n : Int) := by omega
              obtain ⟨g1, o1, a, A1, c1, A2, c2', rfl, ha, hok, y0, y1, y2, y3, y4⟩ := (hB.out.below hb.out).at_ (k := k) (by rw [hL'.out]; omega)
              obtain ⟨g2, o2, a2, B1, d1, B2, d2, rfl, ha2, hok2, z0, z1, z2, z3, z4⟩ := (hA'.out.below (Below.next bP.out hb.out)).at_ (k := k) (by rw [hL'.out]; omega)
              rw [ha] at ha2
              cases ha2
              have y0 := Sub.cell y0
              have y1 := Sub.cell y1
              have y2 := Sub.cell y2
              have y3 := Sub.cell y3
              have y4 := Sub.cell y4
              have z0 := Sub.cell z0
              have z1 := Sub.cell z1
              have z2 := Sub.cell z2
              have z3 := Sub.cell z3
              have z4 := Sub.cell z4
              have hsame := Lib.hid fun (s : Sub wr) => (show Calls Tryz.prog 23 #[.agg #[.int .i64 a.k, .slice A1 a.args.length c1, .slice A2 a.regs.length c2', .int .u64 a.st, .int .i64 a.fu], .agg #[.int .i64 a.k, .slice B1 a.args.length d1, .slice B2 a.regs.length d2, .int .u64 a.st, .int .i64 a.fu]] s.val (fun e w' => e = .returned (.bool true) ∧ Below s.val.heap.size s.val w') from by
                have h := refSame_any a a A1 A2 B1 B2 c1 c2' d1 d2 s.val (hok.below s.property) (hok2.below s.property)
                rw [decide_eq_true rfl] at h
                exact h)
              have hsame2 := Lib.hid fun (s : Sub wr) => (show Calls Tryz.prog 45 #[.agg #[.int .i64 a.k, .slice A1 a.args.length c1, .slice A2 a.regs.length c2', .int .u64 a.st, .int .i64 a.fu], .agg #[.int .i64 a.k, .slice B1 a.args.length d1, .slice B2 a.regs.length d2, .int .u64 a.st, .int .i64 a.fu]] s.val (fun e w' => e = .returned (.bool true) ∧ Below s.val.heap.size s.val w') from by
                have h := same_any a a A1 A2 B1 B2 c1 c2' d1 d2 s.val (hok.below s.property) (hok2.below s.property)
                rw [decide_eq_true rfl] at h
                exact h)
              clear ha hok hok2
              go_wp2_with fail
              refine wp_region_below (by kernel_rfl) (by kernel_rfl) ?_
              repeat (go_big_quiet_step (first | (go_at_call 23; exact Sub.call (hsame.out _)) | (go_at_call 45; exact Sub.call (hsame2.out _))))
              refine wpQuiet_nil ?_
              rintro _ ⟨⟨w3, hb3⟩, rfl⟩
              have hb3' := Lib.hid (Below.next hb.out hb3)
              clear hb3 y0 y1 y2 y3 y4 z0 z1 z2 z3 z4
              go_wp2
              go_roundg g
              case measure => omega
              case rel => exact ⟨k + 1, by omega, by go_num, hb3'.out⟩
        · have d0 : (te != 0) = true := by simpa using h0
          clear h0
          go_wp2
          go_ret
          exact ⟨rfl, bT.out⟩
      · clear hbm
        go_wp2
        go_ret
        exact ⟨rfl, bM.out⟩
  · have e3 : ¬ (text.size : Int) ≤ 30000 := by omega
    clear h3
    go_wp2_with fail
    refine (kM.out _ b1.out).mono ?_
    rintro e wm ⟨bm, rfl, hbm, hbm1⟩
    have bM := Lib.hid (Below.next b1.out hbm1)
    clear hbm1
    cases bm
    · obtain ⟨h80, hsm⟩ := hbm rfl
      rw [hL'.out] at h80
      have hA := hO'.out.small fun a ha => ⟨by have := (hsm a ha).1; omega, fun ws hws => by have := (hsm a ha).2 ws hws; omega⟩
      have hA' := Lib.hid hA
      have hst := Lib.hid (show ∀ a ∈ L, 0 ≤ a.st ∧ a.st ≤ 18446744073709551615 from fun a ha => by
        obtain ⟨k, hk⟩ := List.getElem?_of_mem ha
        have hlk := (List.getElem?_eq_some_iff.1 hk).1
        obtain ⟨_, _, q', B1, _, B2, _, _, hq', hokq, _⟩ := hO'.out.at_ (k := k) hlk
        rw [hk] at hq'
        cases hq'
        exact hokq.st)
      have hwW := Lib.hid (show ∀ a ∈ L, AskW a from fun q hq => by
        obtain ⟨k, hk⟩ := List.getElem?_of_mem hq
        have hlk := (List.getElem?_eq_some_iff.1 hk).1
        obtain ⟨_, _, q', B1, _, B2, _, _, hq', hokq, _⟩ := hA'.out.at_ (k := k) hlk
        rw [hk] at hq'
        cases hq'
        exact askOK_w hokq (hst.out q hq))
      have kT := text_any L A n c wm hL'.out (hA.below bM.out) (by omega) hst.out (hE'.out.below bM.out).tab
      unfold TextPost at kT
      obtain ⟨⟨tt, te⟩, hte⟩ : ∃ x, textM L = x := ⟨_, rfl⟩
      rw [hte] at kT
      have kT := Lib.hid kT
      have hte := Lib.hid hte
      clear hbm hsm hA
      go_wp2_with fail
      refine kT.out.mono ?_
      rintro e wt ⟨rfl, hbt⟩
      have bT := Lib.hid (Below.next bM.out hbt)
      clear hbt kT
      go_wp2_with fail
      refine (hnn.out _ _).mono ?_
      rintro e wA ⟨rfl, rfl⟩
      by_cases h0 : te = 0
      · subst h0
        have hpm := text_parse hte.out hwW.out
        have hts : tt.size ≤ 2000000 := by
          have h := hte.out
          unfold textM at h
          split at h
          · split at h
            · cases h
            · split at h
              · cases h
              · cases h; omega
          · cases h
        have kP := parse_any tt wt (hE'.out.below bT.out) (.inl hts)
        unfold ParsePost at kP
        rw [hpm] at kP
        dsimp only at kP
        rw [hL'.out] at kP
        have kP := Lib.hid kP
        clear hpm hts
        go_wp2_with fail
        refine kP.out.mono ?_
        rintro e wp ⟨B, cB, rfl, hB, hbp⟩
        have hB := Lib.hid (asksAt_K hB)
        have bP := Lib.hid (Below.next bT.out hbp)
        clear hbp kP
        go_wp2_with (go_at_call 16; refine (hnn.out _ _).mono ?_; rintro e wA ⟨rfl, rfl⟩)
        go_loopg [15] n (fun g s15 wr => ∃ k : Nat, k + g = n ∧ s15 = .int .i64 k ∧ Below wp.heap.size wp wr)
        case atStart => exact ⟨0, by omega, rfl, Below.refl _ _⟩
        case round =>
          obtain ⟨k, hkg, rfl, hb⟩ := hrel
          have hb := Lib.hid hb
          cases gk with
          | zero =>
            have e0 : ¬ ((k : Int) < (n : Int)) := by omega
            go_wp2
            go_ret
            exact ⟨rfl, Below.next bP.out hb.out⟩
          | succ g =>
            have e0 : (k : Int) < (n : Int) := by omega
            obtain ⟨g1, o1, a, A1, c1, A2, c2', rfl, ha, hok, y0, y1, y2, y3, y4⟩ := (hB.out.below hb.out).at_ (k := k) (by rw [hL'.out]; omega)
            obtain ⟨g2, o2, a2, B1, d1, B2, d2, rfl, ha2, hok2, z0, z1, z2, z3, z4⟩ := (hA'.out.below (Below.next bP.out hb.out)).at_ (k := k) (by rw [hL'.out]; omega)
            rw [ha] at ha2
            cases ha2
            have y0 := Sub.cell y0
            have y1 := Sub.cell y1
            have y2 := Sub.cell y2
            have y3 := Sub.cell y3
            have y4 := Sub.cell y4
            have z0 := Sub.cell z0
            have z1 := Sub.cell z1
            have z2 := Sub.cell z2
            have z3 := Sub.cell z3
            have z4 := Sub.cell z4
            have hsame := Lib.hid fun (s : Sub wr) => (show Calls Tryz.prog 23 #[.agg #[.int .i64 a.k, .slice A1 a.args.length c1, .slice A2 a.regs.length c2', .int .u64 a.st, .int .i64 a.fu], .agg #[.int .i64 a.k, .slice B1 a.args.length d1, .slice B2 a.regs.length d2, .int .u64 a.st, .int .i64 a.fu]] s.val (fun e w' => e = .returned (.bool true) ∧ Below s.val.heap.size s.val w') from by
              have h := refSame_any a a A1 A2 B1 B2 c1 c2' d1 d2 s.val (hok.below s.property) (hok2.below s.property)
              rw [decide_eq_true rfl] at h
              exact h)
            have hsame2 := Lib.hid fun (s : Sub wr) => (show Calls Tryz.prog 45 #[.agg #[.int .i64 a.k, .slice A1 a.args.length c1, .slice A2 a.regs.length c2', .int .u64 a.st, .int .i64 a.fu], .agg #[.int .i64 a.k, .slice B1 a.args.length d1, .slice B2 a.regs.length d2, .int .u64 a.st, .int .i64 a.fu]] s.val (fun e w' => e = .returned (.bool true) ∧ Below s.val.heap.size s.val w') from by
              have h := same_any a a A1 A2 B1 B2 c1 c2' d1 d2 s.val (hok.below s.property) (hok2.below s.property)
              rw [decide_eq_true rfl] at h
              exact h)
            clear ha hok hok2
            go_wp2_with fail
            refine wp_region_below (by kernel_rfl) (by kernel_rfl) ?_
            repeat (go_big_quiet_step (first | (go_at_call 23; exact Sub.call (hsame.out _)) | (go_at_call 45; exact Sub.call (hsame2.out _))))
            refine wpQuiet_nil ?_
            rintro _ ⟨⟨w3, hb3⟩, rfl⟩
            have hb3' := Lib.hid (Below.next hb.out hb3)
            clear hb3 y0 y1 y2 y3 y4 z0 z1 z2 z3 z4
            go_wp2
            go_roundg g
            case measure => omega
            case rel => exact ⟨k + 1, by omega, by go_num, hb3'.out⟩
      · have d0 : (te != 0) = true := by simpa using h0
        clear h0
        go_wp2
        go_ret
        exact ⟨rfl, bT.out⟩
    · clear hbm
      go_wp2
      go_ret
      exact ⟨rfl, bM.out⟩
end Go.Proofs.YtkbmckmlnphpmaaGreatDoor
