/- ScriptFits: the walk. -/
import Derived.Test.YtkbmckmlnphpmaaGreatDoorMA
import Derived.Test.YtkbmckmlnphpmaaGreatDoorCG
import Derived.Test.YtkbmckmlnphpmaaGreatDoorAJ
set_option linter.unusedSimpArgs false
set_option linter.unusedVariables false
namespace Go.Proofs.YtkbmckmlnphpmaaGreatDoor
open Go.RowKit Go.Lib Go.Shelf

theorem refMay3_any (A : Option Addr) (n cap : Nat) (L : List Me.Reg) (w : World) (hr : Me.RegsAt w w.heap.size A n L) (hc : n ≤ cap) (hcm : cap ≤ 9223372036854775807) : Calls Tryz.prog 78 #[.slice A n cap] w (BoolPost (Me.mayL L) w) := by
  by_cases hn : n ≤ 16
  · exact Me.refMay_few A n cap L w hr hn hc hcm
  · exact Me.refMay_many A n cap L w hr.1 (by omega) (by omega)
theorem regs_below {w w' : World} {A : Option Addr} {n : Nat} {L : List Me.Reg} (h : Me.RegsAt w w.heap.size A n L) (hb : Below w.heap.size w w') : Me.RegsAt w' w'.heap.size A n L := (h.below hb).more hb.size
theorem wsO_Me {w : World} {A : Option Addr} {W : List (List Int)} (h : WsO w A W) : Me.WsAt w A W := fun hn => by
  obtain ⟨blk, off, e, hc⟩ := h hn
  refine ⟨blk, off, e, fun i ws hi => ?_⟩
  obtain ⟨A', c, h1, h2, h3⟩ := hc i ws hi
  exact ⟨A', c, h1, h2, h3.1, h3.2⟩

set_option maxRecDepth 100000 in
set_option maxHeartbeats 2000000 in
theorem fits47_any (A A1 A2 : Option Addr) (n cap n1 c1 n2 c2 : Nat) (L : List Me.Reg) (R : List (List Int)) (w : World) (hr : Me.RegsAt w w.heap.size A n L) (hc : n ≤ cap) (hcm : cap ≤ 9223372036854775807) (hR : R.length = n2) (hA : WsO w A2 R) (hn2 : n2 ≤ 9223372036854775807) :
    Calls Tryz.prog 47 #[.slice A n cap, .agg #[.slice A1 n1 c1, .slice A2 n2 c2]] w (BoolPost (Me.mayL L && Me.fitsB L R) w) := by
  have hb0 := Lib.hid ((Below.refl w.heap.size w).alloc (Nat.le_refl _) (.cells #[.slice A1 n1 c1, .slice A2 n2 c2] 39))
  obtain ⟨t, ht⟩ : ∃ t, Me.mayL L = t := ⟨_, rfl⟩
  cases t
  · have hk := Lib.hid (Me.of_no A A2 n cap n2 c2 L (w.alloc (.cells #[.slice A1 n1 c1, .slice A2 n2 c2] 39)) (regs_below hr hb0.out) hc hcm ht)
    rw [ht]
    clear hr hA ht
    go_enter Tryz.func47, Tryz.ntmps47
    go_wp2_with fail
    refine hk.out.mono ?_
    rintro e w1 ⟨rfl, hb1⟩
    have b1 := Lib.hid (Below.next hb0.out hb1)
    clear hb1
    go_wp2
    go_ret
    exact ⟨rfl, b1.out⟩
  · have hk := Me.of_any A A2 n cap n2 c2 L R (w.alloc (.cells #[.slice A1 n1 c1, .slice A2 n2 c2] 39)) (regs_below hr hb0.out) hc hcm ht hR (wsO_Me (hA.below hb0.out)) hn2
    rw [ht]
    obtain ⟨u, hu⟩ : ∃ u, Me.fitsB L R = u := ⟨_, rfl⟩
    rw [hu] at hk ⊢
    have hk := Lib.hid hk
    clear hr hA ht hu
    go_enter Tryz.func47, Tryz.ntmps47
    go_wp2_with fail
    refine hk.out.mono ?_
    cases u
    · rintro e w1 ⟨rfl, hb1⟩
      have b1 := Lib.hid (Below.next hb0.out hb1)
      clear hb1
      go_wp2
      go_ret
      exact ⟨rfl, b1.out⟩
    · rintro e w1 ⟨p, q, A', c', rfl, _, _, _, _, _, hb1⟩
      have b1 := Lib.hid (Below.next hb0.out hb1)
      clear hb1
      go_wp2
      go_ret
      exact ⟨rfl, b1.out⟩
set_option maxRecDepth 100000 in
set_option maxHeartbeats 2000000 in
theorem fits48_any (A A1 A2 : Option Addr) (n cap n1 c1 n2 c2 : Nat) (L : List Me.Reg) (R : List (List Int)) (w : World) (hr : Me.RegsAt w w.heap.size A n L) (hc : n ≤ cap) (hcm : cap ≤ 9223372036854775807) (hR : R.length = n2) (hA : WsO w A2 R) (hn2 : n2 ≤ 9223372036854775807) :
    Calls Tryz.prog 48 #[.slice A n cap, .agg #[.slice A1 n1 c1, .slice A2 n2 c2]] w (BoolPost (Me.mayL L && Me.fitsB L R) w) := by
  have hb0 := Lib.hid ((Below.refl w.heap.size w).alloc (Nat.le_refl _) (.cells #[.slice A1 n1 c1, .slice A2 n2 c2] 39))
  have hk := Lib.hid (refMay3_any A n cap L (w.alloc (.cells #[.slice A1 n1 c1, .slice A2 n2 c2] 39)) (regs_below hr hb0.out) hc hcm)
  have hf := Lib.hid fun W (hb : Below w.heap.size w W) => Me.fits_any A A2 n cap n2 c2 L R W (regs_below hr hb) hR (wsO_Me (hA.below hb)) (by omega) hn2
  have hbx := heap_alloc_new w (.cells #[.slice A1 n1 c1, .slice A2 n2 c2] 39)
  have kc := Lib.hid fun (W : World) (h : Below (w.alloc (.cells #[.slice A1 n1 c1, .slice A2 n2 c2] 39)).heap.size (w.alloc (.cells #[.slice A1 n1 c1, .slice A2 n2 c2] 39)) W) => (show W.cell? ⟨w.heap.size, 1, none⟩ = some (.slice A2 n2 c2) from by
    rw [blk_cell ((h.block _ (blk_lt hbx)).trans hbx)]; rfl)
  generalize Me.mayL L = t at hk ⊢
  generalize Me.fitsB L R = u at hf ⊢
  clear hr hA hbx
  go_enter Tryz.func48, Tryz.ntmps48
  go_wp2_with fail
  refine hk.out.mono ?_
  rintro e w1 ⟨rfl, hb1⟩
  have b1 := Lib.hid (Below.next hb0.out hb1)
  have g1 := kc.out _ hb1
  clear hb1
  cases t
  · go_wp2
    go_ret
    exact ⟨rfl, b1.out⟩
  · go_wp2_with fail
    refine (hf.out _ b1.out).mono ?_
    rintro e w2 ⟨rfl, hb2⟩
    have b2 := Lib.hid (Below.next b1.out hb2)
    clear hb2
    cases u
    all_goals
      go_wp2
      go_ret
      exact ⟨rfl, b2.out⟩

set_option maxRecDepth 100000 in
set_option maxHeartbeats 16000000 in
theorem scriptFits_any (A : Option Addr) (n cap : Nat) (L : List Me.Reg) (a b : Ask) (A1 A2 B1 B2 : Option Addr) (c1 c2 d1 d2 : Nat) (w : World) (hr : Me.RegsAt w w.heap.size A n L) (hc : n ≤ cap) (hcm : cap ≤ 9223372036854775807)
    (hO : AskO w a A1 A2) (hZ : AskLe a) (hP : AskO w b B1 B2) (hY : AskLe b) (hE : Env w) :
    Calls Tryz.prog 12 #[.slice A n cap, askVal a A1 c1 A2 c2, askVal b B1 d1 B2 d2] w (BoolPost true w) := by
  have hb0 := Lib.hid (below_two w (.cells #[.int .i64 a.k, .slice A1 a.args.length c1, .slice A2 a.regs.length c2, .int .u64 a.st, .int .i64 a.fu] 42) (.cells #[.int .i64 b.k, .slice B1 b.args.length d1, .slice B2 b.regs.length d2, .int .u64 b.st, .int .i64 b.fu] 42))
  have hxb := heap_alloc_new (w.alloc (.cells #[.int .i64 a.k, .slice A1 a.args.length c1, .slice A2 a.regs.length c2, .int .u64 a.st, .int .i64 a.fu] 42)) (.cells #[.int .i64 b.k, .slice B1 b.args.length d1, .slice B2 b.regs.length d2, .int .u64 b.st, .int .i64 b.fu] 42)
  have hxa := (heap_alloc_old (w.alloc (.cells #[.int .i64 a.k, .slice A1 a.args.length c1, .slice A2 a.regs.length c2, .int .u64 a.st, .int .i64 a.fu] 42)) (.cells #[.int .i64 b.k, .slice B1 b.args.length d1, .slice B2 b.regs.length d2, .int .u64 b.st, .int .i64 b.fu] 42) (r := w.heap.size) (by simp)).trans (heap_alloc_new w _)
  have e1 : (w.alloc (.cells #[.int .i64 a.k, .slice A1 a.args.length c1, .slice A2 a.regs.length c2, .int .u64 a.st, .int .i64 a.fu] 42)).heap.size = w.heap.size + 1 := by simp
  rw [e1] at hxb
  obtain ⟨W2, hW2⟩ : ∃ W2, W2 = (w.alloc (.cells #[.int .i64 a.k, .slice A1 a.args.length c1, .slice A2 a.regs.length c2, .int .u64 a.st, .int .i64 a.fu] 42)).alloc (.cells #[.int .i64 b.k, .slice B1 b.args.length d1, .slice B2 b.regs.length d2, .int .u64 b.st, .int .i64 b.fu] 42) := ⟨_, rfl⟩
  rw [← hW2] at hb0 hxa hxb
  have ka := Lib.hid fun (W : World) (h : Below W2.heap.size W2 W) => box5 ((h.block _ (blk_lt hxa)).trans hxa)
  have kb := Lib.hid fun (W : World) (h : Below W2.heap.size W2 W) => box5 ((h.block _ (blk_lt hxb)).trans hxb)
  have kL := Lib.hid (Me.long_any A n cap L W2 (regs_below hr hb0.out) (by omega))
  have kSa := Lib.hid (refSmall_any a.k A1 A2 a.args.length c1 a.regs.length c2 a.regs a.st a.fu 3000 W2 rfl (hO.regs.below hb0.out) hZ.1 hZ.2.1 (by omega))
  have kSb := Lib.hid fun W (hb : Below w.heap.size w W) => refSmall_any b.k B1 B2 b.args.length d1 b.regs.length d2 b.regs b.st b.fu 3000 W rfl (hP.regs.below hb) hY.1 hY.2.1 (by omega)
  have kK := Lib.hid fun W (hb : Below w.heap.size w W) => known_any W (hE.below hb)
  have k47 := Lib.hid fun W (hb : Below w.heap.size w W) => fits47_any A A1 A2 n cap a.args.length c1 a.regs.length c2 L a.regs W (regs_below hr hb) hc hcm rfl (hO.regs.below hb) hO.rl
  have k48 := Lib.hid fun W (hb : Below w.heap.size w W) => fits48_any A A1 A2 n cap a.args.length c1 a.regs.length c2 L a.regs W (regs_below hr hb) hc hcm rfl (hO.regs.below hb) hO.rl
  generalize (Me.mayL L && Me.fitsB L a.regs) = t1 at k47 k48
  have hO' := Lib.hid hO
  have hP' := Lib.hid hP
  obtain ⟨g0, g1, g2, g3, g4, gf⟩ := ka.out W2 (Below.refl _ _)
  obtain ⟨i0, i1, i2, i3, i4, jf⟩ := kb.out W2 (Below.refl _ _)
  have hW2' := Lib.hid hW2
  clear hr hO hZ hP hY hE hxa hxb e1 hW2
  unfold askVal
  go_enter Tryz.func12, Tryz.ntmps12
  go_wp2_with fail
  rw [← hW2'.out]
  refine kL.out.mono ?_
  rintro e wA ⟨rfl, rfl⟩
  generalize Me.longB L = u
  cases u
  · go_wp2_with fail
    refine kSa.out.mono ?_
    rintro e w1 ⟨sa, rfl, hsa, hb1⟩
    have b1 := Lib.hid (Below.next hb0.out hb1)
    have q1 := Lib.hid hb1
    clear hb1 kSa g0 g1 g2 g3 g4 gf i0 i1 i2 i3 i4 jf
    obtain ⟨i0, i1, i2, i3, i4, jf⟩ := kb.out _ q1.out
    cases sa
    · clear hsa
      go_wp2_with fail
      refine (kK.out _ b1.out).mono ?_
      rintro e w2 ⟨rfl, hb2⟩
      have b2 := Lib.hid (Below.next b1.out hb2)
      clear hb2
      go_wp2
      go_ret
      exact ⟨rfl, b2.out⟩
    · go_wp2_with fail
      refine (kSb.out _ b1.out).mono ?_
      rintro e w2 ⟨sb, rfl, hsb, hb2⟩
      have b2 := Lib.hid (Below.next b1.out hb2)
      have q2 := Lib.hid (Below.next q1.out hb2)
      clear hb2 i0 i1 i2 i3 i4 jf
      cases sb
      · clear hsa hsb
        go_wp2_with fail
        refine (kK.out _ b2.out).mono ?_
        rintro e w3 ⟨rfl, hb3⟩
        have b3 := Lib.hid (Below.next b2.out hb3)
        clear hb3
        go_wp2
        go_ret
        exact ⟨rfl, b3.out⟩
      · obtain ⟨s1, s2⟩ := hsa (by trivial)
        obtain ⟨s3, s4⟩ := hsb (by trivial)
        have oa := Lib.hid (hO'.out.okS ⟨by omega, fun ws h => by have := s2 ws h; omega⟩)
        have ob := Lib.hid (hP'.out.okS ⟨by omega, fun ws h => by have := s4 ws h; omega⟩)
        have kab := fun W (hb : Below w.heap.size w W) => same_any a b A1 A2 B1 B2 c1 c2 d1 d2 W (oa.out.below hb) (ob.out.below hb)
        have kra := fun W (hb : Below w.heap.size w W) => refSame_any a b A1 A2 B1 B2 c1 c2 d1 d2 W (oa.out.below hb) (ob.out.below hb)
        have kaa := fun W (hb : Below w.heap.size w W) => same_any a a A1 A2 A1 A2 c1 c2 c1 c2 W (oa.out.below hb) (oa.out.below hb)
        rw [decide_eq_true rfl] at kaa
        generalize decide (a = b) = t2 at kab kra
        unfold askVal at kab kra kaa
        have y0 := Sub.cell (ka.out _ q2.out).1
        have y1 := Sub.cell (ka.out _ q2.out).2.1
        have y2 := Sub.cell (ka.out _ q2.out).2.2.1
        have y3 := Sub.cell (ka.out _ q2.out).2.2.2.1
        have y4 := Sub.cell (ka.out _ q2.out).2.2.2.2.1
        have z0 := Sub.cell (kb.out _ q2.out).1
        have z1 := Sub.cell (kb.out _ q2.out).2.1
        have z2 := Sub.cell (kb.out _ q2.out).2.2.1
        have z3 := Sub.cell (kb.out _ q2.out).2.2.2.1
        have z4 := Sub.cell (kb.out _ q2.out).2.2.2.2.1
        have c47 := Lib.hid fun (s : Sub w2) => k47.out s.val (Below.next b2.out s.property)
        have c48 := Lib.hid fun (s : Sub w2) => k48.out s.val (Below.next b2.out s.property)
        have c45 := Lib.hid fun (s : Sub w2) => kab s.val (Below.next b2.out s.property)
        have c23 := Lib.hid fun (s : Sub w2) => kra s.val (Below.next b2.out s.property)
        have caa := Lib.hid fun (s : Sub w2) => kaa s.val (Below.next b2.out s.property)
        have ckk := Lib.hid fun (s : Sub w2) => kK.out s.val (Below.next b2.out s.property)
        clear hsa hsb s1 s2 s3 s4 kab kra kaa k47 k48
        cases t1 <;> cases t2
        all_goals
          go_wp2_with fail
          refine wp_region_below (by kernel_rfl) (by kernel_rfl) ?_
          repeat (go_big_quiet_step (first | (go_at_call 47; exact Sub.call (c47.out _)) | (go_at_call 48; exact Sub.call (c48.out _)) | (go_at_call 45; with_reducible exact Sub.call (c45.out _)) | (go_at_call 45; with_reducible exact Sub.call (caa.out _)) | (go_at_call 23; exact Sub.call (c23.out _)) | (go_at_call 13; exact Sub.call (ckk.out _))))
          refine wpQuiet_nil ?_
          rintro _ ⟨⟨w3, hb3⟩, rfl⟩
          have b3 := Lib.hid (Below.next b2.out hb3)
          clear hb3 y0 y1 y2 y3 y4 z0 z1 z2 z3 z4
          go_wp2
          go_ret
          exact ⟨rfl, b3.out⟩
  · go_wp2_with fail
    refine (kK.out _ hb0.out).mono ?_
    rintro e w2 ⟨rfl, hb2⟩
    have b2 := Lib.hid (Below.next hb0.out hb2)
    clear hb2
    go_wp2
    go_ret
    exact ⟨rfl, b2.out⟩
end Go.Proofs.YtkbmckmlnphpmaaGreatDoor
