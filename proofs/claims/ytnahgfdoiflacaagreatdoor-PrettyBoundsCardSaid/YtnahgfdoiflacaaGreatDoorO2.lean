/- Which expressions can be told: mayExpr. -/
import Derived.Test.YtnahgfdoiflacaaGreatDoorO
import Derived.Test.YtnahgfdoiflacaaGreatDoorD
set_option linter.unusedSimpArgs false
set_option linter.unusedVariables false
namespace Go.Proofs.YtnahgfdoiflacaaGreatDoor
open Go.RowKit Go.Lib Go.Shelf

theorem Below.box {w0 W : World} (h : Below w0.heap.size w0 W) (o : Obj) : Below w0.heap.size w0 (W.alloc o) := h.alloc h.size o
theorem int_ne {a b : Int} (h : a ≠ b) : (a == b) = false := by simpa using h
/-- what mayExpr asks of one expression -/
def mayN (op : Int) (nm : ByteArray) : Bool := if op = 2 ∨ op = 3 then nameB nm else decide (nm.size = 0)
def mayU (op : Int) (u : Nat) : Bool := decide (op = 1) || decide (u = 0)
theorem mayE_eq (op : Int) (u : Nat) (nm : ByteArray) (ars : List Ex) : mayE nameB (.node op u nm ars) = (mayN op nm && mayU op u && decide (argsN op = ars.length) && ars.all (mayE nameB)) := by
  rw [mayE, mayL_all]; rfl

set_option maxRecDepth 100000 in
set_option maxHeartbeats 8000000 in
theorem may_any (w0 : World) (e : Ex) (A : Option Addr) (h : ExAt w0 e A) (hq : cntE e ≤ 30000) : ∀ (c : Nat) (W : World), Below w0.heap.size w0 W →
    Calls Tryz.prog 42 #[exV e A c] W (BoolPost (mayE nameB e) W) := by
  refine ExAt.all (M := fun e A => cntE e ≤ 30000 → ∀ (c : Nat) (W : World), Below w0.heap.size w0 W → Calls Tryz.prog 42 #[exV e A c] W (BoolPost (mayE nameB e) W)) ?_ e A h hq
  intro e A he ih hq c W hW
  obtain ⟨op, u, nm, ars⟩ := e
  have hln := len_cnt ars
  rw [cntE] at hq
  have hall := fun (W' : World) (hW' : Below w0.heap.size w0 W') => allE_any 42 (enters_of Tryz.func42 (by kernel_rfl) rfl) (mayE nameB) w0 ars A he.args c W' hW' (by omega)
    (fun i x B hx hxe C W' hW' => ih i x B hx hxe (by have := cnt_mem (ars := ars) hx; omega) C W' hW')
  rw [mayE_eq]
  generalize ars.all (mayE nameB) = t at hall ⊢
  unfold exV
  dsimp only [Ex.op, Ex.u, Ex.nm, Ex.ars]
  obtain ⟨n, hn⟩ : ∃ n, ars.length = n := ⟨_, rfl⟩
  rw [hn] at hall ⊢
  have hnb : n ≤ 30000 := by omega
  obtain ⟨W1, hW1⟩ : ∃ W1, W.alloc (.cells #[.int .i64 op, .int .u64 u, .string nm, .slice A n c] 26) = W1 := ⟨_, rfl⟩
  have hb1 : Below W.heap.size W W1 := by rw [← hW1]; exact (Below.refl _ W).alloc (Nat.le_refl _) _
  have hx1 : W1.heap[W.heap.size]? = some (.cells #[.int .i64 op, .int .u64 u, .string nm, .slice A n c] 26 (0, 0)) := by rw [← hW1]; exact heap_alloc_new _ _
  have hname := Lib.hid (fun (W' : World) => name_any nm W' (by omega))
  have hall := Lib.hid (fun (W' : World) (hb : Below W1.heap.size W1 W') => hall W' (hW.trans ((Below.next hb1 hb).mono hW.size)))
  have hb1 := Lib.hid hb1
  have hx1 := Lib.hid hx1
  have hW1' := Lib.hid hW1
  have hnm : nm.toList.isEmpty = decide (nm.size = 0) := empty_iff nm
  clear ih hW hn hW1 h he hln
  rcases (show op = 2 ∨ op = 3 ∨ (op ≠ 2 ∧ op ≠ 3) by omega) with hop | hop | hop
  · have o2 : (op == 2) = true := by simpa using hop
    have o1 : (op == 1) = false := int_ne (by omega)
    have hN : mayN op nm = nameB nm := by unfold mayN; rw [if_pos (by omega)]
    rw [hN]
    clear hN
    have hop' := Lib.hid hop
    clear hop
    obtain ⟨b, hbn⟩ : ∃ b, nameB nm = b := ⟨_, rfl⟩
    rw [hbn] at hname ⊢
    clear hbn
    go_enter Tryz.func42, Tryz.ntmps42
    go_wp2_with fail
    rw [hW1'.out]
    obtain ⟨g0, g1, g2, g3, gf⟩ := box4 hx1.out
    cases b
    · go_wp2_with fail
      refine (hname.out _).mono ?_
      rintro e W2 ⟨rfl, hb2⟩
      have hb2 := Lib.hid hb2
      clear g0 g1 g2 g3 gf
      go_wp2_with fail
      have hall2 := Lib.hid (fun (s : Sub W2) => hall.out s.val ((hb2.out).trans (s.property.mono (hb2.out).size)))
      have hargs := Lib.hid (fun (s : Sub W2) => (args_any op s.val).mono (R' := fun e w' => e = .returned (.int .i64 (argsN op)) ∧ Below s.val.heap.size s.val w') fun e w' ⟨he, hw⟩ => ⟨he, hw ▸ Below.refl _ _⟩)
      have hxx := Lib.hid (((hb2.out).block W.heap.size (blk_lt hx1.out)).trans hx1.out)
      obtain ⟨g0, g1, g2, g3, gf⟩ := box4 hxx.out
      have g0 := Sub.cell g0
      have g1 := Sub.cell g1
      have g2 := Sub.cell g2
      have g3 := Sub.cell g3
      have hbx := Lib.hid (Below.next hb1.out (hb2.out))
      refine wp_region_below (by kernel_rfl) (by kernel_rfl) ?_
      repeat (go_big_quiet_step ((first | (go_at_call 94; with_reducible exact Sub.call (hargs.out _)) | (go_at_call 95; with_reducible exact Sub.call (hall2.out _)))))
      refine wpQuiet_nil ?_
      rintro _ ⟨⟨w3, hb3⟩, rfl⟩
      have hfin := Lib.hid (Below.next hbx.out hb3)
      clear hb3 g0 g1 g2 g3
      go_wp2
      go_ret
      exact ⟨by rfl, hfin.out⟩

    · go_wp2_with fail
      refine (hname.out _).mono ?_
      rintro e W2 ⟨rfl, hb2⟩
      have hb2 := Lib.hid hb2
      clear g0 g1 g2 g3 gf
      go_wp2_with fail
      have hall2 := Lib.hid (fun (s : Sub W2) => hall.out s.val ((hb2.out).trans (s.property.mono (hb2.out).size)))
      have hargs := Lib.hid (fun (s : Sub W2) => (args_any op s.val).mono (R' := fun e w' => e = .returned (.int .i64 (argsN op)) ∧ Below s.val.heap.size s.val w') fun e w' ⟨he, hw⟩ => ⟨he, hw ▸ Below.refl _ _⟩)
      have hxx := Lib.hid (((hb2.out).block W.heap.size (blk_lt hx1.out)).trans hx1.out)
      obtain ⟨g0, g1, g2, g3, gf⟩ := box4 hxx.out
      have g0 := Sub.cell g0
      have g1 := Sub.cell g1
      have g2 := Sub.cell g2
      have g3 := Sub.cell g3
      have hbx := Lib.hid (Below.next hb1.out (hb2.out))
      cases h2 : ((u : Int) == 0)
      · have hU : mayU op u = false := by
          unfold mayU
          rw [decide_eq_false (by simpa using o1), decide_eq_false (by simp at h2; omega)]
          rfl
        have hU' := Lib.hid hU
        clear hU
        refine wp_region_below (by kernel_rfl) (by kernel_rfl) ?_
        repeat (go_big_quiet_step ((first | (go_at_call 94; with_reducible exact Sub.call (hargs.out _)) | (go_at_call 95; with_reducible exact Sub.call (hall2.out _)))))
        refine wpQuiet_nil ?_
        rintro _ ⟨⟨w3, hb3⟩, rfl⟩
        have hfin := Lib.hid (Below.next hbx.out hb3)
        clear hb3 g0 g1 g2 g3
        go_wp2
        go_ret
        exact ⟨by rw [hU'.out]; rfl, hfin.out⟩

      · have hU : mayU op u = true := by
          unfold mayU
          rw [decide_eq_true (show u = 0 by simp at h2; omega), Bool.or_true]
        cases h3 : (argsN op == (n : Int))
        · have h4 : decide (argsN op = (n : Int)) = false := h3
          have hU' := Lib.hid hU
          have h4' := Lib.hid h4
          clear h4 hU
          refine wp_region_below (by kernel_rfl) (by kernel_rfl) ?_
          repeat (go_big_quiet_step ((first | (go_at_call 94; with_reducible exact Sub.call (hargs.out _)) | (go_at_call 95; with_reducible exact Sub.call (hall2.out _)))))
          refine wpQuiet_nil ?_
          rintro _ ⟨⟨w3, hb3⟩, rfl⟩
          have hfin := Lib.hid (Below.next hbx.out hb3)
          clear hb3 g0 g1 g2 g3
          go_wp2
          go_ret
          exact ⟨by rw [hU'.out, h4'.out]; rfl, hfin.out⟩

        · have h4 : decide (argsN op = (n : Int)) = true := h3
          have hU' := Lib.hid hU
          have h4' := Lib.hid h4
          clear h4 hU
          refine wp_region_below (by kernel_rfl) (by kernel_rfl) ?_
          repeat (go_big_quiet_step ((first | (go_at_call 94; with_reducible exact Sub.call (hargs.out _)) | (go_at_call 95; with_reducible exact Sub.call (hall2.out _)))))
          refine wpQuiet_nil ?_
          rintro _ ⟨⟨w3, hb3⟩, rfl⟩
          have hfin := Lib.hid (Below.next hbx.out hb3)
          clear hb3 g0 g1 g2 g3
          go_wp2
          go_ret
          exact ⟨by rw [hU'.out, h4'.out]; rfl, hfin.out⟩


  · have o2 : (op == 2) = false := int_ne (by omega)
    have o3 : (op == 3) = true := by simpa using hop
    have o1 : (op == 1) = false := int_ne (by omega)
    have hN : mayN op nm = nameB nm := by unfold mayN; rw [if_pos (by omega)]
    rw [hN]
    clear hN
    have hop' := Lib.hid hop
    clear hop
    obtain ⟨b, hbn⟩ : ∃ b, nameB nm = b := ⟨_, rfl⟩
    rw [hbn] at hname ⊢
    clear hbn
    go_enter Tryz.func42, Tryz.ntmps42
    go_wp2_with fail
    rw [hW1'.out]
    obtain ⟨g0, g1, g2, g3, gf⟩ := box4 hx1.out
    cases b
    · go_wp2_with fail
      refine (hname.out _).mono ?_
      rintro e W2 ⟨rfl, hb2⟩
      have hb2 := Lib.hid hb2
      clear g0 g1 g2 g3 gf
      go_wp2_with fail
      have hall2 := Lib.hid (fun (s : Sub W2) => hall.out s.val ((hb2.out).trans (s.property.mono (hb2.out).size)))
      have hargs := Lib.hid (fun (s : Sub W2) => (args_any op s.val).mono (R' := fun e w' => e = .returned (.int .i64 (argsN op)) ∧ Below s.val.heap.size s.val w') fun e w' ⟨he, hw⟩ => ⟨he, hw ▸ Below.refl _ _⟩)
      have hxx := Lib.hid (((hb2.out).block W.heap.size (blk_lt hx1.out)).trans hx1.out)
      obtain ⟨g0, g1, g2, g3, gf⟩ := box4 hxx.out
      have g0 := Sub.cell g0
      have g1 := Sub.cell g1
      have g2 := Sub.cell g2
      have g3 := Sub.cell g3
      have hbx := Lib.hid (Below.next hb1.out (hb2.out))
      refine wp_region_below (by kernel_rfl) (by kernel_rfl) ?_
      repeat (go_big_quiet_step ((first | (go_at_call 94; with_reducible exact Sub.call (hargs.out _)) | (go_at_call 95; with_reducible exact Sub.call (hall2.out _)))))
      refine wpQuiet_nil ?_
      rintro _ ⟨⟨w3, hb3⟩, rfl⟩
      have hfin := Lib.hid (Below.next hbx.out hb3)
      clear hb3 g0 g1 g2 g3
      go_wp2
      go_ret
      exact ⟨by rfl, hfin.out⟩

    · go_wp2_with fail
      refine (hname.out _).mono ?_
      rintro e W2 ⟨rfl, hb2⟩
      have hb2 := Lib.hid hb2
      clear g0 g1 g2 g3 gf
      go_wp2_with fail
      have hall2 := Lib.hid (fun (s : Sub W2) => hall.out s.val ((hb2.out).trans (s.property.mono (hb2.out).size)))
      have hargs := Lib.hid (fun (s : Sub W2) => (args_any op s.val).mono (R' := fun e w' => e = .returned (.int .i64 (argsN op)) ∧ Below s.val.heap.size s.val w') fun e w' ⟨he, hw⟩ => ⟨he, hw ▸ Below.refl _ _⟩)
      have hxx := Lib.hid (((hb2.out).block W.heap.size (blk_lt hx1.out)).trans hx1.out)
      obtain ⟨g0, g1, g2, g3, gf⟩ := box4 hxx.out
      have g0 := Sub.cell g0
      have g1 := Sub.cell g1
      have g2 := Sub.cell g2
      have g3 := Sub.cell g3
      have hbx := Lib.hid (Below.next hb1.out (hb2.out))
      cases h2 : ((u : Int) == 0)
      · have hU : mayU op u = false := by
          unfold mayU
          rw [decide_eq_false (by simpa using o1), decide_eq_false (by simp at h2; omega)]
          rfl
        have hU' := Lib.hid hU
        clear hU
        refine wp_region_below (by kernel_rfl) (by kernel_rfl) ?_
        repeat (go_big_quiet_step ((first | (go_at_call 94; with_reducible exact Sub.call (hargs.out _)) | (go_at_call 95; with_reducible exact Sub.call (hall2.out _)))))
        refine wpQuiet_nil ?_
        rintro _ ⟨⟨w3, hb3⟩, rfl⟩
        have hfin := Lib.hid (Below.next hbx.out hb3)
        clear hb3 g0 g1 g2 g3
        go_wp2
        go_ret
        exact ⟨by rw [hU'.out]; rfl, hfin.out⟩

      · have hU : mayU op u = true := by
          unfold mayU
          rw [decide_eq_true (show u = 0 by simp at h2; omega), Bool.or_true]
        cases h3 : (argsN op == (n : Int))
        · have h4 : decide (argsN op = (n : Int)) = false := h3
          have hU' := Lib.hid hU
          have h4' := Lib.hid h4
          clear h4 hU
          refine wp_region_below (by kernel_rfl) (by kernel_rfl) ?_
          repeat (go_big_quiet_step ((first | (go_at_call 94; with_reducible exact Sub.call (hargs.out _)) | (go_at_call 95; with_reducible exact Sub.call (hall2.out _)))))
          refine wpQuiet_nil ?_
          rintro _ ⟨⟨w3, hb3⟩, rfl⟩
          have hfin := Lib.hid (Below.next hbx.out hb3)
          clear hb3 g0 g1 g2 g3
          go_wp2
          go_ret
          exact ⟨by rw [hU'.out, h4'.out]; rfl, hfin.out⟩

        · have h4 : decide (argsN op = (n : Int)) = true := h3
          have hU' := Lib.hid hU
          have h4' := Lib.hid h4
          clear h4 hU
          refine wp_region_below (by kernel_rfl) (by kernel_rfl) ?_
          repeat (go_big_quiet_step ((first | (go_at_call 94; with_reducible exact Sub.call (hargs.out _)) | (go_at_call 95; with_reducible exact Sub.call (hall2.out _)))))
          refine wpQuiet_nil ?_
          rintro _ ⟨⟨w3, hb3⟩, rfl⟩
          have hfin := Lib.hid (Below.next hbx.out hb3)
          clear hb3 g0 g1 g2 g3
          go_wp2
          go_ret
          exact ⟨by rw [hU'.out, h4'.out]; rfl, hfin.out⟩


  · have o2 : (op == 2) = false := int_ne (by omega)
    have o3 : (op == 3) = false := int_ne (by omega)
    have hN : mayN op nm = decide (nm.size = 0) := by unfold mayN; rw [if_neg (by omega)]
    rw [hN]
    clear hN
    have hop' := Lib.hid hop
    clear hop
    cases hz : decide (nm.size = 0)
    · rw [hz] at hnm
      go_enter Tryz.func42, Tryz.ntmps42
      go_wp2_with fail
      rw [hW1'.out]
      obtain ⟨g0, g1, g2, g3, gf⟩ := box4 hx1.out
      go_wp2_with fail
      clear g0 g1 g2 g3 gf
      have hall2 := Lib.hid (fun (s : Sub W1) => hall.out s.val ((Below.refl W1.heap.size W1).trans (s.property.mono (Below.refl W1.heap.size W1).size)))
      have hargs := Lib.hid (fun (s : Sub W1) => (args_any op s.val).mono (R' := fun e w' => e = .returned (.int .i64 (argsN op)) ∧ Below s.val.heap.size s.val w') fun e w' ⟨he, hw⟩ => ⟨he, hw ▸ Below.refl _ _⟩)
      have hxx := Lib.hid (((Below.refl W1.heap.size W1).block W.heap.size (blk_lt hx1.out)).trans hx1.out)
      obtain ⟨g0, g1, g2, g3, gf⟩ := box4 hxx.out
      have g0 := Sub.cell g0
      have g1 := Sub.cell g1
      have g2 := Sub.cell g2
      have g3 := Sub.cell g3
      have hbx := Lib.hid (Below.next hb1.out (Below.refl W1.heap.size W1))
      refine wp_region_below (by kernel_rfl) (by kernel_rfl) ?_
      repeat (go_big_quiet_step ((first | (go_at_call 94; with_reducible exact Sub.call (hargs.out _)) | (go_at_call 95; with_reducible exact Sub.call (hall2.out _)))))
      refine wpQuiet_nil ?_
      rintro _ ⟨⟨w3, hb3⟩, rfl⟩
      have hfin := Lib.hid (Below.next hbx.out hb3)
      clear hb3 g0 g1 g2 g3
      go_wp2
      go_ret
      exact ⟨by rfl, hfin.out⟩

    · rw [hz] at hnm
      go_enter Tryz.func42, Tryz.ntmps42
      go_wp2_with fail
      rw [hW1'.out]
      obtain ⟨g0, g1, g2, g3, gf⟩ := box4 hx1.out
      go_wp2_with fail
      clear g0 g1 g2 g3 gf
      have hall2 := Lib.hid (fun (s : Sub W1) => hall.out s.val ((Below.refl W1.heap.size W1).trans (s.property.mono (Below.refl W1.heap.size W1).size)))
      have hargs := Lib.hid (fun (s : Sub W1) => (args_any op s.val).mono (R' := fun e w' => e = .returned (.int .i64 (argsN op)) ∧ Below s.val.heap.size s.val w') fun e w' ⟨he, hw⟩ => ⟨he, hw ▸ Below.refl _ _⟩)
      have hxx := Lib.hid (((Below.refl W1.heap.size W1).block W.heap.size (blk_lt hx1.out)).trans hx1.out)
      obtain ⟨g0, g1, g2, g3, gf⟩ := box4 hxx.out
      have g0 := Sub.cell g0
      have g1 := Sub.cell g1
      have g2 := Sub.cell g2
      have g3 := Sub.cell g3
      have hbx := Lib.hid (Below.next hb1.out (Below.refl W1.heap.size W1))
      cases o1 : (op == 1)
      · skip
        cases h2 : ((u : Int) == 0)
        · have hU : mayU op u = false := by
            unfold mayU
            rw [decide_eq_false (by simpa using o1), decide_eq_false (by simp at h2; omega)]
            rfl
          have hU' := Lib.hid hU
          clear hU
          refine wp_region_below (by kernel_rfl) (by kernel_rfl) ?_
          repeat (go_big_quiet_step ((first | (go_at_call 94; with_reducible exact Sub.call (hargs.out _)) | (go_at_call 95; with_reducible exact Sub.call (hall2.out _)))))
          refine wpQuiet_nil ?_
          rintro _ ⟨⟨w3, hb3⟩, rfl⟩
          have hfin := Lib.hid (Below.next hbx.out hb3)
          clear hb3 g0 g1 g2 g3
          go_wp2
          go_ret
          exact ⟨by rw [hU'.out]; rfl, hfin.out⟩

        · have hU : mayU op u = true := by
            unfold mayU
            rw [decide_eq_true (show u = 0 by simp at h2; omega), Bool.or_true]
          cases h3 : (argsN op == (n : Int))
          · have h4 : decide (argsN op = (n : Int)) = false := h3
            have hU' := Lib.hid hU
            have h4' := Lib.hid h4
            clear h4 hU
            refine wp_region_below (by kernel_rfl) (by kernel_rfl) ?_
            repeat (go_big_quiet_step ((first | (go_at_call 94; with_reducible exact Sub.call (hargs.out _)) | (go_at_call 95; with_reducible exact Sub.call (hall2.out _)))))
            refine wpQuiet_nil ?_
            rintro _ ⟨⟨w3, hb3⟩, rfl⟩
            have hfin := Lib.hid (Below.next hbx.out hb3)
            clear hb3 g0 g1 g2 g3
            go_wp2
            go_ret
            exact ⟨by rw [hU'.out, h4'.out]; rfl, hfin.out⟩

          · have h4 : decide (argsN op = (n : Int)) = true := h3
            have hU' := Lib.hid hU
            have h4' := Lib.hid h4
            clear h4 hU
            refine wp_region_below (by kernel_rfl) (by kernel_rfl) ?_
            repeat (go_big_quiet_step ((first | (go_at_call 94; with_reducible exact Sub.call (hargs.out _)) | (go_at_call 95; with_reducible exact Sub.call (hall2.out _)))))
            refine wpQuiet_nil ?_
            rintro _ ⟨⟨w3, hb3⟩, rfl⟩
            have hfin := Lib.hid (Below.next hbx.out hb3)
            clear hb3 g0 g1 g2 g3
            go_wp2
            go_ret
            exact ⟨by rw [hU'.out, h4'.out]; rfl, hfin.out⟩

      · have hU : mayU op u = true := by
          unfold mayU
          rw [decide_eq_true (by simpa using o1)]
          rfl
        cases h3 : (argsN op == (n : Int))
        · have h4 : decide (argsN op = (n : Int)) = false := h3
          have hU' := Lib.hid hU
          have h4' := Lib.hid h4
          clear h4 hU
          refine wp_region_below (by kernel_rfl) (by kernel_rfl) ?_
          repeat (go_big_quiet_step ((first | (go_at_call 94; with_reducible exact Sub.call (hargs.out _)) | (go_at_call 95; with_reducible exact Sub.call (hall2.out _)))))
          refine wpQuiet_nil ?_
          rintro _ ⟨⟨w3, hb3⟩, rfl⟩
          have hfin := Lib.hid (Below.next hbx.out hb3)
          clear hb3 g0 g1 g2 g3
          go_wp2
          go_ret
          exact ⟨by rw [hU'.out, h4'.out]; rfl, hfin.out⟩

        · have h4 : decide (argsN op = (n : Int)) = true := h3
          have hU' := Lib.hid hU
          have h4' := Lib.hid h4
          clear h4 hU
          refine wp_region_below (by kernel_rfl) (by kernel_rfl) ?_
          repeat (go_big_quiet_step ((first | (go_at_call 94; with_reducible exact Sub.call (hargs.out _)) | (go_at_call 95; with_reducible exact Sub.call (hall2.out _)))))
          refine wpQuiet_nil ?_
          rintro _ ⟨⟨w3, hb3⟩, rfl⟩
          have hfin := Lib.hid (Below.next hbx.out hb3)
          clear hb3 g0 g1 g2 g3
          go_wp2
          go_ret
          exact ⟨by rw [hU'.out, h4'.out]; rfl, hfin.out⟩
theorem all_take {α : Type} (p : α → Bool) {es : List α} : ∀ k {x : α}, es[k]? = some x → (es.take (k + 1)).all p = ((es.take k).all p && p x) := by
  intro k x h
  rw [List.take_add_one, h]
  simp
theorem all_false {α : Type} {p : α → Bool} {es : List α} {k : Nat} {x : α} (h : es[k]? = some x) (hp : p x = false) : es.all p = false := by
  rw [List.all_eq_false]
  exact ⟨x, List.mem_of_getElem? h, by rw [hp]; simp⟩
theorem argsR_eq {op : Int} (h : op ≠ 1) (h2 : op ≠ 2) (h3 : op ≠ 3) : argsR op = argsN op := by
  unfold argsR argsN
  rw [if_neg (show ¬ (op = 1 ∨ op = 2) by omega)]
  by_cases h4 : op = 4 ∨ op = 5
  · rw [if_pos h4, if_pos (by omega)]
  · rw [if_neg h4, if_neg (show ¬ (3 ≤ op ∧ op ≤ 5) by omega)]

set_option maxRecDepth 100000 in
set_option maxHeartbeats 8000000 in
theorem refMay_any (w0 : World) (e : Ex) (A : Option Addr) (h : ExAt w0 e A) (hq : cntE e ≤ 30000) : ∀ (c : Nat) (W : World), Below w0.heap.size w0 W →
    Calls Tryz.prog 46 #[exV e A c] W (BoolPost (mayE nameB e) W) := by
  refine ExAt.all (M := fun e A => cntE e ≤ 30000 → ∀ (c : Nat) (W : World), Below w0.heap.size w0 W → Calls Tryz.prog 46 #[exV e A c] W (BoolPost (mayE nameB e) W)) ?_ e A h hq
  intro e A he ih hq c W hW
  obtain ⟨op, u, nm, ars⟩ := e
  have hln := len_cnt ars
  rw [cntE] at hq
  have hs := Lib.hid (show ExsAt w0 ars A from he.args)
  have ih' := Lib.hid (show ∀ (i : Nat) (x : Ex) (B : Option Addr), ars[i]? = some x → ExAt w0 x B → ∀ (C : Nat) (W' : World), Below w0.heap.size w0 W' → Calls Tryz.prog 46 #[exV x B C] W' (BoolPost (mayE nameB x) W') from
    fun i x B hx hxe C W' hW' => ih i x B hx hxe (by have := cnt_mem (ars := ars) hx; omega) C W' hW')
  rw [mayE_eq]
  unfold exV
  dsimp only [Ex.op, Ex.u, Ex.nm, Ex.ars]
  obtain ⟨n, hn⟩ : ∃ n, ars.length = n := ⟨_, rfl⟩
  rw [hn]
  have hnb : n ≤ 30000 := by omega
  obtain ⟨W1, hW1⟩ : ∃ W1, W.alloc (.cells #[.int .i64 op, .int .u64 u, .string nm, .slice A n c] 26) = W1 := ⟨_, rfl⟩
  have hb1 : Below W.heap.size W W1 := by rw [← hW1]; exact (Below.refl _ W).alloc (Nat.le_refl _) _
  have hx1 : W1.heap[W.heap.size]? = some (.cells #[.int .i64 op, .int .u64 u, .string nm, .slice A n c] 26 (0, 0)) := by rw [← hW1]; exact heap_alloc_new _ _
  have hname := Lib.hid (refName_any nm W1 (by omega))
  have hargs := Lib.hid (refArgs_any op W1)
  have hW' := Lib.hid hW
  have hn' := Lib.hid hn
  have hb1 := Lib.hid hb1
  have hx1 := Lib.hid hx1
  have hW1' := Lib.hid hW1
  have hnm : nm.toList.isEmpty = decide (nm.size = 0) := empty_iff nm
  clear ih hW hn hW1 h he hln hq
  obtain ⟨g0, g1, g2, g3, gf⟩ := box4 hx1.out
  have uz : ((u : Int) == 0) = decide (u = 0) := by
    by_cases h : u = 0
    · rw [decide_eq_true h, h]; rfl
    · rw [decide_eq_false h]; simpa using h
  have uz' : ((u : Int) != 0) = !decide (u = 0) := by rw [bne, uz]
  have a0 : n = 0 → ars.all (mayE nameB) = true := fun h => by
    have hh := hn'.out
    have e1 : ars = [] := List.length_eq_zero_iff.1 (by omega)
    rw [e1]; rfl
  have a1 : ∀ x, n = 1 → ars[0]? = some x → ars.all (mayE nameB) = mayE nameB x := fun x h hx => by
    have hh := hn'.out
    have e1 : ars = [x] := by
      match ars, hh, hx with
      | [y], _, hx => cases hx; rfl
      | [], hh, _ => simp at hh; omega
      | _ :: _ :: _, hh, _ => simp at hh; omega
    rw [e1]; simp
  have a0 := Lib.hid a0
  have a1 := Lib.hid a1
  rcases (show op = 1 ∨ op = 2 ∨ op = 3 ∨ (op ≠ 1 ∧ op ≠ 2 ∧ op ≠ 3) by omega) with rfl | rfl | rfl | ⟨h1, h2, h3⟩
  · have hM : (mayN 1 nm && mayU 1 u && decide (argsN 1 = (n : Int)) && ars.all (mayE nameB)) = (decide (nm.size = 0) && decide (n = 0)) := by
      by_cases h : n = 0
      · rw [a0.out h, h]; simp [mayN, mayU, argsN]
      · rw [decide_eq_false h, decide_eq_false (show ¬ argsN 1 = (n : Int) by simp [argsN]; omega)]; simp
    rw [hM]
    clear hM
    have nz : ((n : Int) == 0) = decide (n = 0) := by
      by_cases h : n = 0
      · rw [decide_eq_true h, h]; rfl
      · rw [decide_eq_false h]; simpa using h
    clear uz uz'
    generalize decide (n = 0) = z at nz ⊢
    generalize decide (nm.size = 0) = y at hnm ⊢
    cases y
    all_goals
      go_enter Tryz.func46, Tryz.ntmps46
      go_wp2_with fail
      rw [hW1'.out]
      refine hargs.out.mono ?_
      rintro e W2 ⟨rfl, rfl⟩
      go_wp2
      go_ret
      exact ⟨rfl, hb1.out⟩
  · have hM : (mayN 2 nm && mayU 2 u && decide (argsN 2 = (n : Int)) && ars.all (mayE nameB)) = (nameB nm && decide (u = 0) && decide (n = 0)) := by
      by_cases h : n = 0
      · rw [a0.out h, h]; simp [mayN, mayU, argsN]
      · rw [decide_eq_false h, decide_eq_false (show ¬ argsN 2 = (n : Int) by simp [argsN]; omega)]; simp
    rw [hM]
    clear hM
    have nz : ((n : Int) == 0) = decide (n = 0) := by
      by_cases h : n = 0
      · rw [decide_eq_true h, h]; rfl
      · rw [decide_eq_false h]; simpa using h
    clear uz'
    generalize decide (n = 0) = z at nz ⊢
    generalize decide (u = 0) = y at uz ⊢
    generalize nameB nm = x at hname ⊢
    cases x <;> cases y
    all_goals
      go_enter Tryz.func46, Tryz.ntmps46
      go_wp2_with fail
      rw [hW1'.out]
      refine hargs.out.mono ?_
      rintro e W2 ⟨rfl, rfl⟩
      go_wp2_with fail
      refine hname.out.mono ?_
      rintro e W2 ⟨rfl, hb2⟩
      have hb2 := Lib.hid hb2
      have hxx := Lib.hid ((hb2.out.block W.heap.size (blk_lt hx1.out)).trans hx1.out)
      clear g0 g1 g2 g3 gf
      obtain ⟨g0, g1, g2, g3, gf⟩ := box4 hxx.out
      go_wp2
      go_ret
      exact ⟨rfl, Below.next hb1.out hb2.out⟩
  · have hM : (mayN 3 nm && mayU 3 u && decide (argsN 3 = (n : Int)) && ars.all (mayE nameB)) = (nameB nm && decide (u = 0) && (decide (n = 1) && ars.all (mayE nameB))) := by
      have e : decide (argsN 3 = (n : Int)) = decide (n = 1) := by
        by_cases h : n = 1
        · rw [decide_eq_true h, h]; rfl
        · rw [decide_eq_false h, decide_eq_false (show ¬ argsN 3 = (n : Int) by simp [argsN]; omega)]
      rw [e]
      simp [mayN, mayU, Bool.and_assoc]
    rw [hM]
    clear hM
    have nz : ((n : Int) == 1) = decide (n = 1) := by
      by_cases h : n = 1
      · rw [decide_eq_true h, h]; rfl
      · rw [decide_eq_false h]; simp; omega
    clear uz'
    by_cases hn1 : n = 1
    · obtain ⟨blk, off, x, B, C, rfl, hx, v0, v1, v2, v3, hxe⟩ := (hs.out).at_ (k := 0) (by rw [hn'.out]; omega)
      have hbw := Lib.hid (hW'.out.trans (hb1.out.mono hW'.out.size))
      rw [a1.out x hn1 hx]
      rw [show off + 0 * 4 = off by omega] at v0 v1 v2 v3
      have hcl := Lib.hid (ih'.out 0 x B hx hxe C)
      generalize mayE nameB x = t at hcl ⊢
      rw [decide_eq_true hn1] at nz ⊢
      have hn1' := Lib.hid hn1
      subst hn1
      have i0 : (0 : Int) < ((1 : Nat) : Int) := by omega
      generalize decide (u = 0) = y at uz ⊢
      generalize nameB nm = z at hname ⊢
      cases z <;> cases y
      case true.true =>
        go_enter Tryz.func46, Tryz.ntmps46
        go_wp2_with fail
        rw [hW1'.out]
        refine hargs.out.mono ?_
        rintro e W2 ⟨rfl, rfl⟩
        go_wp2_with fail
        refine hname.out.mono ?_
        rintro e W2 ⟨rfl, hb2⟩
        have hbw := Lib.hid (hbw.out.trans (hb2.mono hbw.out.size))
        have hb2 := Lib.hid hb2
        have hxx := Lib.hid ((hb2.out.block W.heap.size (blk_lt hx1.out)).trans hx1.out)
        clear g0 g1 g2 g3 gf
        obtain ⟨g0, g1, g2, g3, gf⟩ := box4 hxx.out
        have v0 := (hbw.out.cell (p := ⟨blk, off, none⟩) (cell_some_lt v0)).trans v0
        have v1 := (hbw.out.cell (p := ⟨blk, off + 1, none⟩) (cell_some_lt v1)).trans v1
        have v2 := (hbw.out.cell (p := ⟨blk, off + 2, none⟩) (cell_some_lt v2)).trans v2
        have v3 := (hbw.out.cell (p := ⟨blk, off + 3, none⟩) (cell_some_lt v3)).trans v3
        have hcl2 := hcl.out W2 hbw.out
        unfold exV at hcl2
        have hcl2 := Lib.hid hcl2
        clear hx hxe
        go_wp2_with fail
        refine hcl2.out.mono ?_
        rintro e W3 ⟨rfl, hb3⟩
        have hb3 := Lib.hid (Below.next hb2.out hb3)
        go_wp2
        go_ret
        exact ⟨rfl, Below.next hb1.out hb3.out⟩
      all_goals
        go_enter Tryz.func46, Tryz.ntmps46
        go_wp2_with fail
        rw [hW1'.out]
        refine hargs.out.mono ?_
        rintro e W2 ⟨rfl, rfl⟩
        go_wp2_with fail
        refine hname.out.mono ?_
        rintro e W2 ⟨rfl, hb2⟩
        have hb2 := Lib.hid hb2
        have hxx := Lib.hid ((hb2.out.block W.heap.size (blk_lt hx1.out)).trans hx1.out)
        clear g0 g1 g2 g3 gf
        obtain ⟨g0, g1, g2, g3, gf⟩ := box4 hxx.out
        go_wp2
        go_ret
        exact ⟨rfl, Below.next hb1.out hb2.out⟩
    · rw [decide_eq_false hn1] at nz ⊢
      rw [Bool.false_and, Bool.and_false]
      clear hn1
      generalize decide (u = 0) = y at uz
      generalize nameB nm = z at hname
      cases z <;> cases y
      all_goals
        go_enter Tryz.func46, Tryz.ntmps46
        go_wp2_with fail
        rw [hW1'.out]
        refine hargs.out.mono ?_
        rintro e W2 ⟨rfl, rfl⟩
        go_wp2_with fail
        refine hname.out.mono ?_
        rintro e W2 ⟨rfl, hb2⟩
        have hb2 := Lib.hid hb2
        have hxx := Lib.hid ((hb2.out.block W.heap.size (blk_lt hx1.out)).trans hx1.out)
        clear g0 g1 g2 g3 gf
        obtain ⟨g0, g1, g2, g3, gf⟩ := box4 hxx.out
        go_wp2
        go_ret
        exact ⟨rfl, Below.next hb1.out hb2.out⟩
  · have hM : (mayN op nm && mayU op u && decide (argsN op = (n : Int)) && ars.all (mayE nameB)) = (!(decide (argsN op < 0) || (!decide (argsN op = (n : Int))) || (!decide (nm.size = 0)) || !decide (u = 0)) && ars.all (mayE nameB)) := by
      have e1 : mayN op nm = decide (nm.size = 0) := by unfold mayN; rw [if_neg (by omega)]
      have e2 : mayU op u = decide (u = 0) := by unfold mayU; rw [decide_eq_false h1, Bool.false_or]
      have e3 : decide (argsN op < 0) = true → decide (argsN op = (n : Int)) = false := fun h => decide_eq_false (by have := of_decide_eq_true h; omega)
      rw [e1, e2]
      revert e3
      generalize decide (argsN op < 0) = a
      generalize decide (argsN op = (n : Int)) = b
      generalize decide (nm.size = 0) = c
      generalize decide (u = 0) = d
      generalize ars.all (mayE nameB) = f
      revert a b c d f
      decide
    rw [hM]
    clear hM
    rw [argsR_eq h1 h2 h3] at hargs
    have o1 := int_ne h1
    have o2 := int_ne h2
    have o3 := int_ne h3
    have nr : ((n : Int) != argsN op) = !decide (argsN op = (n : Int)) := by
      by_cases h : argsN op = (n : Int)
      · rw [decide_eq_true h, h]; simp
      · rw [decide_eq_false h]; simp; omega
    have nlt : decide (argsN op < 0) = true → ¬ (argsN op = (n : Int)) := fun h => by have := of_decide_eq_true h; omega
    clear h1 h2 h3 uz
    generalize argsN op = r at *
    clear nlt
    generalize decide (r = (n : Int)) = z3 at nr ⊢
    generalize decide (u = 0) = z1 at uz' ⊢
    generalize decide (nm.size = 0) = z2 at hnm ⊢
    cases z0 : decide (r < 0) <;> cases z3 <;> cases z2 <;> cases z1
    case false.true.true.true =>
      go_enter Tryz.func46, Tryz.ntmps46
      go_wp2_with fail
      rw [hW1'.out]
      refine hargs.out.mono ?_
      rintro e W2 ⟨rfl, rfl⟩
      go_wp2_with fail
      clear g0 g1 g2 g3 gf
      go_loopg [4] n (fun g s4 wr => ∃ k : Nat, k + g = n ∧ s4 = .int .i64 k ∧ (ars.take k).all (mayE nameB) = true ∧ Below W1.heap.size W1 wr)
      case atStart => exact ⟨0, by omega, rfl, rfl, Below.refl _ _⟩
      case round =>
        obtain ⟨k, hkg, rfl, hall, hb⟩ := hrel
        have hb := Lib.hid hb
        have hall := Lib.hid hall
        obtain ⟨g0, g1, g2, g3, gf⟩ := box4 ((hb.out.block W.heap.size (blk_lt hx1.out)).trans hx1.out)
        cases gk with
        | zero =>
          have e0 : ¬ (k : Int) < (n : Int) := by omega
          have hfin := Lib.hid (show ars.all (mayE nameB) = true by
            have := hall.out
            rwa [List.take_of_length_le (by rw [hn'.out]; omega)] at this)
          go_wp2
          go_ret
          exact ⟨by rw [hfin.out]; rfl, Below.next hb1.out hb.out⟩
        | succ g =>
          have e0 : (k : Int) < (n : Int) := by omega
          obtain ⟨blk, off, x, B, C, rfl, hx, v0, v1, v2, v3, hxe⟩ := (hs.out).at_ (k := k) (by rw [hn'.out]; omega)
          have hbw := Lib.hid (hW'.out.trans (((Below.next hb1.out hb.out)).mono hW'.out.size))
          have v0 := (hbw.out.cell (p := ⟨blk, off + k * 4, none⟩) (cell_some_lt v0)).trans v0
          have v1 := (hbw.out.cell (p := ⟨blk, off + k * 4 + 1, none⟩) (cell_some_lt v1)).trans v1
          have v2 := (hbw.out.cell (p := ⟨blk, off + k * 4 + 2, none⟩) (cell_some_lt v2)).trans v2
          have v3 := (hbw.out.cell (p := ⟨blk, off + k * 4 + 3, none⟩) (cell_some_lt v3)).trans v3
          have hcl := ih'.out k x B hx hxe C wr hbw.out
          unfold exV at hcl
          have hnx := Lib.hid (all_take (mayE nameB) k hx)
          have hno := Lib.hid (fun h : mayE nameB x = false => all_false hx h)
          obtain ⟨t, ht⟩ : ∃ t, mayE nameB x = t := ⟨_, rfl⟩
          rw [ht] at hcl
          have hcl := Lib.hid hcl
          have ht := Lib.hid ht
          clear hx hxe
          go_wp2_with fail
          refine hcl.out.mono ?_
          rintro e w2 ⟨rfl, hb2⟩
          have hb2 := Lib.hid (hb.out.trans (hb2.mono hb.out.size))
          cases t
          · have hfin := Lib.hid (hno.out ht.out)
            go_wp2
            go_ret
            exact ⟨by rw [hfin.out]; rfl, Below.next hb1.out hb2.out⟩
          · go_wp2
            go_roundg g
            case measure => omega
            case rel => exact ⟨k + 1, by omega, by go_num, by rw [hnx.out, hall.out, ht.out]; rfl, hb2.out⟩
    all_goals
      go_enter Tryz.func46, Tryz.ntmps46
      go_wp2_with fail
      rw [hW1'.out]
      refine hargs.out.mono ?_
      rintro e W2 ⟨rfl, rfl⟩
      go_wp2
      go_ret
      exact ⟨rfl, hb1.out⟩
end Go.Proofs.YtnahgfdoiflacaaGreatDoor
