/- How much statements count. -/
import Derived.Test.YtnahgfdoiflacaaGreatDoorCF
import Derived.LoopN
import Derived.Handy
import Derived.Deep.Cut
set_option linter.unusedSimpArgs false
set_option linter.unusedVariables false
namespace Go.Proofs.YtnahgfdoiflacaaGreatDoor
open Go.RowKit Go.Lib Go.Shelf

/-- a count as far as m: what is at most m is the whole -/
def CntPost (c m : Nat) (w : World) (e : Ending) (w' : World) : Prop := ∃ r : Nat, e = .returned (.int .i64 r) ∧ r ≤ 4 * m + 3 ∧ (r ≤ m → r = c) ∧ Below w.heap.size w w'
theorem cntL_nil : cntL [] = 0 := by rw [cntL]

set_option maxRecDepth 100000 in
set_option maxHeartbeats 16000000 in
theorem countS_any (w0 : World) (L : List St) (A : Option Addr) (h : StsAt w0 L A) : ∀ (m c : Nat) (W : World), m ≤ 9000 → Below w0.heap.size w0 W →
    Calls Tryz.prog 49 #[.slice A L.length c, .int .i64 m] W (CntPost (cntSs L) m W) := by
  refine StsAt.all (M := fun L A => ∀ (m c : Nat) (W : World), m ≤ 9000 → Below w0.heap.size w0 W → Calls Tryz.prog 49 #[.slice A L.length c, .int .i64 m] W (CntPost (cntSs L) m W)) ?_ L A h
  intro L A hL ih m c W hm hW
  have hL' := Lib.hid hL
  have ih' := Lib.hid ih
  have hW' := Lib.hid hW
  obtain ⟨n, hn⟩ : ∃ n, L.length = n := ⟨_, rfl⟩
  rw [hn]
  have hn' := Lib.hid hn
  clear hL ih hW hn h
  go_enter Tryz.func49, Tryz.ntmps49
  go_wp2_with fail
  go_loopg [5, 6] n (fun g s5 s6 wr => ∃ k r : Nat, k + g = n ∧ s6 = .int .i64 k ∧ s5 = .int .i64 r ∧ r ≤ 4 * m + 3 ∧ (r ≤ m → r = cntSs (L.take k)) ∧ Below W.heap.size W wr)
  case atStart => exact ⟨0, 0, by omega, rfl, rfl, by omega, fun _ => by rw [List.take_zero, cntSs], Below.refl _ _⟩
  case round =>
    obtain ⟨k, r, hkg, rfl, rfl, hrb, hrc, hbr⟩ := hrel
    have hrc := Lib.hid hrc
    have hbr := Lib.hid hbr
    have hkm : r ≤ m → k ≤ m := fun hrm => by
      have h1 := len_cntSs (L.take k)
      have h2 := hrc.out hrm
      have h3 := hn'.out
      rw [List.length_take] at h1
      omega
    by_cases hrm : r ≤ m
    · have hkm' := hkm hrm
      clear hkm
      have e1 : (r : Int) ≤ (m : Int) := by omega
      cases gk with
      | zero =>
        have e0 : ¬ (k : Int) < (n : Int) := by omega
        have hfin := Lib.hid (show r = cntSs L by
          have := hrc.out hrm
          rw [List.take_of_length_le (by rw [hn'.out]; omega)] at this
          exact this)
        go_wp2
        go_ret
        exact ⟨r, rfl, hrb, fun _ => hfin.out, hbr.out⟩
      | succ g =>
        have e0 : (k : Int) < (n : Int) := by omega
        have hbw := Lib.hid (hW'.out.trans (hbr.out.mono hW'.out.size))
        obtain ⟨blk, off, x, s, rfl, hx, hcx, hnow, hbd, hel⟩ := (hL'.out).at_ (k := k) (by rw [hn'.out]; omega)
        obtain ⟨kd, nm, ⟨nA, nn, nc⟩, ⟨eo, eu, en, ⟨eA, ek, ec⟩⟩, ⟨ao, au, an, ⟨aA, ak, ac⟩⟩, ⟨gA, gn, gc⟩, lo, hi, ⟨bA, bn, bc⟩, ⟨lA, ln, lc⟩⟩ := s
        obtain ⟨kx, mx, nx, nxA, ⟨ex1, ex2, ex3, ex4, exA, exu⟩, ⟨ax1, ax2, ax3, ax4, axA, axu⟩, gx, gxA, lx, hx', _, _, bx, elx⟩ := hnow
        dsimp only at kx mx nx nxA ex1 ex2 ex3 ex4 exA ax1 ax2 ax3 ax4 axA gx gxA lx hx' bx elx hbd hel
        have v0 : w0.cell? ⟨blk, off + k * 16, none⟩ = some (.int .i64 kd) := hcx 0 (by omega)
        have v0 := (hbw.out.cell (p := ⟨blk, off + k * 16, none⟩) (cell_some_lt v0)).trans v0
        have v1 : w0.cell? ⟨blk, off + k * 16 + 1, none⟩ = some (.string nm) := hcx 1 (by omega)
        have v1 := (hbw.out.cell (p := ⟨blk, off + k * 16 + 1, none⟩) (cell_some_lt v1)).trans v1
        have v2 : w0.cell? ⟨blk, off + k * 16 + 2, none⟩ = some (.slice nA nn nc) := hcx 2 (by omega)
        have v2 := (hbw.out.cell (p := ⟨blk, off + k * 16 + 2, none⟩) (cell_some_lt v2)).trans v2
        have v3 : w0.cell? ⟨blk, off + k * 16 + 3, none⟩ = some (.int .i64 eo) := hcx 3 (by omega)
        have v3 := (hbw.out.cell (p := ⟨blk, off + k * 16 + 3, none⟩) (cell_some_lt v3)).trans v3
        have v4 : w0.cell? ⟨blk, off + k * 16 + 4, none⟩ = some (.int .u64 eu) := hcx 4 (by omega)
        have v4 := (hbw.out.cell (p := ⟨blk, off + k * 16 + 4, none⟩) (cell_some_lt v4)).trans v4
        have v5 : w0.cell? ⟨blk, off + k * 16 + 5, none⟩ = some (.string en) := hcx 5 (by omega)
        have v5 := (hbw.out.cell (p := ⟨blk, off + k * 16 + 5, none⟩) (cell_some_lt v5)).trans v5
        have v6 : w0.cell? ⟨blk, off + k * 16 + 6, none⟩ = some (.slice eA ek ec) := hcx 6 (by omega)
        have v6 := (hbw.out.cell (p := ⟨blk, off + k * 16 + 6, none⟩) (cell_some_lt v6)).trans v6
        have v7 : w0.cell? ⟨blk, off + k * 16 + 7, none⟩ = some (.int .i64 ao) := hcx 7 (by omega)
        have v7 := (hbw.out.cell (p := ⟨blk, off + k * 16 + 7, none⟩) (cell_some_lt v7)).trans v7
        have v8 : w0.cell? ⟨blk, off + k * 16 + 8, none⟩ = some (.int .u64 au) := hcx 8 (by omega)
        have v8 := (hbw.out.cell (p := ⟨blk, off + k * 16 + 8, none⟩) (cell_some_lt v8)).trans v8
        have v9 : w0.cell? ⟨blk, off + k * 16 + 9, none⟩ = some (.string an) := hcx 9 (by omega)
        have v9 := (hbw.out.cell (p := ⟨blk, off + k * 16 + 9, none⟩) (cell_some_lt v9)).trans v9
        have v10 : w0.cell? ⟨blk, off + k * 16 + 10, none⟩ = some (.slice aA ak ac) := hcx 10 (by omega)
        have v10 := (hbw.out.cell (p := ⟨blk, off + k * 16 + 10, none⟩) (cell_some_lt v10)).trans v10
        have v11 : w0.cell? ⟨blk, off + k * 16 + 11, none⟩ = some (.slice gA gn gc) := hcx 11 (by omega)
        have v11 := (hbw.out.cell (p := ⟨blk, off + k * 16 + 11, none⟩) (cell_some_lt v11)).trans v11
        have v12 : w0.cell? ⟨blk, off + k * 16 + 12, none⟩ = some (.int .u64 lo) := hcx 12 (by omega)
        have v12 := (hbw.out.cell (p := ⟨blk, off + k * 16 + 12, none⟩) (cell_some_lt v12)).trans v12
        have v13 : w0.cell? ⟨blk, off + k * 16 + 13, none⟩ = some (.int .u64 hi) := hcx 13 (by omega)
        have v13 := (hbw.out.cell (p := ⟨blk, off + k * 16 + 13, none⟩) (cell_some_lt v13)).trans v13
        have v14 : w0.cell? ⟨blk, off + k * 16 + 14, none⟩ = some (.slice bA bn bc) := hcx 14 (by omega)
        have v14 := (hbw.out.cell (p := ⟨blk, off + k * 16 + 14, none⟩) (cell_some_lt v14)).trans v14
        have v15 : w0.cell? ⟨blk, off + k * 16 + 15, none⟩ = some (.slice lA ln lc) := hcx 15 (by omega)
        have v15 := (hbw.out.cell (p := ⟨blk, off + k * 16 + 15, none⟩) (cell_some_lt v15)).trans v15
        obtain ⟨w1, hw1⟩ : ∃ w1, wr.alloc (.cells #[.int .i64 kd, .string nm, .slice nA nn nc, .int .i64 eo, .int .u64 eu, .string en, .slice eA ek ec, .int .i64 ao, .int .u64 au, .string an, .slice aA ak ac, .slice gA gn gc, .int .u64 lo, .int .u64 hi, .slice bA bn bc, .slice lA ln lc] 50) = w1 := ⟨_, rfl⟩
        have hb1 : Below W.heap.size W w1 := by rw [← hw1]; exact hbr.out.alloc hbr.out.size _
        have hX : w1.heap[wr.heap.size]? = some (.cells #[.int .i64 kd, .string nm, .slice nA nn nc, .int .i64 eo, .int .u64 eu, .string en, .slice eA ek ec, .int .i64 ao, .int .u64 au, .string an, .slice aA ak ac, .slice gA gn gc, .int .u64 lo, .int .u64 hi, .slice bA bn bc, .slice lA ln lc] 50 (0, 0)) := by rw [← hw1]; exact heap_alloc_new _ _
        obtain ⟨p0, p1, p2, p3, p4, p5, p6, p7, p8, p9, p10, p11, p12, p13, p14, p15⟩ := box16 hX
        have up : ∀ W', Below w1.heap.size w1 W' → Below w0.heap.size w0 W' := fun W' h => hW'.out.trans ((Below.next hb1 h).mono hW'.out.size)
        have hX := Lib.hid hX
        have hb1 := Lib.hid hb1
        have h48 := Lib.hid (fun (s : Sub w1) => (name48_any nm m s.val (by omega)).mono (R' := fun e w' => e = .returned (.int .i64 ((1 + min nm.size m : Nat) : Int)) ∧ Below s.val.heap.size s.val w') fun e w' ⟨he, hw⟩ => ⟨he, hw ▸ Below.refl _ _⟩)
        have h39e : ∀ (s : Sub w1), Calls Tryz.prog 39 #[.agg #[.int .i64 eo, .int .u64 eu, .string en, .slice eA ek ec], .int .i64 m] s.val (IntPost ((min (cntE x.e) (m + 1) : Nat) : Int) s.val) := fun s => by
          rw [ex1, ex2, ex3, ex4]
          exact count_any w0 x.e eA exA m ec s.val hm (up _ s.property)
        have h39a : ∀ (s : Sub w1), Calls Tryz.prog 39 #[.agg #[.int .i64 ao, .int .u64 au, .string an, .slice aA ak ac], .int .i64 m] s.val (IntPost ((min (cntE x.a) (m + 1) : Nat) : Int) s.val) := fun s => by
          rw [ax1, ax2, ax3, ax4]
          exact count_any w0 x.a aA axA m ac s.val hm (up _ s.property)
        obtain ⟨qs, hqs⟩ : ∃ q, 1 + min nm.size m = q := ⟨_, rfl⟩
        obtain ⟨qe, hqe⟩ : ∃ q, min (cntE x.e) (m + 1) = q := ⟨_, rfl⟩
        obtain ⟨qa, hqa⟩ : ∃ q, min (cntE x.a) (m + 1) = q := ⟨_, rfl⟩
        rw [hqs] at h48
        rw [hqe] at h39e
        rw [hqa] at h39a
        have h39e := Lib.hid h39e
        have h39a := Lib.hid h39a
        have hqsb : qs ≤ m + 1 := by omega
        have hqeb : qe ≤ m + 1 := by omega
        have hqab : qa ≤ m + 1 := by omega
        -- what is counted so far, if it is at most m
        obtain ⟨C1, hC1⟩ : ∃ C1, cntSs (L.take k) + (1 + nm.size) + cntE x.e + cntE x.a = C1 := ⟨_, rfl⟩
        have hr1 := Lib.hid (show r + qs + qe + qa ≤ m → r + qs + qe + qa = C1 from fun h => by
          have := hrc.out hrm
          omega)
        have hCk := Lib.hid (show C1 + cntN x.ns + cntL x.ars + cntSs x.bd + cntSs x.el = cntSs (L.take (k + 1)) by
          rw [cntSs_take k hx, ← cntS_bd x, ← hC1, mx]
          omega)
        obtain ⟨r1, hr1e⟩ : ∃ r1, r + qs + qe + qa = r1 := ⟨_, rfl⟩
        rw [hr1e] at hr1
        have hr1b : r1 ≤ 4 * m + 3 := by omega
        have hbody := Lib.hid (fun (q : Nat) (W' : World) (hq : q ≤ m) (hW2 : Below w1.heap.size w1 W') => (show Calls Tryz.prog 49 #[.slice bA bn bc, .int .i64 (q : Int)] W' (CntPost (cntSs x.bd) q W') by
          rw [bx]
          exact (ih'.out k x bA hx).1 hbd q bc W' (by omega) (up _ hW2)))
        have helse := Lib.hid (fun (q : Nat) (W' : World) (hq : q ≤ m) (hW2 : Below w1.heap.size w1 W') => (show Calls Tryz.prog 49 #[.slice lA ln lc, .int .i64 (q : Int)] W' (CntPost (cntSs x.el) q W') by
          rw [elx]
          exact (ih'.out k x lA hx).2 hel q lc W' (by omega) (up _ hW2)))
        have hnames := Lib.hid nxA
        have hargs := Lib.hid gxA
        have up' := Lib.hid up
        have nx' := Lib.hid nx
        have gx' := Lib.hid gx
        clear up hqs hqe hqa hC1 hcx hx ex1 ex2 ex3 ex4 exA exu ax1 ax2 ax3 ax4 axA axu kx mx lx hx' bx elx hbd hel nxA gxA nx gx
        have hnn : (qs : Int) ≤ m + 1 := by omega
        have hee : (qe : Int) ≤ m + 1 := by omega
        have haa : (qa : Int) ≤ m + 1 := by omega
        go_upto_region 6 with fail
        have p1 := Sub.cell p1
        have p3 := Sub.cell p3
        have p4 := Sub.cell p4
        have p5 := Sub.cell p5
        have p6 := Sub.cell p6
        have p7 := Sub.cell p7
        have p8 := Sub.cell p8
        have p9 := Sub.cell p9
        have p10 := Sub.cell p10
        refine wp_region_below (by kernel_rfl) (by kernel_rfl) ?_
        repeat (go_big_quiet_step ((first | (go_at_call 48; with_reducible exact Sub.call (h48.out _)) | (go_at_call 39; with_reducible exact Sub.call (h39e.out _)) | (go_at_call 39; with_reducible exact Sub.call (h39a.out _)))))
        refine wpQuiet_nil ?_
        rintro w4 ⟨s4, hs4⟩
        have hb4 := hs4 ▸ s4.property
        have hb4 := Lib.hid hb4
        clear hs4 p0 p1 p2 p3 p4 p5 p6 p7 p8 p9 p10 p11 p12 p13 p14 p15
        as_aux_lemma =>
          go_wp2_with fail
          go_loopg [5, 8] nn (fun g s5 s8 wx => ∃ j r2 : Nat, j + g = nn ∧ s8 = .int .i64 j ∧ s5 = .int .i64 r2 ∧ r2 ≤ 4 * m + 3 ∧ (r2 ≤ m → r2 = C1 + cntN (x.ns.take j)) ∧ Below w1.heap.size w1 wx)
          case atStart => exact ⟨0, r1, by omega, rfl, by subst hr1e; go_num, hr1b, fun h => by rw [List.take_zero, cntN]; exact hr1.out h, hb4.out⟩
          case round =>
            obtain ⟨j, r2, hjg, rfl, rfl, hr2b, hr2c, hb5⟩ := hrel
            have hr2c := Lib.hid hr2c
            have hb5 := Lib.hid hb5
            by_cases hrm2 : r2 ≤ m
            · have e2 : (r2 : Int) ≤ (m : Int) := by omega
              cases gk with
              | zero =>
                have e3 : ¬ (j : Int) < (nn : Int) := by omega
                have hr2c := Lib.hid (show r2 = C1 + cntN x.ns by
                  have := hr2c.out hrm2
                  rw [List.take_of_length_le (by have := nx'.out; omega)] at this
                  exact this)
                obtain ⟨p0, p1, p2, p3, p4, p5, p6, p7, p8, p9, p10, p11, p12, p13, p14, p15⟩ := box16 ((hb5.out.block _ (blk_lt hX.out)).trans hX.out)
                as_aux_lemma =>
                  go_wp2_with fail
                  clear p0 p1 p2 p3 p4 p5 p6 p7 p8 p9 p10 p11 p12 p13 p14 p15
                  go_loopg [5, 9] gn (fun g s5 s9 wx => ∃ j r3 : Nat, j + g = gn ∧ s9 = .int .i64 j ∧ s5 = .int .i64 r3 ∧ r3 ≤ 4 * m + 3 ∧ (r3 ≤ m → r3 = C1 + cntN x.ns + cntL (x.ars.take j)) ∧ Below w1.heap.size w1 wx)
                  case atStart => exact ⟨0, r2, by omega, rfl, rfl, hr2b, fun h => by rw [List.take_zero, cntL_nil]; exact hr2c.out, hb5.out⟩
                  case round =>
                    obtain ⟨i, r3, hig, rfl, rfl, hr3b, hr3c, hb6⟩ := hrel
                    have hr3c := Lib.hid hr3c
                    have hb6 := Lib.hid hb6
                    by_cases hrm3 : r3 ≤ m
                    · have e4 : (r3 : Int) ≤ (m : Int) := by omega
                      cases gk with
                      | zero =>
                        have e5 : ¬ (i : Int) < (gn : Int) := by omega
                        have hr3c := Lib.hid (show r3 = C1 + cntN x.ns + cntL x.ars by
                          have := hr3c.out hrm3
                          rw [List.take_of_length_le (by have := gx'.out; omega)] at this
                          exact this)
                        obtain ⟨p0, p1, p2, p3, p4, p5, p6, p7, p8, p9, p10, p11, p12, p13, p14, p15⟩ := box16 ((hb6.out.block _ (blk_lt hX.out)).trans hX.out)
                        have ew : IntKind.i64.wrap ((m : Int) - (r3 : Int)) = ((m - r3 : Nat) : Int) := by rw [IntKind.wrap_i64]; omega
                        go_wp2_with fail
                        refine (hbody.out (m - r3) _ (by omega) hb6.out).mono ?_
                        rintro e w7 ⟨q7, rfl, hq7b, hq7c, hb7⟩
                        have hb7 := Lib.hid (Below.next hb6.out hb7)
                        have hq7c := Lib.hid hq7c
                        clear p0 p1 p2 p3 p4 p5 p6 p7 p8 p9 p10 p11 p12 p13 p14 p15
                        obtain ⟨r4, hr4⟩ : ∃ r4, r3 + q7 = r4 := ⟨_, rfl⟩
                        have hr4i : (r3 : Int) + (q7 : Int) = (r4 : Int) := by omega
                        have hr4b : r4 ≤ 4 * m + 3 := by omega
                        by_cases hrm4 : r4 ≤ m
                        · have e6 : (r4 : Int) ≤ (m : Int) := by omega
                          have hr4c := Lib.hid (show r4 = C1 + cntN x.ns + cntL x.ars + cntSs x.bd by
                            have h1 := hq7c.out (by omega)
                            have h2 := hr3c.out
                            omega)
                          obtain ⟨p0, p1, p2, p3, p4, p5, p6, p7, p8, p9, p10, p11, p12, p13, p14, p15⟩ := box16 ((hb7.out.block _ (blk_lt hX.out)).trans hX.out)
                          have ew4 : IntKind.i64.wrap ((m : Int) - (r4 : Int)) = ((m - r4 : Nat) : Int) := by rw [IntKind.wrap_i64]; omega
                          have ew5 : IntKind.i64.wrap (r4 : Int) = (r4 : Int) := by rw [IntKind.wrap_i64]; omega
                          go_wp2_with fail
                          refine (helse.out (m - r4) _ (by omega) hb7.out).mono ?_
                          rintro e w8 ⟨q8, rfl, hq8b, hq8c, hb8⟩
                          have hb8 := Lib.hid (Below.next hb7.out hb8)
                          have hq8c := Lib.hid hq8c
                          clear p0 p1 p2 p3 p4 p5 p6 p7 p8 p9 p10 p11 p12 p13 p14 p15
                          have hr5i : ((r4 + q8 : Nat) : Int) = (r4 : Int) + (q8 : Int) := by omega
                          go_wp2_with fail
                          go_roundg g
                          case measure => omega
                          case rel => exact ⟨k + 1, r4 + q8, by omega, by go_num, by go_num, by omega, fun h => by
                              have h1 := hq8c.out (by omega)
                              have h2 := hr4c.out
                              have h3 := hCk.out
                              omega, Below.next hb1.out hb8.out⟩
                        · have ebig : ¬ (r4 : Int) ≤ (m : Int) := by omega
                          obtain ⟨p0, p1, p2, p3, p4, p5, p6, p7, p8, p9, p10, p11, p12, p13, p14, p15⟩ := box16 ((hb7.out.block _ (blk_lt hX.out)).trans hX.out)
                          have ew5 : IntKind.i64.wrap (r4 : Int) = (r4 : Int) := by rw [IntKind.wrap_i64]; omega
                          go_wp2_with fail
                          go_roundg g
                          case measure => omega
                          case rel => exact ⟨k + 1, r4, by omega, by go_num, by go_num, hr4b, fun h => absurd h hrm4, Below.next hb1.out hb7.out⟩
                      | succ g3 =>
                        have e5 : (i : Int) < (gn : Int) := by omega
                        obtain ⟨ab, ao', y, AB, ac', rfl, hy, t0, t1, t2, t3, hye⟩ := (hargs.out).at_ (k := i) (by have := gx'.out; omega)
                        have hbz := Lib.hid (up'.out _ hb6.out)
                        have t0 := (hbz.out.cell (p := ⟨ab, ao' + i * 4, none⟩) (cell_some_lt t0)).trans t0
                        have t1 := (hbz.out.cell (p := ⟨ab, ao' + i * 4 + 1, none⟩) (cell_some_lt t1)).trans t1
                        have t2 := (hbz.out.cell (p := ⟨ab, ao' + i * 4 + 2, none⟩) (cell_some_lt t2)).trans t2
                        have t3 := (hbz.out.cell (p := ⟨ab, ao' + i * 4 + 3, none⟩) (cell_some_lt t3)).trans t3
                        obtain ⟨p0, p1, p2, p3, p4, p5, p6, p7, p8, p9, p10, p11, p12, p13, p14, p15⟩ := box16 ((hb6.out.block _ (blk_lt hX.out)).trans hX.out)
                        have h39 := count_any w0 y AB hye m ac' _ hm hbz.out
                        unfold exV at h39
                        have hy' := Lib.hid hy
                        obtain ⟨q, hq⟩ : ∃ q, min (cntE y) (m + 1) = q := ⟨_, rfl⟩
                        rw [hq] at h39
                        have h39 := Lib.hid h39
                        have hqb : q ≤ m + 1 := by omega
                        have hnext := Lib.hid (show r3 + q ≤ m → r3 + q = C1 + cntN x.ns + cntL (x.ars.take (i + 1)) from fun h => by
                          have h1 := hr3c.out hrm3
                          rw [cntL_take i hy'.out]
                          omega)
                        have him : i ≤ m := by
                          have h1 := hr3c.out hrm3
                          have h2 := len_cnt (x.ars.take i)
                          have h3 := gx'.out
                          rw [List.length_take] at h2
                          omega
                        clear hq hy hye
                        go_wp2_with fail
                        refine h39.out.mono ?_
                        rintro e w7 ⟨rfl, hb7⟩
                        have hb7 := Lib.hid (Below.next hb6.out hb7)
                        clear p0 p1 p2 p3 p4 p5 p6 p7 p8 p9 p10 p11 p12 p13 p14 p15
                        clear t0 t1 t2 t3
                        go_wp2_with fail
                        go_roundg g3
                        case measure => omega
                        case rel => exact ⟨i + 1, r3 + q, by omega, by go_num, by go_num, by omega, hnext.out, hb7.out⟩
                    · have ebig : ¬ (r3 : Int) ≤ (m : Int) := by omega
                      obtain ⟨p0, p1, p2, p3, p4, p5, p6, p7, p8, p9, p10, p11, p12, p13, p14, p15⟩ := box16 ((hb6.out.block _ (blk_lt hX.out)).trans hX.out)
                      by_cases hig2 : (i : Int) < (gn : Int)
                      · go_wp2_with fail
                        go_roundg g
                        case measure => omega
                        case rel => exact ⟨k + 1, r3, by omega, by go_num, by go_num, hr3b, fun h => absurd h hrm3, Below.next hb1.out hb6.out⟩
                      · go_wp2_with fail
                        go_roundg g
                        case measure => omega
                        case rel => exact ⟨k + 1, r3, by omega, by go_num, by go_num, hr3b, fun h => absurd h hrm3, Below.next hb1.out hb6.out⟩
              | succ g2 =>
                have e3 : (j : Int) < (nn : Int) := by omega
                obtain ⟨nb, no, y, rfl, hy, hcy⟩ := (hnames.out).at_ (i := j) (by have := nx'.out; omega)
                have hbz := Lib.hid (up'.out _ hb5.out)
                have t0 : w0.cell? ⟨nb, no + j, none⟩ = some (.string y) := by have := hcy 0 (by omega); rw [Nat.mul_one] at this; exact this
                have t0 := (hbz.out.cell (p := ⟨nb, no + j, none⟩) (cell_some_lt t0)).trans t0
                obtain ⟨p0, p1, p2, p3, p4, p5, p6, p7, p8, p9, p10, p11, p12, p13, p14, p15⟩ := box16 ((hb5.out.block _ (blk_lt hX.out)).trans hX.out)
                obtain ⟨q, hq⟩ : ∃ q, 1 + min y.size m = q := ⟨_, rfl⟩
                have h48y := fun W' : World => name48_any y m W' (by omega)
                rw [hq] at h48y
                have h48y := Lib.hid h48y
                have hqb : q ≤ m + 1 := by omega
                have hnext := Lib.hid (show r2 + q ≤ m → r2 + q = C1 + cntN (x.ns.take (j + 1)) from fun h => by
                  have h1 := hr2c.out hrm2
                  rw [cntN_take j hy]
                  omega)
                have hjm : j ≤ m := by
                  have h1 := hr2c.out hrm2
                  have h2 := len_cntN (x.ns.take j)
                  have h3 := nx'.out
                  rw [List.length_take] at h2
                  omega
                clear hq hy hcy
                go_wp2_with fail
                refine (h48y.out _).mono ?_
                rintro e w7 ⟨rfl, rfl⟩
                clear p0 p1 p2 p3 p4 p5 p6 p7 p8 p9 p10 p11 p12 p13 p14 p15
                clear t0
                go_wp2_with fail
                go_roundg g2
                case measure => omega
                case rel => exact ⟨j + 1, r2 + q, by omega, by go_num, by go_num, by omega, hnext.out, hb5.out⟩
            · have ebig : ¬ (r2 : Int) ≤ (m : Int) := by omega
              obtain ⟨p0, p1, p2, p3, p4, p5, p6, p7, p8, p9, p10, p11, p12, p13, p14, p15⟩ := box16 ((hb5.out.block _ (blk_lt hX.out)).trans hX.out)
              by_cases hjn : (j : Int) < (nn : Int)
              all_goals
                by_cases hg0 : (0 : Int) < (gn : Int)
                all_goals
                  as_aux_lemma =>
                    go_wp2_with fail
                    go_rounds 1
                    go_wp2_with fail
                    go_roundg g
                    case measure => omega
                    case rel => exact ⟨k + 1, r2, by omega, by go_num, by go_num, hr2b, fun h => absurd h hrm2, Below.next hb1.out hb5.out⟩
    · have e1 : ¬ (r : Int) ≤ (m : Int) := by omega
      by_cases e0 : (k : Int) < (n : Int)
      all_goals
        go_wp2
        go_ret
        exact ⟨r, rfl, hrb, fun h => absurd h hrm, hbr.out⟩
end Go.Proofs.YtnahgfdoiflacaaGreatDoor
