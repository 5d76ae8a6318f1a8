/- How deep statements are: the reference's way. -/
import Derived.Test.YtnahgfdoiflacaaGreatDoorDB
import Derived.Deep.Cut
set_option linter.unusedSimpArgs false
set_option linter.unusedVariables false
namespace Go.Proofs.YtnahgfdoiflacaaGreatDoor
open Go.RowKit Go.Lib Go.Shelf

set_option maxRecDepth 100000 in
set_option maxHeartbeats 16000000 in
theorem refDeep_any (w0 : World) (L : List St) (A : Option Addr) (h : StsAt w0 L A) : ∀ (c : Nat) (W : World), cntSs L ≤ 30000 → Below w0.heap.size w0 W →
    Calls Tryz.prog 153 #[.slice A L.length c] W (IntPost (depSs L : Nat) W) := by
  refine StsAt.all (M := fun L A => ∀ (c : Nat) (W : World), cntSs L ≤ 30000 → Below w0.heap.size w0 W → Calls Tryz.prog 153 #[.slice A L.length c] W (IntPost (depSs L : Nat) W)) ?_ L A h
  intro L A hL ih c W hc hW
  have l1 := len_cntSs L
  have hs := Lib.hid hL
  have hW' := Lib.hid hW
  have ih' := Lib.hid ih
  have hc' := Lib.hid hc
  obtain ⟨n, hnn⟩ : ∃ n, L.length = n := ⟨_, rfl⟩
  rw [hnn] at l1 ⊢
  rw [depSs_max]
  have hn' := Lib.hid hnn
  have hn : n ≤ 30000 := by omega
  have hD' := Lib.hid (show maxL depS L ≤ 30000 by have := depSs_cnt L; rw [depSs_max] at this; omega)
  clear hL hW ih hnn l1 hc h
  go_enter Tryz.func153, Tryz.ntmps153
  go_wp2_with fail
  go_loopg [3, 4] n (fun g s3 s4 wr => ∃ k : Nat, k + g = n ∧ s4 = .int .i64 k ∧ s3 = .int .i64 (maxL depS (L.take k) : Nat) ∧ Below W.heap.size W wr)
  case atStart => exact ⟨0, by omega, rfl, rfl, Below.refl _ _⟩
  case round =>
    obtain ⟨k, hkg, rfl, rfl, hb⟩ := hrel
    have hb := Lib.hid hb
    cases gk with
    | zero =>
      have e0 : ¬ (k : Int) < (n : Int) := by omega
      have hfin := Lib.hid (show maxL depS (L.take k) = maxL depS L by rw [List.take_of_length_le (by rw [hn'.out]; omega)])
      go_wp2
      go_ret
      exact ⟨by rw [hfin.out]; rfl, hb.out⟩
    | succ g2 =>
      have e0 : (k : Int) < (n : Int) := by omega
      have hbw := Lib.hid (hW'.out.trans (hb.out.mono hW'.out.size))
      obtain ⟨blk, off, x, r, rfl, hx, hcx, hxe, hxb, hxl⟩ := (hs.out).at_ (k := k) (by rw [hn'.out]; omega)
      have c1 := cntS_mem hx
      have c2 := cntS_bd x
      have c3 := hc'.out
      obtain ⟨kd, nm, ⟨nA, nn, nc⟩, ⟨eo, eu, en, ⟨eA, ek, ec⟩⟩, ⟨ao, au, an, ⟨aA, ak, ac⟩⟩, ⟨gA, gn, gc⟩, lo, hi, ⟨bA, bn, bc⟩, ⟨lA, ln, lc⟩⟩ := r
      obtain ⟨kx, mx, nx, nxA, ⟨ex1, ex2, ex3, ex4, exA, exu⟩, ⟨ax1, ax2, ax3, ax4, axA, axu⟩, gx, gxA, lx, hx', _, _, bx, elx⟩ := hxe
      dsimp only at kx mx nx nxA ex1 ex2 ex3 ex4 exA ax1 ax2 ax3 ax4 axA gx gxA lx hx' bx elx hxb hxl
      have v0 : w0.cell? ⟨blk, off + k * 16, none⟩ = some (.int .i64 kd) := hcx 0 (by omega)
      have v0 := (hbw.out.cell (p := ⟨blk, off + k * 16, none⟩) (cell_some_lt v0)).trans v0
      have v1 : w0.cell? ⟨blk, off + k * 16 + 1, none⟩ = some (.string nm) := hcx 1 (by omega)
      have v1 := (hbw.out.cell (p := ⟨blk, off + k * 16 + 1, none⟩) (cell_some_lt v1)).trans v1
      have v2 : w0.cell? ⟨blk, off + k * 16 + 2, none⟩ = some (.slice nA nn nc) := hcx 2 (by omega)
      have v2 := (hbw.out.cell (p := ⟨blk, off + k * 16 + 2, none⟩) (cell_some_lt v2)).trans v2
      have v3 : w0.cell? ⟨blk, off + k * 16 + 3, none⟩ = some (.int .i64 eo) := hcx 3 (by omega)
      have v3 := (hbw.out.cell (p := ⟨blk, off + k * 16 + 3, none⟩) (cell_some_lt v3)).trans v3
      have v4 : w0.cell? ⟨blk, off + k * 16 + 4, none⟩ = some (.int .u64 eu) := hcx 4 (by omega)
      have v4 := (hbw.out.cell (p := ⟨blk, off + k * 16 + 4, none⟩) (cell_some_lt v4)).trans v4
      have v5 : w0.cell? ⟨blk, off + k * 16 + 5, none⟩ = some (.string en) := hcx 5 (by omega)
      have v5 := (hbw.out.cell (p := ⟨blk, off + k * 16 + 5, none⟩) (cell_some_lt v5)).trans v5
      have v6 : w0.cell? ⟨blk, off + k * 16 + 6, none⟩ = some (.slice eA ek ec) := hcx 6 (by omega)
      have v6 := (hbw.out.cell (p := ⟨blk, off + k * 16 + 6, none⟩) (cell_some_lt v6)).trans v6
      have v7 : w0.cell? ⟨blk, off + k * 16 + 7, none⟩ = some (.int .i64 ao) := hcx 7 (by omega)
      have v7 := (hbw.out.cell (p := ⟨blk, off + k * 16 + 7, none⟩) (cell_some_lt v7)).trans v7
      have v8 : w0.cell? ⟨blk, off + k * 16 + 8, none⟩ = some (.int .u64 au) := hcx 8 (by omega)
      have v8 := (hbw.out.cell (p := ⟨blk, off + k * 16 + 8, none⟩) (cell_some_lt v8)).trans v8
      have v9 : w0.cell? ⟨blk, off + k * 16 + 9, none⟩ = some (.string an) := hcx 9 (by omega)
      have v9 := (hbw.out.cell (p := ⟨blk, off + k * 16 + 9, none⟩) (cell_some_lt v9)).trans v9
      have v10 : w0.cell? ⟨blk, off + k * 16 + 10, none⟩ = some (.slice aA ak ac) := hcx 10 (by omega)
      have v10 := (hbw.out.cell (p := ⟨blk, off + k * 16 + 10, none⟩) (cell_some_lt v10)).trans v10
      have v11 : w0.cell? ⟨blk, off + k * 16 + 11, none⟩ = some (.slice gA gn gc) := hcx 11 (by omega)
      have v11 := (hbw.out.cell (p := ⟨blk, off + k * 16 + 11, none⟩) (cell_some_lt v11)).trans v11
      have v12 : w0.cell? ⟨blk, off + k * 16 + 12, none⟩ = some (.int .u64 lo) := hcx 12 (by omega)
      have v12 := (hbw.out.cell (p := ⟨blk, off + k * 16 + 12, none⟩) (cell_some_lt v12)).trans v12
      have v13 : w0.cell? ⟨blk, off + k * 16 + 13, none⟩ = some (.int .u64 hi) := hcx 13 (by omega)
      have v13 := (hbw.out.cell (p := ⟨blk, off + k * 16 + 13, none⟩) (cell_some_lt v13)).trans v13
      have v14 : w0.cell? ⟨blk, off + k * 16 + 14, none⟩ = some (.slice bA bn bc) := hcx 14 (by omega)
      have v14 := (hbw.out.cell (p := ⟨blk, off + k * 16 + 14, none⟩) (cell_some_lt v14)).trans v14
      have v15 : w0.cell? ⟨blk, off + k * 16 + 15, none⟩ = some (.slice lA ln lc) := hcx 15 (by omega)
      have v15 := (hbw.out.cell (p := ⟨blk, off + k * 16 + 15, none⟩) (cell_some_lt v15)).trans v15
      obtain ⟨w1, hw1⟩ : ∃ w1, wr.alloc (.cells #[.int .i64 kd, .string nm, .slice nA nn nc, .int .i64 eo, .int .u64 eu, .string en, .slice eA ek ec, .int .i64 ao, .int .u64 au, .string an, .slice aA ak ac, .slice gA gn gc, .int .u64 lo, .int .u64 hi, .slice bA bn bc, .slice lA ln lc] 50) = w1 := ⟨_, rfl⟩
      have hb1 : Below W.heap.size W w1 := by rw [← hw1]; exact hb.out.alloc hb.out.size _
      have hX : w1.heap[wr.heap.size]? = some (.cells #[.int .i64 kd, .string nm, .slice nA nn nc, .int .i64 eo, .int .u64 eu, .string en, .slice eA ek ec, .int .i64 ao, .int .u64 au, .string an, .slice aA ak ac, .slice gA gn gc, .int .u64 lo, .int .u64 hi, .slice bA bn bc, .slice lA ln lc] 50 (0, 0)) := by rw [← hw1]; exact heap_alloc_new _ _
      have up : ∀ W', Below w1.heap.size w1 W' → Below w0.heap.size w0 W' := fun W' h => hW'.out.trans ((Below.next hb1 h).mono hW'.out.size)
      obtain ⟨p0, p1, p2, p3, p4, p5, p6, p7, p8, p9, p10, p11, p12, p13, p14, p15⟩ := box16 hX
      have hbdc := Lib.hid (fun (s : Sub w1) => (by rw [bx]; exact (ih'.out k x bA hx).1 hxb bc s.val (by omega) (up _ s.property) : Calls Tryz.prog 153 #[.slice bA bn bc] s.val (IntPost (depSs x.bd : Nat) s.val)))
      have helc := Lib.hid (fun (s : Sub w1) => (by rw [elx]; exact (ih'.out k x lA hx).2 hxl lc s.val (by omega) (up _ s.property) : Calls Tryz.prog 153 #[.slice lA ln lc] s.val (IntPost (depSs x.el : Nat) s.val)))
      have hne := Lib.hid (fun (W' : World) => (by rw [ex1, ex2, ex3, ex4]; exact refNone_any x.e eA ec W' (by have := len_cnt x.e.ars; have : cntL x.e.ars ≤ cntE x.e := (by cases x.e; rw [cntE]; simp only [Ex.ars]; omega); omega) : Calls Tryz.prog 167 #[.agg #[.int .i64 eo, .int .u64 eu, .string en, .slice eA ek ec]] W' (BoolPost (noneE x.e) W')))
      have hna := Lib.hid (fun (W' : World) => (by rw [ax1, ax2, ax3, ax4]; exact refNone_any x.a aA ac W' (by have := len_cnt x.a.ars; have : cntL x.a.ars ≤ cntE x.a := (by cases x.a; rw [cntE]; simp only [Ex.ars]; omega); omega) : Calls Tryz.prog 167 #[.agg #[.int .i64 ao, .int .u64 au, .string an, .slice aA ak ac]] W' (BoolPost (noneE x.a) W')))
      have hde := Lib.hid (fun (W' : World) (hb : Below w1.heap.size w1 W') => (by rw [ex1, ex2, ex3, ex4]; exact refDepth_any w0 x.e eA exA (by omega) ec W' (up _ hb) : Calls Tryz.prog 14 #[.agg #[.int .i64 eo, .int .u64 eu, .string en, .slice eA ek ec]] W' (IntPost (depE x.e : Nat) W')))
      have hda := Lib.hid (fun (W' : World) (hb : Below w1.heap.size w1 W') => (by rw [ax1, ax2, ax3, ax4]; exact refDepth_any w0 x.a aA axA (by omega) ac W' (up _ hb) : Calls Tryz.prog 14 #[.agg #[.int .i64 ao, .int .u64 au, .string an, .slice aA ak ac]] W' (IntPost (depE x.a : Nat) W')))
      have hargs := Lib.hid gxA
      have gx' := Lib.hid gx
      have hgn : gn ≤ 30000 := by have := len_cnt x.ars; omega
      have hcars := Lib.hid (show cntL x.ars ≤ 30000 by omega)
      have d2 := depSs_cnt x.bd
      have d3 := depSs_cnt x.el
      have d4 := depE_le x.e
      have d5 := depE_le x.a
      obtain ⟨dS, hdS⟩ : ∃ d, depSs x.bd = d := ⟨_, rfl⟩
      obtain ⟨dT, hdT⟩ : ∃ d, depSs x.el = d := ⟨_, rfl⟩
      obtain ⟨dE, hdE⟩ : ∃ d, depE x.e = d := ⟨_, rfl⟩
      obtain ⟨dF, hdF⟩ : ∃ d, depE x.a = d := ⟨_, rfl⟩
      obtain ⟨tE, htE⟩ : ∃ d, noneE x.e = d := ⟨_, rfl⟩
      obtain ⟨tF, htF⟩ : ∃ d, noneE x.a = d := ⟨_, rfl⟩
      have hnx := Lib.hid (show maxL depS (L.take (k + 1)) = max (maxL depS (L.take k)) (1 + max (max (maxL depE x.ars) (max (if tE then 0 else dE) (if tF then 0 else dF))) (max dS dT)) by
        rw [maxL_take depS k hx, depS_eq, depL_max, hdS, hdT]
        unfold depO
        rw [hdE, hdF, htE, htF])
      have hle0 : maxL depS (L.take k) ≤ 30000 := Nat.le_trans (maxL_takele depS L k) hD'.out
      rw [hdS] at hbdc d2
      rw [hdT] at helc d3
      rw [hdE] at hde d4
      rw [hdF] at hda d5
      rw [htE] at hne
      rw [htF] at hna
      have up' := Lib.hid up
      have hb1 := Lib.hid hb1
      have hX := Lib.hid hX
      have hdSb : dS ≤ 30000 := by omega
      have hdTb : dT ≤ 30000 := by omega
      have hdEb : dE ≤ 30000 := by omega
      have hdFb : dF ≤ 30000 := by omega
      obtain ⟨M0, hM0⟩ : ∃ M0, maxL depS (L.take k) = M0 := ⟨_, rfl⟩
      rw [hM0] at hnx hle0 ⊢
      clear hM0 hdS hdT hdE hdF htE htF up hcx hx kx mx nx nxA ex1 ex2 ex3 ex4 exA exu ax1 ax2 ax3 ax4 axA axu lx hx' bx elx hxb hxl gxA gx c1 c2 c3 d2 d3 d4 d5
      go_upto_region 6 with fail
      clear v0 v1 v2 v3 v4 v5 v6 v7 v8 v9 v10 v11 v12 v13 v14 v15
      have p14 := Sub.cell p14
      have p15 := Sub.cell p15
      refine wp_region_below (by kernel_rfl) (by kernel_rfl) ?_
      repeat (go_big_quiet_step ((first | (go_at_call 153; with_reducible exact Sub.call (hbdc.out _)) | (go_at_call 153; with_reducible exact Sub.call (helc.out _)))))
      refine wpQuiet_nil ?_
      rintro w4 ⟨s4, hs4⟩
      have hb4 := hs4 ▸ s4.property
      have hb4 := Lib.hid hb4
      clear hs4 p0 p1 p2 p3 p4 p5 p6 p7 p8 p9 p10 p11 p12 p13 p14 p15
      obtain ⟨M1, hM1⟩ : ∃ M1, max dS dT = M1 := ⟨_, rfl⟩
      have hM1i := Lib.hid (show max (dS : Int) (dT : Int) = (M1 : Int) by omega)
      have hM1' := Lib.hid hM1
      have hM1b : M1 ≤ 30000 := by omega
      as_aux_lemma =>
        go_wp2_with fail
        go_loopg [6, 7] gn (fun g s6 s7 wx => ∃ j : Nat, j + g = gn ∧ s7 = .int .i64 j ∧ s6 = .int .i64 (max M1 (maxL depE (x.ars.take j)) : Nat) ∧ Below w1.heap.size w1 wx)
        case atStart => exact ⟨0, by omega, rfl, by first | (rw [List.take_zero, maxL, Nat.max_zero, ← hM1i.out]; done) | (rw [List.take_zero, maxL, Nat.max_zero, ← hM1i.out]; rfl) | (rw [List.take_zero, maxL, Nat.max_zero]; go_num), hb4.out⟩
        case round =>
          obtain ⟨j, hjg, rfl, rfl, hbz⟩ := hrel
          have hbz := Lib.hid hbz
          have hlej : maxL depE (x.ars.take j) ≤ 30000 := by
            have h1 := maxL_takele depE x.ars j
            have h2 := depL_le x.ars
            rw [depL_max] at h2
            have := hcars.out
            omega
          cases gk with
          | zero =>
            have e3 : ¬ (j : Int) < (gn : Int) := by omega
            have hfin := Lib.hid (show maxL depE (x.ars.take j) = maxL depE x.ars by rw [List.take_of_length_le (by have := gx'.out; omega)])
            obtain ⟨M2, hM2⟩ : ∃ M2, max M1 (maxL depE (x.ars.take j)) = M2 := ⟨_, rfl⟩
            have hM2' := Lib.hid (show max M1 (maxL depE x.ars) = M2 by rw [← hfin.out]; exact hM2)
            rw [hM2]
            have hM2b : M2 ≤ 30000 := by omega
            clear hM2 hlej
            obtain ⟨p0, p1, p2, p3, p4, p5, p6, p7, p8, p9, p10, p11, p12, p13, p14, p15⟩ := box16 ((hbz.out.block _ (blk_lt hX.out)).trans hX.out)
            go_wp2_with fail
            refine (hne.out _).mono ?_
            rintro e w5 ⟨rfl, hb5⟩
            have hbz := Lib.hid (Below.next hbz.out hb5)
            clear hb5
            clear p0 p1 p2 p3 p4 p5 p6 p7 p8 p9 p10 p11 p12 p13 p14 p15
            obtain ⟨p0, p1, p2, p3, p4, p5, p6, p7, p8, p9, p10, p11, p12, p13, p14, p15⟩ := box16 ((hbz.out.block _ (blk_lt hX.out)).trans hX.out)
            cases tE
            · go_wp2_with fail
              refine (hde.out _ hbz.out).mono ?_
              rintro e w7 ⟨rfl, hb7⟩
              have hbz := Lib.hid (Below.next hbz.out hb7)
              clear hb7
              clear p0 p1 p2 p3 p4 p5 p6 p7 p8 p9 p10 p11 p12 p13 p14 p15
              obtain ⟨p0, p1, p2, p3, p4, p5, p6, p7, p8, p9, p10, p11, p12, p13, p14, p15⟩ := box16 ((hbz.out.block _ (blk_lt hX.out)).trans hX.out)
              obtain ⟨M3, hM3⟩ : ∃ M3, max M2 dE = M3 := ⟨_, rfl⟩
              have hM3i : max (M2 : Int) (dE : Int) = (M3 : Int) := by omega
              have hM3' := Lib.hid hM3
              have hM3b : M3 ≤ 30000 := by omega
              go_wp2_with fail
              refine (hna.out _).mono ?_
              rintro e w6 ⟨rfl, hb6⟩
              have hbz := Lib.hid (Below.next hbz.out hb6)
              clear hb6
              clear p0 p1 p2 p3 p4 p5 p6 p7 p8 p9 p10 p11 p12 p13 p14 p15
              obtain ⟨p0, p1, p2, p3, p4, p5, p6, p7, p8, p9, p10, p11, p12, p13, p14, p15⟩ := box16 ((hbz.out.block _ (blk_lt hX.out)).trans hX.out)
              cases tF
              · go_wp2_with fail
                refine (hda.out _ hbz.out).mono ?_
                rintro e w7 ⟨rfl, hb7⟩
                have hbz := Lib.hid (Below.next hbz.out hb7)
                clear hb7
                clear p0 p1 p2 p3 p4 p5 p6 p7 p8 p9 p10 p11 p12 p13 p14 p15
                as_aux_lemma =>
                  go_wp2
                  all_goals
                    go_roundg g2
                    case measure => omega
                    case rel => exact ⟨k + 1, by omega, by go_num, by
                        have h := hnx.out
                        rw [h]
                        congr 1
                        have h2 := hM1'.out
                        have h3 := hM2'.out
                        simp only [if_true, if_false, Bool.false_eq_true] at *
                        omega, Below.next hb1.out hbz.out⟩
              · as_aux_lemma =>
                  go_wp2
                  all_goals
                    go_roundg g2
                    case measure => omega
                    case rel => exact ⟨k + 1, by omega, by go_num, by
                        have h := hnx.out
                        rw [h]
                        congr 1
                        have h2 := hM1'.out
                        have h3 := hM2'.out
                        simp only [if_true, if_false, Bool.false_eq_true] at *
                        omega, Below.next hb1.out hbz.out⟩
            · skip
              go_wp2_with fail
              refine (hna.out _).mono ?_
              rintro e w6 ⟨rfl, hb6⟩
              have hbz := Lib.hid (Below.next hbz.out hb6)
              clear hb6
              clear p0 p1 p2 p3 p4 p5 p6 p7 p8 p9 p10 p11 p12 p13 p14 p15
              obtain ⟨p0, p1, p2, p3, p4, p5, p6, p7, p8, p9, p10, p11, p12, p13, p14, p15⟩ := box16 ((hbz.out.block _ (blk_lt hX.out)).trans hX.out)
              cases tF
              · go_wp2_with fail
                refine (hda.out _ hbz.out).mono ?_
                rintro e w7 ⟨rfl, hb7⟩
                have hbz := Lib.hid (Below.next hbz.out hb7)
                clear hb7
                clear p0 p1 p2 p3 p4 p5 p6 p7 p8 p9 p10 p11 p12 p13 p14 p15
                as_aux_lemma =>
                  go_wp2
                  all_goals
                    go_roundg g2
                    case measure => omega
                    case rel => exact ⟨k + 1, by omega, by go_num, by
                        have h := hnx.out
                        rw [h]
                        congr 1
                        have h2 := hM1'.out
                        have h3 := hM2'.out
                        simp only [if_true, if_false, Bool.false_eq_true] at *
                        omega, Below.next hb1.out hbz.out⟩
              · as_aux_lemma =>
                  go_wp2
                  all_goals
                    go_roundg g2
                    case measure => omega
                    case rel => exact ⟨k + 1, by omega, by go_num, by
                        have h := hnx.out
                        rw [h]
                        congr 1
                        have h2 := hM1'.out
                        have h3 := hM2'.out
                        simp only [if_true, if_false, Bool.false_eq_true] at *
                        omega, Below.next hb1.out hbz.out⟩
          | succ g3 =>
            have e3 : (j : Int) < (gn : Int) := by omega
            obtain ⟨ab, ao', y, AB, ac', rfl, hy, t0, t1, t2, t3, hye⟩ := (hargs.out).at_ (k := j) (by have := gx'.out; omega)
            have hbv := Lib.hid (up'.out _ hbz.out)
            have t0 := (hbv.out.cell (p := ⟨ab, ao' + j * 4, none⟩) (cell_some_lt t0)).trans t0
            have t1 := (hbv.out.cell (p := ⟨ab, ao' + j * 4 + 1, none⟩) (cell_some_lt t1)).trans t1
            have t2 := (hbv.out.cell (p := ⟨ab, ao' + j * 4 + 2, none⟩) (cell_some_lt t2)).trans t2
            have t3 := (hbv.out.cell (p := ⟨ab, ao' + j * 4 + 3, none⟩) (cell_some_lt t3)).trans t3
            obtain ⟨p0, p1, p2, p3, p4, p5, p6, p7, p8, p9, p10, p11, p12, p13, p14, p15⟩ := box16 ((hbz.out.block _ (blk_lt hX.out)).trans hX.out)
            have hcy : cntE y ≤ 30000 := Nat.le_trans (cnt_mem hy) hcars.out
            have h14 := refDepth_any w0 y AB hye hcy ac' _ hbv.out
            unfold exV at h14
            have hy1 := depE_le y
            obtain ⟨q, hq⟩ : ∃ q, depE y = q := ⟨_, rfl⟩
            rw [hq] at h14 hy1
            have h14 := Lib.hid h14
            have hqb : q ≤ 30000 := by omega
            obtain ⟨M2, hM2⟩ : ∃ M2, max M1 (maxL depE (x.ars.take j)) = M2 := ⟨_, rfl⟩
            have hnext := Lib.hid (show max M1 (maxL depE (x.ars.take (j + 1))) = max M2 q by
              rw [maxL_take depE j hy, hq, ← hM2]
              omega)
            rw [hM2]
            have hM2b : M2 ≤ 30000 := by omega
            clear hq hy hye hcy hy1 hlej hM2
            go_wp2_with fail
            refine h14.out.mono ?_
            rintro e w7 ⟨rfl, hb7⟩
            have hbz := Lib.hid (Below.next hbz.out hb7)
            clear p0 p1 p2 p3 p4 p5 p6 p7 p8 p9 p10 p11 p12 p13 p14 p15
            clear t0 t1 t2 t3 hb7
            go_wp2
            all_goals
              go_roundg g3
              case measure => omega
              case rel => exact ⟨j + 1, by omega, by go_num, by rw [hnext.out]; go_num, hbz.out⟩
end Go.Proofs.YtnahgfdoiflacaaGreatDoor
