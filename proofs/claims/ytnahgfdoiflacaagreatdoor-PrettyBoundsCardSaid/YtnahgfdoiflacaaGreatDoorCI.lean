/- Long: whether a program has more parts than so many. -/
import Derived.Test.YtnahgfdoiflacaaGreatDoorCH
set_option linter.unusedSimpArgs false
set_option linter.unusedVariables false
namespace Go.Proofs.YtnahgfdoiflacaaGreatDoor
open Go.RowKit Go.Lib Go.Shelf

/-- Long's answer: where it says no, there are at most so many -/
def LongPost (c m : Nat) (w : World) (e : Ending) (w' : World) : Prop := ∃ b : Bool, e = .returned (.bool b) ∧ (b = false → c ≤ m) ∧ Below w.heap.size w w'

set_option maxRecDepth 100000 in
set_option maxHeartbeats 16000000 in
theorem longP_any (w0 : World) (p : Pg) (A B : Option Addr) (c d : Nat) (hr : CellsAt 4 cellsR w0 p.rs A) (hf : FnsAt w0 p.fs B) (m : Nat) (W : World) (hW : Below w0.heap.size w0 W) (hm : m ≤ 30000) (hl1 : p.rs.length ≤ 1000000000000000) (hl2 : p.fs.length ≤ 1000000000000000) :
    Calls Tryz.prog 18 #[pgV p A c B d, .int .i64 m] W (LongPost (cntP p) m W) := by
  have hR := Lib.hid hr
  have hF := Lib.hid hf
  have hW' := Lib.hid hW
  unfold pgV
  obtain ⟨n1, hn1⟩ : ∃ n, p.rs.length = n := ⟨_, rfl⟩
  obtain ⟨n2, hn2⟩ : ∃ n, p.fs.length = n := ⟨_, rfl⟩
  rw [hn1] at hl1 ⊢
  rw [hn2] at hl2 ⊢
  have hn1' := Lib.hid hn1
  have hn2' := Lib.hid hn2
  obtain ⟨W1, hW1⟩ : ∃ W1, W.alloc (.cells #[.slice A n1 c, .slice B n2 d] 39) = W1 := ⟨_, rfl⟩
  have hb1 : Below W.heap.size W W1 := by rw [← hW1]; exact (Below.refl _ W).alloc (Nat.le_refl _) _
  have hX0 : W1.heap[W.heap.size]? = some (.cells #[.slice A n1 c, .slice B n2 d] 39 (0, 0)) := by rw [← hW1]; exact heap_alloc_new _ _
  obtain ⟨p0, p1⟩ := box2 hX0
  have hb1 := Lib.hid hb1
  have hX0 := Lib.hid hX0
  have hW1' := Lib.hid hW1
  have up := Lib.hid (fun (W' : World) (h : Below W1.heap.size W1 W') => (hW.trans ((Below.next hb1.out h).mono hW.size) : Below w0.heap.size w0 W'))
  clear hr hf hW hn1 hn2 hW1
  go_enter Tryz.func18, Tryz.ntmps18
  go_wp2_with fail
  rw [hW1'.out]
  go_wp2_with fail
  clear p0 p1
  go_loopg [5, 6] n1 (fun g s5 s6 wr => ∃ k r : Nat, k + g = n1 ∧ s6 = .int .i64 k ∧ s5 = .int .i64 r ∧ r ≤ 2000000000000000 ∧ (r ≤ m → r = n1 + n2 + cntR (p.rs.take k)) ∧ Below W1.heap.size W1 wr)
  case atStart => exact ⟨0, n1 + n2, by omega, rfl, by go_num, by omega, fun _ => by rw [List.take_zero, cntR]; rfl, Below.refl _ _⟩
  case round =>
    obtain ⟨k, r, hkg, rfl, rfl, hrb, hrc, hbr⟩ := hrel
    have hrc := Lib.hid hrc
    have hbr := Lib.hid hbr
    by_cases hrm : r ≤ m
    · have e1 : (r : Int) ≤ (m : Int) := by omega
      cases gk with
      | succ g =>
        have e0 : (k : Int) < (n1 : Int) := by omega
        obtain ⟨nb, no, y, rfl, hy, hcy⟩ := (hR.out).at_ (i := k) (by have := hn1'.out; omega)
        have hbz := Lib.hid (up.out _ hbr.out)
        have t0 : w0.cell? ⟨nb, no + k * 4, none⟩ = some (.string y.nm) := hcy 0 (by omega)
        have t0 := (hbz.out.cell (p := ⟨nb, no + k * 4, none⟩) (cell_some_lt t0)).trans t0
        obtain ⟨p0, p1⟩ := box2 ((hbr.out.block _ (blk_lt hX0.out)).trans hX0.out)
        obtain ⟨q, hq⟩ : ∃ q, 1 + min y.nm.size m = q := ⟨_, rfl⟩
        have h48y := fun W' : World => name48_any y.nm m W' (by omega)
        rw [hq] at h48y
        have h48y := Lib.hid h48y
        have hqb : q ≤ m + 1 := by omega
        have hnext := Lib.hid (show r + q ≤ m → r + q = n1 + n2 + cntR (p.rs.take (k + 1)) from fun h => by
          have h1 := hrc.out hrm
          rw [cntR_take k hy]
          omega)
        have hkm : k ≤ m := by
          have h1 := hrc.out hrm
          omega
        clear hq hy hcy
        go_wp2_with fail
        refine (h48y.out _).mono ?_
        rintro e w7 ⟨rfl, rfl⟩
        clear p0 p1 t0
        go_wp2_with fail
        go_roundg g
        case measure => omega
        case rel => exact ⟨k + 1, r + q, by omega, by go_num, by go_num, by omega, hnext.out, hbr.out⟩
      | zero =>
        have e0 : ¬ (k : Int) < (n1 : Int) := by omega
        have hrc := Lib.hid (show r = n1 + n2 + cntR p.rs by
          have := hrc.out hrm
          rw [List.take_of_length_le (by rw [hn1'.out]; omega)] at this
          exact this)
        obtain ⟨p0, p1⟩ := box2 ((hbr.out.block _ (blk_lt hX0.out)).trans hX0.out)
        go_wp2_with fail
        clear p0 p1
        go_loopg [5, 7] n2 (fun g s5 s7 wr => ∃ k r : Nat, k + g = n2 ∧ s7 = .int .i64 k ∧ s5 = .int .i64 r ∧ r ≤ 2000000000000000 ∧ (r ≤ m → r = n1 + n2 + cntR p.rs + cntFs (p.fs.take k)) ∧ Below W1.heap.size W1 wr)
        case atStart => exact ⟨0, r, by omega, rfl, rfl, hrb, fun _ => by rw [List.take_zero, cntFs]; exact hrc.out, hbr.out⟩
        case round =>
          as_aux_lemma =>
          clear hrb hrm hbr hkg e1 e0
          have hrc0 := hrc
          clear hrc
          obtain ⟨k2, r', hkg, rfl, rfl, hrb, hrc, hbr⟩ := hrel
          have hrc := Lib.hid hrc
          have hbr := Lib.hid hbr
          obtain ⟨p0, p1⟩ := box2 ((hbr.out.block _ (blk_lt hX0.out)).trans hX0.out)
          by_cases hrm : r' ≤ m
          · have e1 : (r' : Int) ≤ (m : Int) := by omega
            cases gk with
            | zero =>
              have e0 : ¬ (k2 : Int) < (n2 : Int) := by omega
              have hfin := Lib.hid (show cntP p ≤ m by
                have := hrc.out hrm
                rw [List.take_of_length_le (by rw [hn2'.out]; omega)] at this
                unfold cntP
                rw [hn1'.out, hn2'.out]
                omega)
              have e2 : ¬ (m : Int) < (r' : Int) := by omega
              go_wp2
              go_ret
              exact ⟨_, rfl, fun _ => hfin.out, Below.next hb1.out hbr.out⟩
            | succ g =>
              have e0 : (k2 : Int) < (n2 : Int) := by omega
              have hk2m : k2 ≤ m := by
                have h1 := hrc.out hrm
                omega
              have hbw := Lib.hid (up.out _ hbr.out)
              obtain ⟨blk, off, x, s, rfl, hx, hcx, hnow⟩ := (hF.out).at_ (k := k2) (by rw [hn2'.out]; omega)
              obtain ⟨nm, ⟨pA, pn, pc⟩, ⟨vA, vn, vc⟩, ⟨rA, rn, rc⟩, ⟨bA, bn, bc⟩⟩ := s
              obtain ⟨kx, px, pxA, vx, vxA, rx, rxA, bx, bxA, _, _⟩ := hnow
              dsimp only at kx px pxA vx vxA rx rxA bx bxA
              have v0 : w0.cell? ⟨blk, off + k2 * 5, none⟩ = some (.string nm) := hcx 0 (by omega)
              have v0 := (hbw.out.cell (p := ⟨blk, off + k2 * 5, none⟩) (cell_some_lt v0)).trans v0
              have v1 : w0.cell? ⟨blk, off + k2 * 5 + 1, none⟩ = some (.slice pA pn pc) := hcx 1 (by omega)
              have v1 := (hbw.out.cell (p := ⟨blk, off + k2 * 5 + 1, none⟩) (cell_some_lt v1)).trans v1
              have v2 : w0.cell? ⟨blk, off + k2 * 5 + 2, none⟩ = some (.slice vA vn vc) := hcx 2 (by omega)
              have v2 := (hbw.out.cell (p := ⟨blk, off + k2 * 5 + 2, none⟩) (cell_some_lt v2)).trans v2
              have v3 : w0.cell? ⟨blk, off + k2 * 5 + 3, none⟩ = some (.slice rA rn rc) := hcx 3 (by omega)
              have v3 := (hbw.out.cell (p := ⟨blk, off + k2 * 5 + 3, none⟩) (cell_some_lt v3)).trans v3
              have v4 : w0.cell? ⟨blk, off + k2 * 5 + 4, none⟩ = some (.slice bA bn bc) := hcx 4 (by omega)
              have v4 := (hbw.out.cell (p := ⟨blk, off + k2 * 5 + 4, none⟩) (cell_some_lt v4)).trans v4
              obtain ⟨w1, hw1⟩ : ∃ w1, wr.alloc (.cells #[.string nm, .slice pA pn pc, .slice vA vn vc, .slice rA rn rc, .slice bA bn bc] 54) = w1 := ⟨_, rfl⟩
              have hb2 : Below W1.heap.size W1 w1 := by rw [← hw1]; exact hbr.out.alloc hbr.out.size _
              have hX : w1.heap[wr.heap.size]? = some (.cells #[.string nm, .slice pA pn pc, .slice vA vn vc, .slice rA rn rc, .slice bA bn bc] 54 (0, 0)) := by rw [← hw1]; exact heap_alloc_new _ _
              obtain ⟨f0, f1, f2, f3, f4⟩ := box5 hX
              have up2 := Lib.hid (fun (W' : World) (h : Below w1.heap.size w1 W') => up.out W' (Below.next hb2 h))
              have hX := Lib.hid hX
              have hb2 := Lib.hid hb2
              have h48 := fun W' : World => name48_any nm m W' (by omega)
              obtain ⟨qs, hqs⟩ : ∃ q, 1 + min nm.size m = q := ⟨_, rfl⟩
              rw [hqs] at h48
              have h48 := Lib.hid h48
              have hqsb : qs ≤ m + 1 := by omega
              obtain ⟨C1, hC1⟩ : ∃ C1, n1 + n2 + cntR p.rs + cntFs (p.fs.take k2) + (1 + nm.size) = C1 := ⟨_, rfl⟩
              have hr1 := Lib.hid (show r' + qs ≤ m → r' + qs = C1 from fun h => by
                have := hrc.out hrm
                omega)
              have hCk := Lib.hid (show C1 + cntV x.ps + cntV x.vs + cntN x.rs + cntSs x.bd = n1 + n2 + cntR p.rs + cntFs (p.fs.take (k2 + 1)) by
                rw [cntFs_take k2 hx, ← hC1, kx]
                unfold cntF
                omega)
              obtain ⟨r1, hr1e⟩ : ∃ r1, r' + qs = r1 := ⟨_, rfl⟩
              rw [hr1e] at hr1
              have hr1b : r1 ≤ 2 * m + 1 := by omega
              have hbody := Lib.hid (fun (W' : World) (hW2 : Below w1.heap.size w1 W') => (show Calls Tryz.prog 49 #[.slice bA bn bc, .int .i64 (m : Int)] W' (CntPost (cntSs x.bd) m W') by
                rw [bx]
                exact countS_any w0 x.bd bA bxA m bc W' hm (up2.out _ hW2)))
              have hP := Lib.hid pxA
              have hV := Lib.hid vxA
              have hN := Lib.hid rxA
              have px' := Lib.hid px
              have vx' := Lib.hid vx
              have rx' := Lib.hid rx
              clear px vx rx hqs hC1 hcx hx kx bx bxA pxA vxA rxA
              go_wp2_with fail
              refine (h48.out _).mono ?_
              rintro e w7 ⟨rfl, hw7⟩
              rw [hw7]
              clear hw7
              clear f0 f1 f2 f3 f4
              have hb5 := Lib.hid (Below.refl w1.heap.size w1)
              as_aux_lemma =>
                go_wp2_with fail
                go_loopg [5, 9] pn (fun g s5 s8 wx => ∃ j r2 : Nat, j + g = pn ∧ s8 = .int .i64 j ∧ s5 = .int .i64 r2 ∧ r2 ≤ 2 * m + 1 ∧ (r2 ≤ m → r2 = C1 + cntV (x.ps.take j)) ∧ Below w1.heap.size w1 wx)
                case atStart => exact ⟨0, r1, by omega, rfl, by subst hr1e; go_num, hr1b, fun h => by rw [List.take_zero, cntV]; exact hr1.out h, hb5.out⟩
                case round =>
                  obtain ⟨j0, r2, hjg, rfl, rfl, hr2b, hr2c, hb6⟩ := hrel
                  have hr2c := Lib.hid hr2c
                  have hb6 := Lib.hid hb6
                  by_cases hrm2 : r2 ≤ m
                  · have e2 : (r2 : Int) ≤ (m : Int) := by omega
                    cases gk with
                    | zero =>
                      have e3 : ¬ (j0 : Int) < (pn : Int) := by omega
                      have hr2c := Lib.hid (show r2 = C1 + cntV x.ps by
                        have := hr2c.out hrm2
                        rw [List.take_of_length_le (by have := px'.out; omega)] at this
                        exact this)
                      obtain ⟨f0, f1, f2, f3, f4⟩ := box5 ((hb6.out.block _ (blk_lt hX.out)).trans hX.out)
                      as_aux_lemma =>
                        go_wp2_with fail
                        go_loopg [5, 10] vn (fun g s5 s8 wx => ∃ j r2 : Nat, j + g = vn ∧ s8 = .int .i64 j ∧ s5 = .int .i64 r2 ∧ r2 ≤ 2 * m + 1 ∧ (r2 ≤ m → r2 = C1 + cntV x.ps + cntV (x.vs.take j)) ∧ Below w1.heap.size w1 wx)
                        case atStart => exact ⟨0, r2, by omega, rfl, rfl, hr2b, fun h => by rw [List.take_zero, cntV]; exact hr2c.out, hb6.out⟩
                        case round =>
                          obtain ⟨j1, r3, hjg, rfl, rfl, hr3b, hr3c, hb7⟩ := hrel
                          have hr3c := Lib.hid hr3c
                          have hb7 := Lib.hid hb7
                          by_cases hrm3 : r3 ≤ m
                          · have e2 : (r3 : Int) ≤ (m : Int) := by omega
                            cases gk with
                            | zero =>
                              have e3 : ¬ (j1 : Int) < (vn : Int) := by omega
                              have hr3c := Lib.hid (show r3 = C1 + cntV x.ps + cntV x.vs by
                                have := hr3c.out hrm3
                                rw [List.take_of_length_le (by have := vx'.out; omega)] at this
                                exact this)
                              obtain ⟨f0, f1, f2, f3, f4⟩ := box5 ((hb7.out.block _ (blk_lt hX.out)).trans hX.out)
                              as_aux_lemma =>
                                go_wp2_with fail
                                go_loopg [5, 11] rn (fun g s5 s8 wx => ∃ j r2 : Nat, j + g = rn ∧ s8 = .int .i64 j ∧ s5 = .int .i64 r2 ∧ r2 ≤ 2 * m + 1 ∧ (r2 ≤ m → r2 = C1 + cntV x.ps + cntV x.vs + cntN (x.rs.take j)) ∧ Below w1.heap.size w1 wx)
                                case atStart => exact ⟨0, r3, by omega, rfl, rfl, hr3b, fun h => by rw [List.take_zero, cntN]; exact hr3c.out, hb7.out⟩
                                case round =>
                                  obtain ⟨j2, r4, hjg, rfl, rfl, hr4b, hr4c, hb8⟩ := hrel
                                  have hr4c := Lib.hid hr4c
                                  have hb8 := Lib.hid hb8
                                  by_cases hrm4 : r4 ≤ m
                                  · have e2 : (r4 : Int) ≤ (m : Int) := by omega
                                    cases gk with
                                    | zero =>
                                      have e3 : ¬ (j2 : Int) < (rn : Int) := by omega
                                      have hr4c := Lib.hid (show r4 = C1 + cntV x.ps + cntV x.vs + cntN x.rs by
                                        have := hr4c.out hrm4
                                        rw [List.take_of_length_le (by have := rx'.out; omega)] at this
                                        exact this)
                                      obtain ⟨f0, f1, f2, f3, f4⟩ := box5 ((hb8.out.block _ (blk_lt hX.out)).trans hX.out)
                                      as_aux_lemma =>
                                        go_wp2_with fail
                                        clear f0 f1 f2 f3 f4
                                        refine (hbody.out _ hb8.out).mono ?_
                                        rintro e w8 ⟨q8, rfl, hq8b, hq8c, hbE⟩
                                        have hbE := Lib.hid (Below.next hb8.out hbE)
                                        have hq8c := Lib.hid hq8c
                                        go_wp2_with fail
                                        go_roundg g
                                        case measure => omega
                                        case rel => exact ⟨k2 + 1, r4 + q8, by omega, by go_num, by go_num, by omega, fun h => by
                                            have h1 := hq8c.out (by omega)
                                            have h2 := hr4c.out
                                            have h3 := hCk.out
                                            omega, Below.next hb2.out hbE.out⟩
                                    | succ g2 =>
                                      have e3 : (j2 : Int) < (rn : Int) := by omega
                                      obtain ⟨nb, no, y, rfl, hy, hcy⟩ := (hN.out).at_ (i := j2) (by have := rx'.out; omega)
                                      have hyn : y.size = y.size := rfl
                                      have hbz := Lib.hid (up2.out _ hb8.out)
                                      have t0 : w0.cell? ⟨nb, no + j2, none⟩ = some (.string y) := by have := hcy 0 (by omega); rw [Nat.mul_one] at this; exact this
                                      have t0 := (hbz.out.cell (p := ⟨nb, no + j2, none⟩) (cell_some_lt t0)).trans t0
                                      obtain ⟨f0, f1, f2, f3, f4⟩ := box5 ((hb8.out.block _ (blk_lt hX.out)).trans hX.out)
                                      obtain ⟨q, hq⟩ : ∃ q, 1 + min y.size m = q := ⟨_, rfl⟩
                                      have h48y := fun W' : World => name48_any y m W' (by omega)
                                      rw [hq] at h48y
                                      have h48y := Lib.hid h48y
                                      have hqb : q ≤ m + 1 := by omega
                                      have hnext := Lib.hid (show r4 + q ≤ m → r4 + q = C1 + cntV x.ps + cntV x.vs + cntN (x.rs.take (j2 + 1)) from fun h => by
                                        have h1 := hr4c.out hrm4
                                        rw [cntN_take j2 hy]
                                        omega)
                                      have hjm : j2 ≤ m := by
                                        have h1 := hr4c.out hrm4
                                        have h2 := len_cntN (x.rs.take j2)
                                        have h3 := rx'.out
                                        rw [List.length_take] at h2
                                        omega
                                      clear hq hy hcy hyn
                                      go_wp2_with fail
                                      refine (h48y.out _).mono ?_
                                      rintro e w7 ⟨rfl, rfl⟩
                                      clear f0 f1 f2 f3 f4
                                      clear t0
                                      go_wp2_with fail
                                      go_roundg g2
                                      case measure => omega
                                      case rel => exact ⟨j2 + 1, r4 + q, by omega, by go_num, by go_num, by omega, hnext.out, hb8.out⟩
                                  · have ebig : ¬ (r4 : Int) ≤ (m : Int) := by omega
                                    have hbig := Lib.hid (show r4 ≤ m → False from hrm4)
                                    obtain ⟨f0, f1, f2, f3, f4⟩ := box5 ((hb8.out.block _ (blk_lt hX.out)).trans hX.out)
                                    by_cases hjn : (j2 : Int) < (rn : Int)
                                    all_goals
                                      as_aux_lemma =>
                                        go_wp2_with fail
                                        refine (hbody.out _ hb8.out).mono ?_
                                        rintro e w8 ⟨q8, rfl, hq8b, hq8c, hbE⟩
                                        have hbE := Lib.hid (Below.next hb8.out hbE)
                                        have hq8c := Lib.hid hq8c
                                        go_wp2_with fail
                                        go_roundg g
                                        case measure => omega
                                        case rel => exact ⟨k2 + 1, r4 + q8, by omega, by go_num, by go_num, by omega, fun h => by
                                            have h1 := hq8c.out (by omega)
                                            exact (hbig.out (by omega)).elim, Below.next hb2.out hbE.out⟩
                            | succ g2 =>
                              have e3 : (j1 : Int) < (vn : Int) := by omega
                              obtain ⟨nb, no, yv, rfl, hy, hcy⟩ := (hV.out).at_ (i := j1) (by have := vx'.out; omega)
                              obtain ⟨y, hyn⟩ : ∃ y, yv.nm = y := ⟨_, rfl⟩
                              have hbz := Lib.hid (up2.out _ hb7.out)
                              have t0 : w0.cell? ⟨nb, no + j1 * 4, none⟩ = some (.string y) := by rw [← hyn]; exact hcy 0 (by omega)
                              have t0 := (hbz.out.cell (p := ⟨nb, no + j1 * 4, none⟩) (cell_some_lt t0)).trans t0
                              obtain ⟨f0, f1, f2, f3, f4⟩ := box5 ((hb7.out.block _ (blk_lt hX.out)).trans hX.out)
                              obtain ⟨q, hq⟩ : ∃ q, 1 + min y.size m = q := ⟨_, rfl⟩
                              have h48y := fun W' : World => name48_any y m W' (by omega)
                              rw [hq] at h48y
                              have h48y := Lib.hid h48y
                              have hqb : q ≤ m + 1 := by omega
                              have hnext := Lib.hid (show r3 + q ≤ m → r3 + q = C1 + cntV x.ps + cntV (x.vs.take (j1 + 1)) from fun h => by
                                have h1 := hr3c.out hrm3
                                rw [cntV_take j1 hy, hyn]
                                omega)
                              have hjm : j1 ≤ m := by
                                have h1 := hr3c.out hrm3
                                have h2 := len_cntV (x.vs.take j1)
                                have h3 := vx'.out
                                rw [List.length_take] at h2
                                omega
                              clear hq hy hcy hyn
                              go_wp2_with fail
                              refine (h48y.out _).mono ?_
                              rintro e w7 ⟨rfl, rfl⟩
                              clear f0 f1 f2 f3 f4
                              clear t0
                              go_wp2_with fail
                              go_roundg g2
                              case measure => omega
                              case rel => exact ⟨j1 + 1, r3 + q, by omega, by go_num, by go_num, by omega, hnext.out, hb7.out⟩
                          · have ebig : ¬ (r3 : Int) ≤ (m : Int) := by omega
                            have hbig := Lib.hid (show r3 ≤ m → False from hrm3)
                            obtain ⟨f0, f1, f2, f3, f4⟩ := box5 ((hb7.out.block _ (blk_lt hX.out)).trans hX.out)
                            by_cases hjn : (j1 : Int) < (vn : Int)
                            all_goals
                              as_aux_lemma =>
                                by_cases hr0 : (0 : Int) < (rn : Int)
                                all_goals
                                  go_wp2_with fail
                                  refine wp_loop_rounds 1 ?_
                                  rw [rounds_succ]
                                  go_wp2_with fail
                                  refine (hbody.out _ hb7.out).mono ?_
                                  rintro e w8 ⟨q8, rfl, hq8b, hq8c, hbE⟩
                                  have hbE := Lib.hid (Below.next hb7.out hbE)
                                  have hq8c := Lib.hid hq8c
                                  go_wp2_with fail
                                  go_roundg g
                                  case measure => omega
                                  case rel => exact ⟨k2 + 1, r3 + q8, by omega, by go_num, by go_num, by omega, fun h => by
                                      have h1 := hq8c.out (by omega)
                                      exact (hbig.out (by omega)).elim, Below.next hb2.out hbE.out⟩
                    | succ g2 =>
                      have e3 : (j0 : Int) < (pn : Int) := by omega
                      obtain ⟨nb, no, yv, rfl, hy, hcy⟩ := (hP.out).at_ (i := j0) (by have := px'.out; omega)
                      obtain ⟨y, hyn⟩ : ∃ y, yv.nm = y := ⟨_, rfl⟩
                      have hbz := Lib.hid (up2.out _ hb6.out)
                      have t0 : w0.cell? ⟨nb, no + j0 * 4, none⟩ = some (.string y) := by rw [← hyn]; exact hcy 0 (by omega)
                      have t0 := (hbz.out.cell (p := ⟨nb, no + j0 * 4, none⟩) (cell_some_lt t0)).trans t0
                      obtain ⟨f0, f1, f2, f3, f4⟩ := box5 ((hb6.out.block _ (blk_lt hX.out)).trans hX.out)
                      obtain ⟨q, hq⟩ : ∃ q, 1 + min y.size m = q := ⟨_, rfl⟩
                      have h48y := fun W' : World => name48_any y m W' (by omega)
                      rw [hq] at h48y
                      have h48y := Lib.hid h48y
                      have hqb : q ≤ m + 1 := by omega
                      have hnext := Lib.hid (show r2 + q ≤ m → r2 + q = C1 + cntV (x.ps.take (j0 + 1)) from fun h => by
                        have h1 := hr2c.out hrm2
                        rw [cntV_take j0 hy, hyn]
                        omega)
                      have hjm : j0 ≤ m := by
                        have h1 := hr2c.out hrm2
                        have h2 := len_cntV (x.ps.take j0)
                        have h3 := px'.out
                        rw [List.length_take] at h2
                        omega
                      clear hq hy hcy hyn
                      go_wp2_with fail
                      refine (h48y.out _).mono ?_
                      rintro e w7 ⟨rfl, rfl⟩
                      clear f0 f1 f2 f3 f4
                      clear t0
                      go_wp2_with fail
                      go_roundg g2
                      case measure => omega
                      case rel => exact ⟨j0 + 1, r2 + q, by omega, by go_num, by go_num, by omega, hnext.out, hb6.out⟩
                  · have ebig : ¬ (r2 : Int) ≤ (m : Int) := by omega
                    have hbig := Lib.hid (show r2 ≤ m → False from hrm2)
                    obtain ⟨f0, f1, f2, f3, f4⟩ := box5 ((hb6.out.block _ (blk_lt hX.out)).trans hX.out)
                    by_cases hjn : (j0 : Int) < (pn : Int)
                    all_goals
                      as_aux_lemma =>
                        by_cases hv0 : (0 : Int) < (vn : Int)
                        all_goals
                          by_cases hr0 : (0 : Int) < (rn : Int)
                          all_goals
                            go_wp2_with fail
                            refine wp_loop_rounds 1 ?_
                            rw [rounds_succ]
                            go_wp2_with fail
                            refine wp_loop_rounds 1 ?_
                            rw [rounds_succ]
                            go_wp2_with fail
                            refine (hbody.out _ hb6.out).mono ?_
                            rintro e w8 ⟨q8, rfl, hq8b, hq8c, hbE⟩
                            have hbE := Lib.hid (Below.next hb6.out hbE)
                            have hq8c := Lib.hid hq8c
                            go_wp2_with fail
                            go_roundg g
                            case measure => omega
                            case rel => exact ⟨k2 + 1, r2 + q8, by omega, by go_num, by go_num, by omega, fun h => by
                                have h1 := hq8c.out (by omega)
                                exact (hbig.out (by omega)).elim, Below.next hb2.out hbE.out⟩
          · have e1 : ¬ (r' : Int) ≤ (m : Int) := by omega
            have e2 : (m : Int) < (r' : Int) := by omega
            by_cases e0 : (k2 : Int) < (n2 : Int)
            all_goals
              go_wp2
              go_ret
              first | exact ⟨_, rfl, (fun h => by cases h), Below.next hb1.out hbr.out⟩ | exact ⟨rfl, (fun h => by cases h), Below.next hb1.out hbr.out⟩
    · have e1 : ¬ (r : Int) ≤ (m : Int) := by omega
      have e2 : (m : Int) < (r : Int) := by omega
      obtain ⟨p0, p1⟩ := box2 ((hbr.out.block _ (blk_lt hX0.out)).trans hX0.out)
      by_cases e0 : (k : Int) < (n1 : Int)
      all_goals
        by_cases e3 : (0 : Int) < (n2 : Int)
        all_goals
          go_wp2_with fail
          go_rounds 1
          go_wp2
          go_ret
          first | exact ⟨_, rfl, (fun h => by cases h), Below.next hb1.out hbr.out⟩ | exact ⟨rfl, (fun h => by cases h), Below.next hb1.out hbr.out⟩
end Go.Proofs.YtnahgfdoiflacaaGreatDoor
