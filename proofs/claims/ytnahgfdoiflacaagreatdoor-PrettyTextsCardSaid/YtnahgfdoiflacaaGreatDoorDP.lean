/- Which programs can be told: the reference's May. -/
import Derived.Test.YtnahgfdoiflacaaGreatDoorDO
set_option linter.unusedSimpArgs false
set_option linter.unusedVariables false
namespace Go.Proofs.YtnahgfdoiflacaaGreatDoor
open Go.RowKit Go.Lib Go.Shelf

set_option maxRecDepth 100000 in
set_option maxHeartbeats 16000000 in
theorem refMay21_any (w0 : World) (p : Pg) (A B : Option Addr) (c d : Nat) (hr : CellsAt 4 cellsR w0 p.rs A) (hf : FnsAt w0 p.fs B) (W : World) (hW : Below w0.heap.size w0 W) (hcp : cntP p ≤ 30000) : Calls Tryz.prog 21 #[pgV p A c B d] W (BoolPost (mayPg p) W) := by
  unfold cntP at hcp
  have hcp := Lib.hid hcp
  have hR := Lib.hid hr
  have hF := Lib.hid hf
  unfold pgV
  obtain ⟨n, hn⟩ : ∃ n, p.rs.length = n := ⟨_, rfl⟩
  obtain ⟨m, hm⟩ : ∃ n, p.fs.length = n := ⟨_, rfl⟩
  rw [hn, hm]
  have hnb : n ≤ 30000 := by have := hcp.out; omega
  have hmb : m ≤ 30000 := by have := hcp.out; omega
  have hn' := Lib.hid hn
  have hm' := Lib.hid hm
  clear hn hm hr hf
  obtain ⟨W1, hW1⟩ : ∃ W1, W.alloc (.cells #[.slice A n c, .slice B m d] 39) = W1 := ⟨_, rfl⟩
  have hb1 : Below W.heap.size W W1 := by rw [← hW1]; exact (Below.refl _ W).alloc (Nat.le_refl _) _
  have hX : W1.heap[W.heap.size]? = some (.cells #[.slice A n c, .slice B m d] 39 (0, 0)) := by rw [← hW1]; exact heap_alloc_new _ _
  have up := Lib.hid fun (W' : World) (h : Below W1.heap.size W1 W') => (hW.trans ((Below.next hb1 h).mono hW.size) : Below w0.heap.size w0 W')
  obtain ⟨p0, p1⟩ := box2 hX
  have hX := Lib.hid hX
  have hb1 := Lib.hid hb1
  have hW1' := Lib.hid hW1
  clear hW hW1
  go_enter Tryz.func21, Tryz.ntmps21
  go_wp2_with fail
  rw [hW1'.out]
  go_wp2_with fail
  clear p0 p1
  go_loopg [3] n (fun g s wr => ∃ k : Nat, k + g = n ∧ s = .int .i64 k ∧ (∀ (i : Nat) (y : RegC), i < k → p.rs[i]? = some y → mayRg y = true) ∧ Below W1.heap.size W1 wr)
  case atStart => exact ⟨0, by omega, rfl, fun i y h => absurd h (by omega), Below.refl _ _⟩
  case round =>
    obtain ⟨k, hkg, rfl, hall, hbr⟩ := hrel
    have hall := Lib.hid hall
    have hbr := Lib.hid hbr
    obtain ⟨p0, p1⟩ := box2 ((hbr.out.block _ (blk_lt hX.out)).trans hX.out)
    cases gk with
    | succ g2 =>
      as_aux_lemma =>
        have e0 : (k : Int) < (n : Int) := by omega
        obtain ⟨nb, no, y, rfl, hy, hcy⟩ := (hR.out).at_ (i := k) (by have := hn'.out; omega)
        have hbz := Lib.hid (up.out _ hbr.out)
        have t0 : w0.cell? ⟨nb, no + k * 4, none⟩ = some (.string y.nm) := hcy 0 (by omega)
        have t1 : w0.cell? ⟨nb, no + k * 4 + 1, none⟩ = some (.int .i64 y.ad) := hcy 1 (by omega)
        have t2 : w0.cell? ⟨nb, no + k * 4 + 2, none⟩ = some (.int .i64 y.sz) := hcy 2 (by omega)
        have t3 : w0.cell? ⟨nb, no + k * 4 + 3, none⟩ = some (.bool y.sc) := hcy 3 (by omega)
        have t0 := (hbz.out.cell (p := ⟨nb, no + k * 4, none⟩) (cell_some_lt t0)).trans t0
        have t1 := (hbz.out.cell (p := ⟨nb, no + k * 4 + 1, none⟩) (cell_some_lt t1)).trans t1
        have t2 := (hbz.out.cell (p := ⟨nb, no + k * 4 + 2, none⟩) (cell_some_lt t2)).trans t2
        have t3 := (hbz.out.cell (p := ⟨nb, no + k * 4 + 3, none⟩) (cell_some_lt t3)).trans t3
        have h71 := Lib.hid (fun W' : World => refName_any y.nm W' (by have h := cntR_mem hy; have := hcp.out; omega))
        obtain ⟨t, ht⟩ : ∃ t, mayRg y = t := ⟨_, rfl⟩
        have ht' := Lib.hid ht
        have hy' := Lib.hid hy
        obtain ⟨s1, hs1⟩ : ∃ b, decide (0 ≤ y.ad) = b := ⟨_, rfl⟩
        obtain ⟨s2, hs2⟩ : ∃ b, decide (0 ≤ y.sz) = b := ⟨_, rfl⟩
        have hs1n : decide (y.ad < 0) = !s1 := by
          rw [← hs1]
          by_cases h : 0 ≤ y.ad
          · rw [decide_eq_true h, decide_eq_false (by omega)]; rfl
          · rw [decide_eq_false h, decide_eq_true (by omega)]; rfl
        have hs2n : decide (y.sz < 0) = !s2 := by
          rw [← hs2]
          by_cases h : 0 ≤ y.sz
          · rw [decide_eq_true h, decide_eq_false (by omega)]; rfl
          · rw [decide_eq_false h, decide_eq_true (by omega)]; rfl
        unfold mayRg at ht
        rw [hs1, hs2] at ht
        obtain ⟨tn, htn⟩ : ∃ b, nameB y.nm = b := ⟨_, rfl⟩
        rw [htn] at h71 ht
        obtain ⟨wx, hwx⟩ : ∃ wx, wr.alloc (.cells #[.string y.nm, .int .i64 y.ad, .int .i64 y.sz, .bool y.sc] 82) = wx := ⟨_, rfl⟩
        have hbx := Lib.hid (show Below W1.heap.size W1 wx by rw [← hwx]; exact hbr.out.alloc hbr.out.size _)
        have hxx := Lib.hid (show wx.heap[wr.heap.size]? = some (.cells #[.string y.nm, .int .i64 y.ad, .int .i64 y.sz, .bool y.sc] 82 (0, 0)) by rw [← hwx]; exact heap_alloc_new _ _)
        obtain ⟨y0, y1, y2, y3, _⟩ := box4 hxx.out
        clear hy hcy htn hs1 hs2
        go_wp2_with fail
        refine (h71.out _).mono ?_
        rintro e w7 ⟨rfl, hb7⟩
        have hxx2 := (hb7.block _ (blk_lt hxx.out)).trans hxx.out
        have hb7 := Lib.hid (Below.next hbx.out hb7)
        clear p0 p1 t0 t1 t2 t3 y0 y1 y2 y3
        obtain ⟨y0, y1, y2, y3, _⟩ := box4 hxx2
        clear hxx2
        cases tn
        · subst ht
          have hs := Lib.hid (show mayPg p = false from by
            unfold mayPg
            rw [show p.rs.all mayRg = false by
              rw [List.all_eq_false]
              exact ⟨y, List.mem_of_getElem? hy'.out, by rw [ht'.out]; simp⟩, Bool.false_and])
          go_wp2
          go_ret
          exact ⟨by rw [hs.out]; rfl, Below.next hb1.out hb7.out⟩
        · cases s1
          · subst ht
            have hs := Lib.hid (show mayPg p = false from by
              unfold mayPg
              rw [show p.rs.all mayRg = false by
                rw [List.all_eq_false]
                exact ⟨y, List.mem_of_getElem? hy'.out, by rw [ht'.out]; simp⟩, Bool.false_and])
            go_wp2
            go_ret
            exact ⟨by rw [hs.out]; rfl, Below.next hb1.out hb7.out⟩
          · cases s2
            · subst ht
              have hs := Lib.hid (show mayPg p = false from by
                unfold mayPg
                rw [show p.rs.all mayRg = false by
                  rw [List.all_eq_false]
                  exact ⟨y, List.mem_of_getElem? hy'.out, by rw [ht'.out]; simp⟩, Bool.false_and])
              go_wp2
              go_ret
              exact ⟨by rw [hs.out]; rfl, Below.next hb1.out hb7.out⟩
            · subst ht
              go_wp2
              go_roundg g2
              case measure => omega
              case rel =>
                refine ⟨k + 1, by omega, by go_num, fun i z hi hz => ?_, hb7.out⟩
                rcases Nat.lt_or_ge i k with h | h
                · exact hall.out i z h hz
                · obtain rfl : i = k := by omega
                  rw [hy'.out] at hz
                  cases hz
                  exact ht'.out
    | zero =>
      have e0 : ¬ ((k : Int) < (n : Int)) := by omega
      have hallR := Lib.hid (show p.rs.all mayRg = true by
        rw [List.all_eq_true]
        intro y hy
        obtain ⟨i, hi⟩ := List.getElem?_of_mem hy
        exact hall.out i y (by have := (List.getElem?_eq_some_iff.1 hi).1; have := hn'.out; omega) hi)
      go_wp2_with fail
      clear p0 p1
      go_loopg [5] m (fun g s wr => ∃ k : Nat, k + g = m ∧ s = .int .i64 k ∧ (∀ (i : Nat) (y : Fn), i < k → p.fs[i]? = some y → mayFn y = true) ∧ Below W1.heap.size W1 wr)
      case atStart => exact ⟨0, by omega, rfl, fun i y h => absurd h (by omega), hbr.out⟩
      case round =>
        obtain ⟨j, hjg, rfl, hall2, hbs⟩ := hrel
        have hall2 := Lib.hid hall2
        have hbs := Lib.hid hbs
        obtain ⟨p0, p1⟩ := box2 ((hbs.out.block _ (blk_lt hX.out)).trans hX.out)
        cases gk with
        | zero =>
          have e1 : ¬ ((j : Int) < (m : Int)) := by omega
          have hs := Lib.hid (show mayPg p = true by
            unfold mayPg
            rw [hallR.out, Bool.true_and, List.all_eq_true]
            intro y hy
            obtain ⟨i, hi⟩ := List.getElem?_of_mem hy
            exact hall2.out i y (by have := (List.getElem?_eq_some_iff.1 hi).1; have := hm'.out; omega) hi)
          go_wp2
          go_ret
          exact ⟨by rw [hs.out]; rfl, Below.next hb1.out hbs.out⟩
        | succ g3 =>
          as_aux_lemma =>
            have e1 : (j : Int) < (m : Int) := by omega
            have hbz := Lib.hid (up.out _ hbs.out)
            obtain ⟨blk, off, y, r, rfl, hy, hcy, hye⟩ := (hF.out).at_ (k := j) (by have := hm'.out; omega)
            have hm72 := refFn_any w0 y r hye wr hbz.out (by have h := cntF_mem hy; have := hcp.out; omega)
            obtain ⟨nm, ⟨pA, pn, pc⟩, ⟨vA, vn, vc⟩, ⟨rA, rn, rc⟩, ⟨bA, bn, bc⟩⟩ := r
            unfold vlF at hm72
            dsimp only at hm72
            have t0 : w0.cell? ⟨blk, off + j * 5, none⟩ = some (.string nm) := hcy 0 (by omega)
            have t0 := (hbz.out.cell (p := ⟨blk, off + j * 5, none⟩) (cell_some_lt t0)).trans t0
            have t1 : w0.cell? ⟨blk, off + j * 5 + 1, none⟩ = some (.slice pA pn pc) := hcy 1 (by omega)
            have t1 := (hbz.out.cell (p := ⟨blk, off + j * 5 + 1, none⟩) (cell_some_lt t1)).trans t1
            have t2 : w0.cell? ⟨blk, off + j * 5 + 2, none⟩ = some (.slice vA vn vc) := hcy 2 (by omega)
            have t2 := (hbz.out.cell (p := ⟨blk, off + j * 5 + 2, none⟩) (cell_some_lt t2)).trans t2
            have t3 : w0.cell? ⟨blk, off + j * 5 + 3, none⟩ = some (.slice rA rn rc) := hcy 3 (by omega)
            have t3 := (hbz.out.cell (p := ⟨blk, off + j * 5 + 3, none⟩) (cell_some_lt t3)).trans t3
            have t4 : w0.cell? ⟨blk, off + j * 5 + 4, none⟩ = some (.slice bA bn bc) := hcy 4 (by omega)
            have t4 := (hbz.out.cell (p := ⟨blk, off + j * 5 + 4, none⟩) (cell_some_lt t4)).trans t4
            obtain ⟨t, ht⟩ : ∃ t, mayFn y = t := ⟨_, rfl⟩
            rw [ht] at hm72
            have hm72 := Lib.hid hm72
            have hy' := Lib.hid hy
            have ht' := Lib.hid ht
            clear hy hcy ht hye
            go_wp2_with fail
            refine hm72.out.mono ?_
            rintro e w7 ⟨rfl, hb7⟩
            have hb7 := Lib.hid (Below.next hbs.out hb7)
            clear p0 p1 t0 t1 t2 t3 t4
            cases t
            · have hs := Lib.hid (show mayPg p = false from by
                unfold mayPg
                rw [show p.fs.all mayFn = false by
                  rw [List.all_eq_false]
                  exact ⟨y, List.mem_of_getElem? hy'.out, by rw [ht'.out]; simp⟩, Bool.and_false])
              go_wp2
              go_ret
              exact ⟨by rw [hs.out]; rfl, Below.next hb1.out hb7.out⟩
            · go_wp2
              go_roundg g3
              case measure => omega
              case rel =>
                refine ⟨j + 1, by omega, by go_num, fun i z hi hz => ?_, hb7.out⟩
                rcases Nat.lt_or_ge i j with h | h
                · exact hall2.out i z h hz
                · obtain rfl : i = j := by omega
                  rw [hy'.out] at hz
                  cases hz
                  exact ht'.out
end Go.Proofs.YtnahgfdoiflacaaGreatDoor
