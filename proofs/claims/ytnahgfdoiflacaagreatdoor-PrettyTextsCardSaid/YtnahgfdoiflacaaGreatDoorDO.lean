/- Which programs can be told: the reference's way. -/
import Derived.Test.YtnahgfdoiflacaaGreatDoorDM
import Derived.Test.YtnahgfdoiflacaaGreatDoorDN
set_option linter.unusedSimpArgs false
set_option linter.unusedVariables false
namespace Go.Proofs.YtnahgfdoiflacaaGreatDoor
open Go.RowKit Go.Lib Go.Shelf

set_option maxRecDepth 100000 in
set_option maxHeartbeats 8000000 in
theorem refPm_any (x : VarC) (W : World) (hx : x.nm.size ≤ 2000000) : Calls Tryz.prog 123 #[vlV x, .bool true] W (BoolPost (mayPm x) W) := by
  have h71 := Lib.hid (fun W' : World => refName_any x.nm W' hx)
  obtain ⟨nm, f1, f2, sc⟩ := x
  unfold vlV mayPm
  dsimp only at h71 ⊢
  obtain ⟨tn, htn⟩ : ∃ b, nameB nm = b := ⟨_, rfl⟩
  rw [htn] at h71 ⊢
  clear htn hx
  obtain ⟨W1, hW1⟩ : ∃ W1, W.alloc (.cells #[.string nm, .int .i64 f1, .int .i64 f2, .bool sc] 58) = W1 := ⟨_, rfl⟩
  have hb1 : Below W.heap.size W W1 := by rw [← hW1]; exact (Below.refl _ W).alloc (Nat.le_refl _) _
  have hX : W1.heap[W.heap.size]? = some (.cells #[.string nm, .int .i64 f1, .int .i64 f2, .bool sc] 58 (0, 0)) := by rw [← hW1]; exact heap_alloc_new _ _
  have hb1 := Lib.hid hb1
  have hX := Lib.hid hX
  have hW1' := Lib.hid hW1
  clear hW1
  obtain ⟨s0, hs0⟩ : ∃ b, decide (0 ≤ f2) = b := ⟨_, rfl⟩
  have hs1 : decide (f2 < 0) = !s0 := by
    rw [← hs0]
    by_cases h : 0 ≤ f2
    · rw [decide_eq_true h, decide_eq_false (by omega)]; rfl
    · rw [decide_eq_false h, decide_eq_true (by omega)]; rfl
  obtain ⟨z0, hz0⟩ : ∃ b, (f2 == 0) = b := ⟨_, rfl⟩
  have hsz : z0 = true → s0 = true := fun h => by
    rw [h] at hz0
    have : f2 = 0 := by simpa using hz0
    subst this
    exact hs0.symm
  obtain ⟨k1, h1⟩ : ∃ b, (f1 == 1) = b := ⟨_, rfl⟩
  obtain ⟨k2, h2⟩ : ∃ b, (f1 == 2) = b := ⟨_, rfl⟩
  obtain ⟨k3, h3⟩ : ∃ b, (f1 == 3) = b := ⟨_, rfl⟩
  have hx12 : k1 = true → k2 = false ∧ k3 = false := fun h => by
    rw [h] at h1
    have : f1 = 1 := by simpa using h1
    subst this
    exact ⟨h2.symm, h3.symm⟩
  rw [h1, hz0]
  obtain ⟨p0, p1, p2, p3, _⟩ := box4 hX.out
  clear hx12
  cases s0
  · have hz1 : z0 = false := by
      cases z0
      · rfl
      · exact absurd (hsz rfl) (by simp)
    subst hz1
    clear hsz
    rw [Bool.and_false, Bool.and_false]
    go_enter Tryz.func123, Tryz.ntmps123
    go_wp2_with fail
    rw [hW1'.out]
    go_wp2_with fail
    refine (h71.out _).mono ?_
    rintro e w2 ⟨rfl, hb2⟩
    have hX2 := (hb2.block _ (blk_lt hX.out)).trans hX.out
    have hb2 := Lib.hid (Below.next hb1.out hb2)
    clear p0 p1 p2 p3
    obtain ⟨p0, p1, p2, p3, _⟩ := box4 hX2
    clear hX2
    cases tn
    all_goals
      go_wp2
      go_ret
      exact ⟨rfl, hb2.out⟩
  · clear hsz
    cases k1
    all_goals
      cases z0
      all_goals
        go_enter Tryz.func123, Tryz.ntmps123
        go_wp2_with fail
        rw [hW1'.out]
        go_wp2_with fail
        refine (h71.out _).mono ?_
        rintro e w2 ⟨rfl, hb2⟩
        have hX2 := (hb2.block _ (blk_lt hX.out)).trans hX.out
        have hb2 := Lib.hid (Below.next hb1.out hb2)
        clear p0 p1 p2 p3
        obtain ⟨p0, p1, p2, p3, _⟩ := box4 hX2
        clear hX2
        cases tn
        all_goals
          go_wp2
          go_ret
          exact ⟨rfl, hb2.out⟩

set_option maxRecDepth 100000 in
set_option maxHeartbeats 8000000 in
theorem refVr_any (x : VarC) (W : World) (hx : x.nm.size ≤ 2000000) : Calls Tryz.prog 123 #[vlV x, .bool false] W (BoolPost (mayVr x) W) := by
  have h71 := Lib.hid (fun W' : World => refName_any x.nm W' hx)
  obtain ⟨nm, f1, f2, sc⟩ := x
  unfold vlV mayVr
  dsimp only at h71 ⊢
  obtain ⟨tn, htn⟩ : ∃ b, nameB nm = b := ⟨_, rfl⟩
  rw [htn] at h71 ⊢
  clear htn hx
  obtain ⟨W1, hW1⟩ : ∃ W1, W.alloc (.cells #[.string nm, .int .i64 f1, .int .i64 f2, .bool sc] 58) = W1 := ⟨_, rfl⟩
  have hb1 : Below W.heap.size W W1 := by rw [← hW1]; exact (Below.refl _ W).alloc (Nat.le_refl _) _
  have hX : W1.heap[W.heap.size]? = some (.cells #[.string nm, .int .i64 f1, .int .i64 f2, .bool sc] 58 (0, 0)) := by rw [← hW1]; exact heap_alloc_new _ _
  have hb1 := Lib.hid hb1
  have hX := Lib.hid hX
  have hW1' := Lib.hid hW1
  clear hW1
  obtain ⟨s0, hs0⟩ : ∃ b, decide (0 ≤ f2) = b := ⟨_, rfl⟩
  have hs1 : decide (f2 < 0) = !s0 := by
    rw [← hs0]
    by_cases h : 0 ≤ f2
    · rw [decide_eq_true h, decide_eq_false (by omega)]; rfl
    · rw [decide_eq_false h, decide_eq_true (by omega)]; rfl
  obtain ⟨z0, hz0⟩ : ∃ b, (f2 == 0) = b := ⟨_, rfl⟩
  have hsz : z0 = true → s0 = true := fun h => by
    rw [h] at hz0
    have : f2 = 0 := by simpa using hz0
    subst this
    exact hs0.symm
  obtain ⟨k1, h1⟩ : ∃ b, (f1 == 1) = b := ⟨_, rfl⟩
  obtain ⟨k2, h2⟩ : ∃ b, (f1 == 2) = b := ⟨_, rfl⟩
  obtain ⟨k3, h3⟩ : ∃ b, (f1 == 3) = b := ⟨_, rfl⟩
  have hx12 : k1 = true → k2 = false ∧ k3 = false := fun h => by
    rw [h] at h1
    have : f1 = 1 := by simpa using h1
    subst this
    exact ⟨h2.symm, h3.symm⟩
  rw [hs0, hz0, h1, h2, h3]
  obtain ⟨p0, p1, p2, p3, _⟩ := box4 hX.out
  cases s0
  · have hz1 : z0 = false := by
      cases z0
      · rfl
      · exact absurd (hsz rfl) (by simp)
    subst hz1
    clear hsz hx12
    rw [show ((k2 || k3) && false || k1 && (false && !sc)) = false by simp, Bool.and_false]
    go_enter Tryz.func123, Tryz.ntmps123
    go_wp2_with fail
    rw [hW1'.out]
    go_wp2_with fail
    refine (h71.out _).mono ?_
    rintro e w2 ⟨rfl, hb2⟩
    have hX2 := (hb2.block _ (blk_lt hX.out)).trans hX.out
    have hb2 := Lib.hid (Below.next hb1.out hb2)
    clear p0 p1 p2 p3
    obtain ⟨p0, p1, p2, p3, _⟩ := box4 hX2
    clear hX2
    cases tn
    all_goals
      go_wp2
      go_ret
      exact ⟨rfl, hb2.out⟩
  · clear hsz
    cases k1
    · cases k2
      · cases k3
        all_goals
          go_enter Tryz.func123, Tryz.ntmps123
          go_wp2_with fail
          rw [hW1'.out]
          go_wp2_with fail
          refine (h71.out _).mono ?_
          rintro e w2 ⟨rfl, hb2⟩
          have hX2 := (hb2.block _ (blk_lt hX.out)).trans hX.out
          have hb2 := Lib.hid (Below.next hb1.out hb2)
          clear p0 p1 p2 p3
          obtain ⟨p0, p1, p2, p3, _⟩ := box4 hX2
          clear hX2
          cases tn
          all_goals
            go_wp2
            go_ret
            exact ⟨rfl, hb2.out⟩
      · clear hx12
        go_enter Tryz.func123, Tryz.ntmps123
        go_wp2_with fail
        rw [hW1'.out]
        go_wp2_with fail
        refine (h71.out _).mono ?_
        rintro e w2 ⟨rfl, hb2⟩
        have hX2 := (hb2.block _ (blk_lt hX.out)).trans hX.out
        have hb2 := Lib.hid (Below.next hb1.out hb2)
        clear p0 p1 p2 p3
        obtain ⟨p0, p1, p2, p3, _⟩ := box4 hX2
        clear hX2
        cases tn
        all_goals
          go_wp2
          go_ret
          exact ⟨rfl, hb2.out⟩
    · obtain ⟨rfl, rfl⟩ := hx12 rfl
      cases z0
      all_goals
        cases sc
        all_goals
          go_enter Tryz.func123, Tryz.ntmps123
          go_wp2_with fail
          rw [hW1'.out]
          go_wp2_with fail
          refine (h71.out _).mono ?_
          rintro e w2 ⟨rfl, hb2⟩
          have hX2 := (hb2.block _ (blk_lt hX.out)).trans hX.out
          have hb2 := Lib.hid (Below.next hb1.out hb2)
          clear p0 p1 p2 p3
          obtain ⟨p0, p1, p2, p3, _⟩ := box4 hX2
          clear hX2
          cases tn
          all_goals
            go_wp2
            go_ret
            exact ⟨rfl, hb2.out⟩

set_option maxRecDepth 100000 in
set_option maxHeartbeats 16000000 in
theorem refFn_any (w0 : World) (x : Fn) (r : FnC) (hx : FNow w0 x r) (W : World) (hW : Below w0.heap.size w0 W) (hcx : cntF x ≤ 30000) : Calls Tryz.prog 72 #[vlF r] W (BoolPost (mayFn x) W) := by
  have l1 := len_cntV x.ps
  have l3 := len_cntV x.vs
  have l5 := len_cntN x.rs
  unfold cntF at hcx
  obtain ⟨nm, ⟨pA, pn, pc⟩, ⟨vA, vn, vc⟩, ⟨rA, rn, rc⟩, ⟨bA, bn, bc⟩⟩ := r
  obtain ⟨kx, px, pxA, vx, vxA, rx, rxA, bx, bxA, _, _⟩ := hx
  dsimp only at kx px pxA vx vxA rx rxA bx bxA
  have h71 : ∀ (W' : World), Below w0.heap.size w0 W' → Calls Tryz.prog 71 #[.string nm] W' (BoolPost (nameB x.nm) W') := fun W' hW' => by
    rw [kx]
    exact refName_any x.nm W' (by omega)
  have h124 : ∀ (W' : World), Below w0.heap.size w0 W' → Calls Tryz.prog 124 #[.slice rA rn rc] W' (BoolPost (x.rs.all nameB) W') := fun W' hW' => by
    rw [rx]
    exact names_any w0 x.rs rA rxA rc W' hW' (by omega) (fun s hs => by
      obtain ⟨i, hi⟩ := List.getElem?_of_mem hs
      have := cntN_mem hi
      omega)
  have h125 : ∀ (W' : World), Below w0.heap.size w0 W' → Calls Tryz.prog 125 #[.slice bA bn bc] W' (BoolPost (mayT x.bd) W') := fun W' hW' => by
    rw [bx]
    exact refMayStmts_any w0 x.bd bA bxA bc W' (by omega) hW'
  have hpb : pn ≤ 30000 := by omega
  have hvb : vn ≤ 30000 := by omega
  have hcx := Lib.hid (show cntV x.ps ≤ 30000 ∧ cntV x.vs ≤ 30000 from ⟨by omega, by omega⟩)
  have hP := Lib.hid pxA
  have hV := Lib.hid vxA
  have px' := Lib.hid px
  have vx' := Lib.hid vx
  clear l1 l3 l5 kx px pxA vx vxA rx rxA bx bxA
  unfold vlF
  dsimp only
  obtain ⟨W1, hW1⟩ : ∃ W1, W.alloc (.cells #[.string nm, .slice pA pn pc, .slice vA vn vc, .slice rA rn rc, .slice bA bn bc] 54) = W1 := ⟨_, rfl⟩
  have hb1 : Below W.heap.size W W1 := by rw [← hW1]; exact (Below.refl _ W).alloc (Nat.le_refl _) _
  have hX : W1.heap[W.heap.size]? = some (.cells #[.string nm, .slice pA pn pc, .slice vA vn vc, .slice rA rn rc, .slice bA bn bc] 54 (0, 0)) := by rw [← hW1]; exact heap_alloc_new _ _
  have up := Lib.hid fun (W' : World) (h : Below W1.heap.size W1 W') => (hW.trans ((Below.next hb1 h).mono hW.size) : Below w0.heap.size w0 W')
  have h71 := Lib.hid fun W' (h : Below W1.heap.size W1 W') => h71 W' (up.out W' h)
  have h124 := Lib.hid fun W' (h : Below W1.heap.size W1 W') => h124 W' (up.out W' h)
  have h125 := Lib.hid fun W' (h : Below W1.heap.size W1 W') => h125 W' (up.out W' h)
  obtain ⟨f0, f1, f2, f3, f4⟩ := box5 hX
  have hbw0 := Lib.hid (Below.refl W1.heap.size W1)
  have hX := Lib.hid hX
  have hb1 := Lib.hid hb1
  have hW1' := Lib.hid hW1
  clear hW hW1
  go_enter Tryz.func72, Tryz.ntmps72
  go_wp2_with fail
  rw [hW1'.out]
  go_wp2_with fail
  clear f0 f1 f2 f3 f4
  go_loopg [3] pn (fun g s wr => ∃ k : Nat, k + g = pn ∧ s = .int .i64 k ∧ (∀ (i : Nat) (y : VarC), i < k → x.ps[i]? = some y → mayPm y = true) ∧ Below W1.heap.size W1 wr)
  case atStart => exact ⟨0, by omega, rfl, fun i y h => absurd h (by omega), hbw0.out⟩
  case round =>
    obtain ⟨k, hkg, rfl, hall, hbk1⟩ := hrel
    have hall := Lib.hid hall
    have hbk1 := Lib.hid hbk1
    obtain ⟨f0, f1, f2, f3, f4⟩ := box5 ((hbk1.out.block _ (blk_lt hX.out)).trans hX.out)
    cases gk with
    | succ g2 =>
      as_aux_lemma =>
        have e0 : (k : Int) < (pn : Int) := by omega
        obtain ⟨nb, no, y, rfl, hy, hcy⟩ := (hP.out).at_ (i := k) (by have := px'.out; omega)
        have hbz := Lib.hid (up.out _ hbk1.out)
        have t0 : w0.cell? ⟨nb, no + k * 4, none⟩ = some (.string y.nm) := hcy 0 (by omega)
        have t1 : w0.cell? ⟨nb, no + k * 4 + 1, none⟩ = some (.int .i64 y.kd) := hcy 1 (by omega)
        have t2 : w0.cell? ⟨nb, no + k * 4 + 2, none⟩ = some (.int .i64 y.sz) := hcy 2 (by omega)
        have t3 : w0.cell? ⟨nb, no + k * 4 + 3, none⟩ = some (.bool y.sc) := hcy 3 (by omega)
        have t0 := (hbz.out.cell (p := ⟨nb, no + k * 4, none⟩) (cell_some_lt t0)).trans t0
        have t1 := (hbz.out.cell (p := ⟨nb, no + k * 4 + 1, none⟩) (cell_some_lt t1)).trans t1
        have t2 := (hbz.out.cell (p := ⟨nb, no + k * 4 + 2, none⟩) (cell_some_lt t2)).trans t2
        have t3 := (hbz.out.cell (p := ⟨nb, no + k * 4 + 3, none⟩) (cell_some_lt t3)).trans t3
        have hm := fun W' : World => refPm_any y W' (by have h := cntV_mem hy; have := hcx.out; omega)
        unfold vlV at hm
        obtain ⟨t, ht⟩ : ∃ t, mayPm y = t := ⟨_, rfl⟩
        rw [ht] at hm
        have hm := Lib.hid hm
        have hy' := Lib.hid hy
        have ht' := Lib.hid ht
        clear hy hcy ht
        go_wp2_with fail
        refine (hm.out _).mono ?_
        rintro e w7 ⟨rfl, hb7⟩
        have hb7 := Lib.hid (Below.next hbk1.out hb7)
        clear f0 f1 f2 f3 f4
        clear t0 t1 t2 t3
        cases t
        · have hs := Lib.hid (show mayFn x = false from by
            have : x.ps.all mayPm = false := by
              rw [List.all_eq_false]
              exact ⟨y, List.mem_of_getElem? hy'.out, by rw [ht'.out]; simp⟩
            unfold mayFn
            rw [this]
            simp)
          go_wp2
          go_ret
          exact ⟨by rw [hs.out]; rfl, Below.next hb1.out hb7.out⟩
        · go_wp2
          go_roundg g2
          case measure => omega
          case rel =>
            refine ⟨k + 1, by omega, by go_num, fun i z hi hz => ?_, hb7.out⟩
            rcases Nat.lt_or_ge i k with h | h
            · exact hall.out i z h hz
            · obtain rfl : i = k := by omega
              rw [hy'.out] at hz
              cases hz
              exact ht'.out
    | zero =>
      have e0 : ¬ ((k : Int) < (pn : Int)) := by omega
      have hall_k := Lib.hid (show x.ps.all mayPm = true by
        rw [List.all_eq_true]
        intro y hy
        obtain ⟨i, hi⟩ := List.getElem?_of_mem hy
        exact hall.out i y (by have := (List.getElem?_eq_some_iff.1 hi).1; have := px'.out; omega) hi)
      go_wp2_with fail
      clear f0 f1 f2 f3 f4
      go_loopg [4] vn (fun g s wr => ∃ k : Nat, k + g = vn ∧ s = .int .i64 k ∧ (∀ (i : Nat) (y : VarC), i < k → x.vs[i]? = some y → mayVr y = true) ∧ Below W1.heap.size W1 wr)
      case atStart => exact ⟨0, by omega, rfl, fun i y h => absurd h (by omega), hbk1.out⟩
      case round =>
        obtain ⟨j, hkg, rfl, hall, hbk2⟩ := hrel
        have hall := Lib.hid hall
        have hbk2 := Lib.hid hbk2
        obtain ⟨f0, f1, f2, f3, f4⟩ := box5 ((hbk2.out.block _ (blk_lt hX.out)).trans hX.out)
        cases gk with
        | succ g2 =>
          as_aux_lemma =>
            have e0 : (j : Int) < (vn : Int) := by omega
            obtain ⟨nb, no, y, rfl, hy, hcy⟩ := (hV.out).at_ (i := j) (by have := vx'.out; omega)
            have hbz := Lib.hid (up.out _ hbk2.out)
            have t0 : w0.cell? ⟨nb, no + j * 4, none⟩ = some (.string y.nm) := hcy 0 (by omega)
            have t1 : w0.cell? ⟨nb, no + j * 4 + 1, none⟩ = some (.int .i64 y.kd) := hcy 1 (by omega)
            have t2 : w0.cell? ⟨nb, no + j * 4 + 2, none⟩ = some (.int .i64 y.sz) := hcy 2 (by omega)
            have t3 : w0.cell? ⟨nb, no + j * 4 + 3, none⟩ = some (.bool y.sc) := hcy 3 (by omega)
            have t0 := (hbz.out.cell (p := ⟨nb, no + j * 4, none⟩) (cell_some_lt t0)).trans t0
            have t1 := (hbz.out.cell (p := ⟨nb, no + j * 4 + 1, none⟩) (cell_some_lt t1)).trans t1
            have t2 := (hbz.out.cell (p := ⟨nb, no + j * 4 + 2, none⟩) (cell_some_lt t2)).trans t2
            have t3 := (hbz.out.cell (p := ⟨nb, no + j * 4 + 3, none⟩) (cell_some_lt t3)).trans t3
            have hm := fun W' : World => refVr_any y W' (by have h := cntV_mem hy; have := hcx.out; omega)
            unfold vlV at hm
            obtain ⟨t, ht⟩ : ∃ t, mayVr y = t := ⟨_, rfl⟩
            rw [ht] at hm
            have hm := Lib.hid hm
            have hy' := Lib.hid hy
            have ht' := Lib.hid ht
            clear hy hcy ht
            go_wp2_with fail
            refine (hm.out _).mono ?_
            rintro e w7 ⟨rfl, hb7⟩
            have hb7 := Lib.hid (Below.next hbk2.out hb7)
            clear f0 f1 f2 f3 f4
            clear t0 t1 t2 t3
            cases t
            · have hs := Lib.hid (show mayFn x = false from by
                have : x.vs.all mayVr = false := by
                  rw [List.all_eq_false]
                  exact ⟨y, List.mem_of_getElem? hy'.out, by rw [ht'.out]; simp⟩
                unfold mayFn
                rw [this]
                simp)
              go_wp2
              go_ret
              exact ⟨by rw [hs.out]; rfl, Below.next hb1.out hb7.out⟩
            · go_wp2
              go_roundg g2
              case measure => omega
              case rel =>
                refine ⟨j + 1, by omega, by go_num, fun i z hi hz => ?_, hb7.out⟩
                rcases Nat.lt_or_ge i j with h | h
                · exact hall.out i z h hz
                · obtain rfl : i = j := by omega
                  rw [hy'.out] at hz
                  cases hz
                  exact ht'.out
        | zero =>
          have e0 : ¬ ((j : Int) < (vn : Int)) := by omega
          have hall_j := Lib.hid (show x.vs.all mayVr = true by
            rw [List.all_eq_true]
            intro y hy
            obtain ⟨i, hi⟩ := List.getElem?_of_mem hy
            exact hall.out i y (by have := (List.getElem?_eq_some_iff.1 hi).1; have := vx'.out; omega) hi)
          have hm3 := Lib.hid (show mayFn x = (nameB x.nm && (x.rs.all nameB && mayT x.bd)) by
            unfold mayFn
            rw [hall_k.out, hall_j.out, Bool.true_and, Bool.true_and])
          have hbw := hbk2
          have hm3 := hm3.out
          generalize nameB x.nm = t1 at h71 hm3
          generalize x.rs.all nameB = t4 at h124 hm3
          generalize mayT x.bd = t5 at h125 hm3
          have hm3 := Lib.hid hm3
          go_wp2_with fail
          refine (h71.out _ hbw.out).mono ?_
          rintro e w8 ⟨rfl, hbn⟩
          have hbw := Lib.hid (Below.next hbw.out hbn)
          clear hbn f0 f1 f2 f3 f4
          obtain ⟨f0, f1, f2, f3, f4⟩ := box5 ((hbw.out.block _ (blk_lt hX.out)).trans hX.out)
          cases t1
          · go_wp2
            go_ret
            exact ⟨by rw [hm3.out]; rfl, Below.next hb1.out hbw.out⟩
          · skip
            go_wp2_with fail
            refine (h124.out _ hbw.out).mono ?_
            rintro e w9 ⟨rfl, hbn⟩
            have hbw := Lib.hid (Below.next hbw.out hbn)
            clear hbn f0 f1 f2 f3 f4
            obtain ⟨f0, f1, f2, f3, f4⟩ := box5 ((hbw.out.block _ (blk_lt hX.out)).trans hX.out)
            cases t4
            · go_wp2
              go_ret
              exact ⟨by rw [hm3.out]; rfl, Below.next hb1.out hbw.out⟩
            · skip
              go_wp2_with fail
              refine (h125.out _ hbw.out).mono ?_
              rintro e w10 ⟨rfl, hbn⟩
              have hbw := Lib.hid (Below.next hbw.out hbn)
              clear hbn f0 f1 f2 f3 f4
              cases t5
              · go_wp2
                go_ret
                exact ⟨by rw [hm3.out]; rfl, Below.next hb1.out hbw.out⟩
              · go_wp2
                go_ret
                exact ⟨by rw [hm3.out]; rfl, Below.next hb1.out hbw.out⟩
end Go.Proofs.YtnahgfdoiflacaaGreatDoor
