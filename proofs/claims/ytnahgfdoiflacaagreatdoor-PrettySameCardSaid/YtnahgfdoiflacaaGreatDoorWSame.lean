/- The walk of PrettySame. -/
import Derived.Test.YtnahgfdoiflacaaGreatDoorY
import Derived.Test.YtnahgfdoiflacaaGreatDoorCI
import Derived.Test.YtnahgfdoiflacaaGreatDoorCK
import Derived.BigQuiet
import Derived.Deep.Cut
set_option linter.unusedSimpArgs false
set_option linter.unusedVariables false
namespace Go.Proofs.YtnahgfdoiflacaaGreatDoor
open Go.RowKit Go.Lib Go.Shelf

theorem same_refl {α : Type} (x : α) : same x x = true := same_true.2 rfl
set_option maxRecDepth 100000 in
set_option maxHeartbeats 16000000 in
theorem prettySame_any (p q : Pg) (A B A' B' : Option Addr) (c d c' d' : Nat) (W : World) (hE : Env W) (hr : CellsAt 4 cellsR W p.rs A) (hf : FnsAt W p.fs B) (hr' : CellsAt 4 cellsR W q.rs A') (hf' : FnsAt W q.fs B')
    (hl1 : p.rs.length ≤ 1000000000000000 ∧ p.fs.length ≤ 1000000000000000) (hl2 : q.rs.length ≤ 1000000000000000 ∧ q.fs.length ≤ 1000000000000000) :
    Calls Tryz.prog 9 #[pgV p A c B d, pgV q A' c' B' d'] W (BoolPost true W) := by
  have hlongA := fun (W' : World) (hb : Below W.heap.size W W') => longP_any W p A B c d hr hf 5000 W' hb (by omega) hl1.1 hl1.2
  have hlongB := fun (W' : World) (hb : Below W.heap.size W W') => longP_any W q A' B' c' d' hr' hf' 5000 W' hb (by omega) hl2.1 hl2.2
  have hS := fun (hp : cntP p ≤ 5000) (hq : cntP q ≤ 5000) (W' : World) (hb : Below W.heap.size W W') => same_any W p q A B A' B' c d c' d' hr hf hr' hf' W' hb (by omega) (by omega)
  have hRS := fun (hp : cntP p ≤ 5000) (hq : cntP q ≤ 5000) (W' : World) (hb : Below W.heap.size W W') => refSame_any W p q A B A' B' c d c' d' hr hf hr' hf' W' hb (by omega) (by omega)
  have hSS := fun (hp : cntP p ≤ 5000) (W' : World) (hb : Below W.heap.size W W') => same_any W p p A B A B c d c d hr hf hr hf W' hb (by omega) (by omega)
  have hk := Lib.hid (fun (W2 : World) (hb : Below W.heap.size W W2) => known_any W2 (hE.below hb))
  have hF := Lib.hid hf
  have hF' := Lib.hid hf'
  rw [same_refl] at hSS
  obtain ⟨t, ht⟩ : ∃ t, same p q = t := ⟨_, rfl⟩
  rw [ht] at hS hRS
  unfold pgV at hlongA hlongB hS hRS hSS ⊢
  obtain ⟨n1, hn1⟩ : ∃ n, p.rs.length = n := ⟨_, rfl⟩
  obtain ⟨n2, hn2⟩ : ∃ n, p.fs.length = n := ⟨_, rfl⟩
  obtain ⟨m1, hm1⟩ : ∃ n, q.rs.length = n := ⟨_, rfl⟩
  obtain ⟨m2, hm2⟩ : ∃ n, q.fs.length = n := ⟨_, rfl⟩
  rw [hn1, hn2] at hlongA hS hRS hSS ⊢
  rw [hm1, hm2] at hlongB hS hRS ⊢
  have hn2' := Lib.hid hn2
  have hm2' := Lib.hid hm2
  have hlongA := Lib.hid hlongA
  have hlongB := Lib.hid hlongB
  have hS := Lib.hid hS
  have hRS := Lib.hid hRS
  have hSS := Lib.hid hSS
  have hn2b : n2 ≤ 1000000000000000 := by rw [← hn2]; exact hl1.2
  clear hr hf hr' hf' hE hn1 hn2 hm1 hm2 ht hl1 hl2
  obtain ⟨W1, hW1⟩ : ∃ W1, W.alloc (.cells #[.slice A n1 c, .slice B n2 d] 39) = W1 := ⟨_, rfl⟩
  obtain ⟨W2, hW2⟩ : ∃ W2, W1.alloc (.cells #[.slice A' m1 c', .slice B' m2 d'] 39) = W2 := ⟨_, rfl⟩
  have hb1 : Below W.heap.size W W1 := by rw [← hW1]; exact (Below.refl _ W).alloc (Nat.le_refl _) _
  have hb2 : Below W.heap.size W W2 := by rw [← hW2]; exact hb1.alloc hb1.size _
  have hs1 : W1.heap.size = W.heap.size + 1 := by rw [← hW1]; simp
  have hx1 : W1.heap[W.heap.size]? = some (.cells #[.slice A n1 c, .slice B n2 d] 39 (0, 0)) := by rw [← hW1]; exact heap_alloc_new _ _
  have hY : W2.heap[W1.heap.size]? = some (.cells #[.slice A' m1 c', .slice B' m2 d'] 39 (0, 0)) := by rw [← hW2]; exact heap_alloc_new _ _
  have hX : W2.heap[W.heap.size]? = some (.cells #[.slice A n1 c, .slice B n2 d] 39 (0, 0)) := by rw [← hW2, heap_alloc_old _ _ (by omega)]; exact hx1
  obtain ⟨a0, a1⟩ := box2 hX
  obtain ⟨d0, d1⟩ := box2 hY
  have hX := Lib.hid hX
  have hY := Lib.hid hY
  have hb2 := Lib.hid hb2
  have up := Lib.hid fun (W' : World) (h : Below W2.heap.size W2 W') => (Below.next hb2.out h : Below W.heap.size W W')
  clear hb1 hs1 hx1
  go_enter Tryz.func9, Tryz.ntmps9
  go_wp2_with fail
  refine (hlongA.out _ hb2.out).mono ?_
  rintro e w3 ⟨b1, rfl, hq1, hb3⟩
  have hx1q := Lib.hid hq1
  clear hq1
  have hb3 := Lib.hid hb3
  clear a0 a1 d0 d1
  obtain ⟨a0, a1⟩ := box2 ((hb3.out.block _ (blk_lt hX.out)).trans hX.out)
  obtain ⟨d0, d1⟩ := box2 ((hb3.out.block _ (blk_lt hY.out)).trans hY.out)
  cases b1
  rotate_left
  · as_aux_lemma =>
      go_wp2_with fail
      refine (hk.out _ (up.out _ hb3.out)).mono ?_
      rintro e wk ⟨rfl, hbk⟩
      have hbk := Lib.hid (Below.next (up.out _ hb3.out) hbk)
      go_wp2
      go_ret
      exact ⟨rfl, hbk.out⟩
  have hq1 := Lib.hid (show cntP p ≤ 5000 by have h := hx1q.out; simpa using h)
  clear hx1q
  go_wp2_with fail
  refine (hlongB.out _ (up.out _ hb3.out)).mono ?_
  rintro e w4 ⟨b2, rfl, hq2, hb4⟩
  have hx2q := Lib.hid hq2
  clear hq2
  have hb4 := Lib.hid (Below.next hb3.out hb4)
  clear a0 a1 d0 d1
  obtain ⟨a0, a1⟩ := box2 ((hb4.out.block _ (blk_lt hX.out)).trans hX.out)
  obtain ⟨d0, d1⟩ := box2 ((hb4.out.block _ (blk_lt hY.out)).trans hY.out)
  cases b2
  rotate_left
  · as_aux_lemma =>
      go_wp2_with fail
      refine (hk.out _ (up.out _ hb4.out)).mono ?_
      rintro e wk ⟨rfl, hbk⟩
      have hbk := Lib.hid (Below.next (up.out _ hb4.out) hbk)
      go_wp2
      go_ret
      exact ⟨rfl, hbk.out⟩
  have hq2 := Lib.hid (show cntP q ≤ 5000 by have h := hx2q.out; simpa using h)
  clear hx2q
  go_upto_region 3 with fail
  have a0 := Sub.cell a0
  have a1 := Sub.cell a1
  have d0 := Sub.cell d0
  have d1 := Sub.cell d1
  have sS := Lib.hid (fun s : Sub w4 => hS.out hq1.out hq2.out s.val (up.out _ (Below.next hb4.out s.property)))
  have sR := Lib.hid (fun s : Sub w4 => hRS.out hq1.out hq2.out s.val (up.out _ (Below.next hb4.out s.property)))
  have sSS := Lib.hid (fun s : Sub w4 => hSS.out hq1.out s.val (up.out _ (Below.next hb4.out s.property)))
  have htt : (t != t) = false := by simp
  cases t
  all_goals
    refine wp_region_below (by kernel_rfl) (by kernel_rfl) ?_
    repeat (go_big_quiet_step (first | (go_at_call 34; with_reducible exact Sub.call (sS.out _)) | (go_at_call 34; with_reducible exact Sub.call (sSS.out _)) | (go_at_call 23; with_reducible exact Sub.call (sR.out _))))
    refine wpQuiet_nil ?_
    rintro w5 ⟨s5, hs5⟩
    have hb5 := hs5 ▸ s5.property
    have hb5 := Lib.hid (Below.next hb4.out hb5)
    clear hs5 a0 a1 d0 d1
    as_aux_lemma =>
      obtain ⟨N, hN⟩ : ∃ N, min n2 m2 = N := ⟨_, rfl⟩
      have c1 : cntFs p.fs ≤ 5000 := by have := hq1.out; unfold cntP at this; omega
      have c2 : cntFs q.fs ≤ 5000 := by have := hq2.out; unfold cntP at this; omega
      obtain ⟨a0, a1⟩ := box2 ((hb5.out.block _ (blk_lt hX.out)).trans hX.out)
      obtain ⟨d0, d1⟩ := box2 ((hb5.out.block _ (blk_lt hY.out)).trans hY.out)
      go_wp2_with fail
      clear a0 a1 d0 d1
      go_loopg [5] N (fun g s5 wr => ∃ k : Nat, k + g = N ∧ s5 = .int .i64 k ∧ Below W2.heap.size W2 wr)
      case atStart => exact ⟨0, by omega, rfl, hb5.out⟩
      case round =>
        obtain ⟨k, hkg, rfl, hbr⟩ := hrel
        have hbr := Lib.hid hbr
        obtain ⟨a0, a1⟩ := box2 ((hbr.out.block _ (blk_lt hX.out)).trans hX.out)
        obtain ⟨d0, d1⟩ := box2 ((hbr.out.block _ (blk_lt hY.out)).trans hY.out)
        cases gk with
        | zero =>
          by_cases e0 : (k : Int) < (n2 : Int)
          · have e1 : ¬ (k : Int) < (m2 : Int) := by omega
            go_wp2_with fail
            refine (hk.out _ (up.out _ hbr.out)).mono ?_
            rintro e wk ⟨rfl, hbk⟩
            have hbk := Lib.hid (Below.next (up.out _ hbr.out) hbk)
            go_wp2
            go_ret
            exact ⟨rfl, hbk.out⟩
          · skip
            go_wp2_with fail
            refine (hk.out _ (up.out _ hbr.out)).mono ?_
            rintro e wk ⟨rfl, hbk⟩
            have hbk := Lib.hid (Below.next (up.out _ hbr.out) hbk)
            go_wp2
            go_ret
            exact ⟨rfl, hbk.out⟩
        | succ g2 =>
          have e0 : (k : Int) < (n2 : Int) := by omega
          have e1 : (k : Int) < (m2 : Int) := by omega
          have hbw := Lib.hid (up.out _ hbr.out)
          obtain ⟨blk, off, x, r, rfl, hx, hcx, hxe⟩ := (hF.out).at_ (k := k) (by rw [hn2'.out]; omega)
          obtain ⟨blk', off', y, s, rfl, hy, hcy, hye⟩ := (hF'.out).at_ (k := k) (by rw [hm2'.out]; omega)
          have c3 := cntF_mem hx
          have c4 := cntF_mem hy
          have c5 : cntSs x.bd ≤ 5000 := by unfold cntF at c3; omega
          have c6 : cntSs y.bd ≤ 5000 := by unfold cntF at c4; omega
          obtain ⟨xb, hxb⟩ : ∃ xb, x.bd = xb := ⟨_, rfl⟩
          obtain ⟨yb, hyb⟩ : ∃ yb, y.bd = yb := ⟨_, rfl⟩
          have bxA := hxe.bdA
          have byA := hye.bdA
          have bxn := hxe.bd
          have byn := hye.bd
          rw [hxb] at bxA bxn c5
          rw [hyb] at byA byn c6
          obtain ⟨nm, ⟨pA, pn, pc⟩, ⟨vA, vn, vc⟩, ⟨rA, rn, rc⟩, ⟨bA, bn, bc⟩⟩ := r
          obtain ⟨nm', ⟨pA', pn', pc'⟩, ⟨vA', vn', vc'⟩, ⟨rA', rn', rc'⟩, ⟨bA', bn', bc'⟩⟩ := s
          dsimp only at bxA byA bxn byn
          have v4 : W.cell? ⟨blk, off + k * 5 + 4, none⟩ = some (.slice bA bn bc) := hcx 4 (by omega)
          have v4 := (hbw.out.cell (p := ⟨blk, off + k * 5 + 4, none⟩) (cell_some_lt v4)).trans v4
          have z4 : W.cell? ⟨blk', off' + k * 5 + 4, none⟩ = some (.slice bA' bn' bc') := hcy 4 (by omega)
          have z4 := (hbw.out.cell (p := ⟨blk', off' + k * 5 + 4, none⟩) (cell_some_lt z4)).trans z4
          have h35 := fun (W' : World) (hb : Below W.heap.size W W') => sameSts_any W xb bA bxA yb bA' bc bc' W' (by omega) (by omega) byA hb
          have h36 := fun (W' : World) (hb : Below W.heap.size W W') => refSameSts_any W xb bA bxA yb bA' bc bc' W' (by omega) (by omega) byA hb
          obtain ⟨t2, ht2⟩ : ∃ t2, same xb yb = t2 := ⟨_, rfl⟩
          rw [ht2, ← bxn, ← byn] at h35 h36
          have h35 := Lib.hid h35
          have h36 := Lib.hid h36
          have bxA := Lib.hid bxA
          have byA := Lib.hid byA
          have bxn' := Lib.hid bxn
          have byn' := Lib.hid byn
          have c5 := Lib.hid c5
          have c6 := Lib.hid c6
          clear c3 c4 hxe hye hxb hyb hx hy hcx hcy bxn byn ht2 c1 c2
          go_upto_region 8 with fail
          go_quiet (fail)
          clear v4 z4 a0 a1 d0 d1
          go_wp2_with fail
          refine (h35.out _ (below_drewN hbw.out _)).mono ?_
          rintro e w6 ⟨rfl, hb6⟩
          have hb6 := Lib.hid (Below.next (below_drewN hbr.out _) hb6)
          go_wp2_with fail
          refine (h36.out _ (up.out _ hb6.out)).mono ?_
          rintro e w7 ⟨rfl, hb7⟩
          have hb7 := Lib.hid (Below.next hb6.out hb7)
          have htt2 : (t2 != t2) = false := by simp
          obtain ⟨N2, hN2⟩ : ∃ N2, min bn bn' = N2 := ⟨_, rfl⟩
          have hbnb : bn ≤ 5000 := by have h1 := len_cntSs xb; have h2 := bxn'.out; have h3 := c5.out; omega
          cases t2
          all_goals
            as_aux_lemma =>
              go_wp2_with fail
              go_loopg [8] N2 (fun g s8 wx => ∃ j : Nat, j + g = N2 ∧ s8 = .int .i64 j ∧ Below W2.heap.size W2 wx)
              case atStart => exact ⟨0, by omega, rfl, hb7.out⟩
              case round =>
                obtain ⟨j, hjg, rfl, hb8⟩ := hrel
                have hb8 := Lib.hid hb8
                cases gk with
                | zero =>
                  by_cases e3 : (j : Int) < (bn : Int)
                  · have e4 : ¬ (j : Int) < (bn' : Int) := by omega
                    go_wp2_with fail
                    go_roundg g2
                    case measure => omega
                    case rel => exact ⟨k + 1, by omega, by go_num, hb8.out⟩
                  · go_wp2_with fail
                    go_roundg g2
                    case measure => omega
                    case rel => exact ⟨k + 1, by omega, by go_num, hb8.out⟩
                | succ g3 =>
                  have e3 : (j : Int) < (bn : Int) := by omega
                  have e4 : (j : Int) < (bn' : Int) := by omega
                  have hbz := Lib.hid (up.out _ hb8.out)
                  obtain ⟨sb, so, sx, sr, rfl, hsx, hscx, hsxe, _, _⟩ := (bxA.out).at_ (k := j) (by have := bxn'.out; omega)
                  obtain ⟨sb', so', sy, sr', rfl, hsy, hscy, hsye, _, _⟩ := (byA.out).at_ (k := j) (by have := byn'.out; omega)
                  have c7 : cntE sx.e ≤ 5000 := by have h1 := cntS_mem hsx; have h2 := cntS_bd sx; have h3 := c5.out; omega
                  have c8 : cntE sy.e ≤ 5000 := by have h1 := cntS_mem hsy; have h2 := cntS_bd sy; have h3 := c6.out; omega
                  obtain ⟨ex1, ex2, ex3, ex4, exA, exu⟩ := hsxe.e
                  obtain ⟨ey1, ey2, ey3, ey4, eyA, eyu⟩ := hsye.e
                  have h37 := fun (W' : World) (hb : Below W.heap.size W W') => sameE_any W sx.e sr.e.ar.a exA sy.e sr'.e.ar.a sr.e.ar.c sr'.e.ar.c W' (by omega) (by omega) eyA hb
                  have h38 := fun (W' : World) (hb : Below W.heap.size W W') => refSameE_any W sx.e sr.e.ar.a exA sy.e sr'.e.ar.a sr.e.ar.c sr'.e.ar.c W' (by omega) (by omega) eyA hb
                  unfold exV at h37 h38
                  rw [← ex1, ← ex2, ← ex3, ← ex4, ← ey1, ← ey2, ← ey3, ← ey4] at h37 h38
                  generalize same sx.e sy.e = t3 at h37 h38
                  have v3 : W.cell? ⟨sb, so + j * 16 + 3, none⟩ = some (.int .i64 sr.e.op) := hscx 3 (by omega)
                  have v4 : W.cell? ⟨sb, so + j * 16 + 4, none⟩ = some (.int .u64 sr.e.u) := hscx 4 (by omega)
                  have v5 : W.cell? ⟨sb, so + j * 16 + 5, none⟩ = some (.string sr.e.nm) := hscx 5 (by omega)
                  have v6 : W.cell? ⟨sb, so + j * 16 + 6, none⟩ = some (.slice sr.e.ar.a sr.e.ar.n sr.e.ar.c) := hscx 6 (by omega)
                  have z3 : W.cell? ⟨sb', so' + j * 16 + 3, none⟩ = some (.int .i64 sr'.e.op) := hscy 3 (by omega)
                  have z4 : W.cell? ⟨sb', so' + j * 16 + 4, none⟩ = some (.int .u64 sr'.e.u) := hscy 4 (by omega)
                  have z5 : W.cell? ⟨sb', so' + j * 16 + 5, none⟩ = some (.string sr'.e.nm) := hscy 5 (by omega)
                  have z6 : W.cell? ⟨sb', so' + j * 16 + 6, none⟩ = some (.slice sr'.e.ar.a sr'.e.ar.n sr'.e.ar.c) := hscy 6 (by omega)
                  generalize sr.e.op = o1 at *
                  generalize sr.e.u = o2 at *
                  generalize sr.e.nm = o3 at *
                  generalize sr.e.ar.a = o4 at *
                  generalize sr.e.ar.n = o5 at *
                  generalize sr.e.ar.c = o6 at *
                  generalize sr'.e.op = o1' at *
                  generalize sr'.e.u = o2' at *
                  generalize sr'.e.nm = o3' at *
                  generalize sr'.e.ar.a = o4' at *
                  generalize sr'.e.ar.n = o5' at *
                  generalize sr'.e.ar.c = o6' at *
                  clear hsx hsy hscx hscy hsxe hsye c7 c8 ex1 ex2 ex3 ex4 exA exu ey1 ey2 ey3 ey4 eyA eyu
                  have v3 := (hbz.out.cell (p := ⟨sb, so + j * 16 + 3, none⟩) (cell_some_lt v3)).trans v3
                  have v3 := Sub.cell v3
                  have v4 := (hbz.out.cell (p := ⟨sb, so + j * 16 + 4, none⟩) (cell_some_lt v4)).trans v4
                  have v4 := Sub.cell v4
                  have v5 := (hbz.out.cell (p := ⟨sb, so + j * 16 + 5, none⟩) (cell_some_lt v5)).trans v5
                  have v5 := Sub.cell v5
                  have v6 := (hbz.out.cell (p := ⟨sb, so + j * 16 + 6, none⟩) (cell_some_lt v6)).trans v6
                  have v6 := Sub.cell v6
                  have z3 := (hbz.out.cell (p := ⟨sb', so' + j * 16 + 3, none⟩) (cell_some_lt z3)).trans z3
                  have z3 := Sub.cell z3
                  have z4 := (hbz.out.cell (p := ⟨sb', so' + j * 16 + 4, none⟩) (cell_some_lt z4)).trans z4
                  have z4 := Sub.cell z4
                  have z5 := (hbz.out.cell (p := ⟨sb', so' + j * 16 + 5, none⟩) (cell_some_lt z5)).trans z5
                  have z5 := Sub.cell z5
                  have z6 := (hbz.out.cell (p := ⟨sb', so' + j * 16 + 6, none⟩) (cell_some_lt z6)).trans z6
                  have z6 := Sub.cell z6
                  have hbj : j ≤ 5000 := by omega
                  go_upto_region 14 with fail
                  have s37 := Lib.hid (fun s : Sub wr => h37 s.val (hbz.out.trans (s.property.mono hbz.out.size)))
                  have s38 := Lib.hid (fun s : Sub wr => h38 s.val (hbz.out.trans (s.property.mono hbz.out.size)))
                  have htt3 : (t3 != t3) = false := by simp
                  clear h37 h38
                  cases t3
                  all_goals
                    refine wp_region_below (by kernel_rfl) (by kernel_rfl) ?_
                    repeat (go_big_quiet_step (first | (go_at_call 37; with_reducible exact Sub.call (s37.out _)) | (go_at_call 38; with_reducible exact Sub.call (s38.out _))))
                    refine wpQuiet_nil ?_
                    rintro w9 ⟨s9, hs9⟩
                    have hb9 := hs9 ▸ s9.property
                    have hb9 := Lib.hid (Below.next hb8.out hb9)
                    clear hs9 v3 v4 v5 v6 z3 z4 z5 z6
                    go_wp2_with fail
                    go_roundg g3
                    case measure => omega
                    case rel => exact ⟨j + 1, by omega, by go_num, hb9.out⟩
end Go.Proofs.YtnahgfdoiflacaaGreatDoor
