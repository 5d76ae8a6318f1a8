/- Statements: whether they are the same: the reference's way. -/
import Derived.Test.YtnahgfdoiflacaaGreatDoorCH
import Derived.Deep.Cut
import Derived.Deep.DeepCutAuto
import Derived.Deep.MidRow
import Derived.OrdersHeld
import Derived.Laws.CopyOwn
set_option linter.unusedSimpArgs false
set_option linter.unusedVariables false
namespace Go.Proofs.YtnahgfdoiflacaaGreatDoor
open Go.RowKit Go.Lib Go.Shelf

theorem cellsT_one (r : StC) : (cellsT r).toArray.all (fun v => v.oneCell') = true := by simp [cellsT, Value.oneCell']
def zero50 : Array Value := #[.int .i64 0, .string ⟨#[]⟩, .slice none 0 0, .int .i64 0, .int .u64 0, .string ⟨#[]⟩, .slice none 0 0, .int .i64 0, .int .u64 0, .string ⟨#[]⟩, .slice none 0 0, .slice none 0 0, .int .u64 0, .int .u64 0, .slice none 0 0, .slice none 0 0]
theorem alloc50 {ev : Operand → Value} {o : Oper} (ho : o.op = .alloc 50) {w w' : World} (hw : w.alloc (.cells zero50 50) = w') : (execOp ev o).run Tryz.prog w = .ok (.value (.pointer (some ⟨w.heap.size, 0, none⟩))) w' := by
  subst hw
  unfold execOp
  rw [ho]
  go_simp
  rfl
theorem wpOp_ran {P : Program} {ops : Array Oper} {Q : Exit → Act → World → Prop} {i : Nat} {K : Act → World → Prop} {a : Act} {w w' : World} {o : Oper} {v : Value} (hi : ops[i]? = some o) (hw : Region.wanted o (yielded ops a.tmps) = true)
    (hr : (execOp a.eval o).run P w = .ok (.value v) w') (h : K (a.put o.dst v) w') : wpOp P ops Q i K a w := by
  unfold wpOp
  simp only [hi, hw, if_true]
  exact .inl (by unfold Oper.wp; rw [hr]; exact h)
theorem wpOp_wp {P : Program} {ops : Array Oper} {Q : Exit → Act → World → Prop} {i : Nat} {K : Act → World → Prop} {a : Act} {w : World} {o : Oper} (hi : ops[i]? = some o) (hw : Region.wanted o (yielded ops a.tmps) = true)
    (h : o.wp P a w K Q) : wpOp P ops Q i K a w := by
  unfold wpOp
  simp only [hi, hw, if_true]
  exact .inl h
theorem two_first (w : World) (c c' : Array Value) {t : TypeId} : (((w.alloc (.cells c t)).alloc (.cells c' t)).drew).heap[w.heap.size]? = some (.cells c t (0, 0)) := by
  show ((w.alloc (.cells c t)).alloc (.cells c' t)).heap[w.heap.size]? = _
  rw [heap_alloc_old _ _ (by simp)]
  exact heap_alloc_new _ _
theorem two_second (w : World) (c c' : Array Value) {t : TypeId} : (((w.alloc (.cells c t)).alloc (.cells c' t)).drew).heap[w.heap.size + 1]? = some (.cells c' t (0, 0)) := by
  show ((w.alloc (.cells c t)).alloc (.cells c' t)).heap[w.heap.size + 1]? = _
  have h := heap_alloc_new (w.alloc (.cells c t)) (.cells c' t)
  have e : (w.alloc (.cells c t)).heap.size = w.heap.size + 1 := by simp
  rwa [e] at h
theorem Below.box2 {w W : World} (h : Below w.heap.size w W) (o : Obj) : Below w.heap.size w (W.alloc o) := h.alloc h.size o
theorem below_drew1 {B : Nat} {a w : World} (h : Below B a w) : Below B a w.drew := ⟨h.os, h.tape, h.output, h.size, h.block⟩
/-- what the tests of two statements come to -/
structure RefT (w0 : World) (x y : St) (r s : StC) : Prop where
  sam : same x y = ((r.kd == s.kd) && ((r.nm.toList == s.nm.toList) && (((r.lo : Int) == (s.lo : Int)) && (((r.hi : Int) == (s.hi : Int)) && (same x.ns y.ns && (same x.e y.e && (same x.a y.a && (same x.ars y.ars && (same x.bd y.bd && same x.el y.el)))))))))
  t78 : ∀ (W' : World), Below w0.heap.size w0 W' → Calls Tryz.prog 78 #[.slice r.ns.a r.ns.n r.ns.c, .slice s.ns.a s.ns.n s.ns.c] W' (BoolPost (same x.ns y.ns) W')
  t38e : ∀ (W' : World), Below w0.heap.size w0 W' → Calls Tryz.prog 38 #[.agg #[.int .i64 r.e.op, .int .u64 r.e.u, .string r.e.nm, .slice r.e.ar.a r.e.ar.n r.e.ar.c], .agg #[.int .i64 s.e.op, .int .u64 s.e.u, .string s.e.nm, .slice s.e.ar.a s.e.ar.n s.e.ar.c]] W' (BoolPost (same x.e y.e) W')
  t38a : ∀ (W' : World), Below w0.heap.size w0 W' → Calls Tryz.prog 38 #[.agg #[.int .i64 r.a.op, .int .u64 r.a.u, .string r.a.nm, .slice r.a.ar.a r.a.ar.n r.a.ar.c], .agg #[.int .i64 s.a.op, .int .u64 s.a.u, .string s.a.nm, .slice s.a.ar.a s.a.ar.n s.a.ar.c]] W' (BoolPost (same x.a y.a) W')
  t92 : ∀ (W' : World), Below w0.heap.size w0 W' → Calls Tryz.prog 92 #[.slice r.ar.a r.ar.n r.ar.c, .slice s.ar.a s.ar.n s.ar.c] W' (BoolPost (same x.ars y.ars) W')
  tbd : ∀ (W' : World), Below w0.heap.size w0 W' → Calls Tryz.prog 36 #[.slice r.bd.a r.bd.n r.bd.c, .slice s.bd.a s.bd.n s.bd.c] W' (BoolPost (same x.bd y.bd) W')
  tel : ∀ (W' : World), Below w0.heap.size w0 W' → Calls Tryz.prog 36 #[.slice r.el.a r.el.n r.el.c, .slice s.el.a s.el.n s.el.c] W' (BoolPost (same x.el y.el) W')
theorem refTests (w0 : World) (x y : St) (r s : StC) (hx : SNow w0 x r) (hy : SNow w0 y s) (hcx : cntS x ≤ 1000000) (hcy : cntS y ≤ 1000000)
    (hbd : ∀ (W' : World), Below w0.heap.size w0 W' → Calls Tryz.prog 36 #[.slice r.bd.a x.bd.length r.bd.c, .slice s.bd.a y.bd.length s.bd.c] W' (BoolPost (same x.bd y.bd) W'))
    (hel : ∀ (W' : World), Below w0.heap.size w0 W' → Calls Tryz.prog 36 #[.slice r.el.a x.el.length r.el.c, .slice s.el.a y.el.length s.el.c] W' (BoolPost (same x.el y.el) W')) : RefT w0 x y r s := by
  have hcx0 := cntS_bd x
  have hcy0 := cntS_bd y
  have l1 := len_cntN x.ns
  have l2 := len_cntN y.ns
  have l3 := len_cnt x.ars
  have l4 := len_cnt y.ars
  refine ⟨?_, fun W' hW' => ?_, fun W' hW' => ?_, fun W' hW' => ?_, fun W' hW' => ?_, fun W' hW' => ?_, fun W' hW' => ?_⟩
  · rw [same_st, hx.kd, hy.kd, hx.nm, hy.nm, hx.lo, hy.lo, hx.hi, hy.hi, int_beq', bytes_beq', nat_beq', nat_beq']
  · rw [hx.ns, hy.ns]
    exact sameNames_any w0 x.ns y.ns _ _ hx.nsA hy.nsA _ _ W' hW' (by omega) (by omega)
  · obtain ⟨ex1, ex2, ex3, ex4, exA, exu⟩ := hx.e
    obtain ⟨ey1, ey2, ey3, ey4, eyA, eyu⟩ := hy.e
    rw [ex1, ex2, ex3, ex4, ey1, ey2, ey3, ey4]
    exact refSameE_any w0 x.e _ exA y.e _ _ _ W' (by omega) (by omega) eyA hW'
  · obtain ⟨ex1, ex2, ex3, ex4, exA, exu⟩ := hx.a
    obtain ⟨ey1, ey2, ey3, ey4, eyA, eyu⟩ := hy.a
    rw [ex1, ex2, ex3, ex4, ey1, ey2, ey3, ey4]
    exact refSameE_any w0 x.a _ exA y.a _ _ _ W' (by omega) (by omega) eyA hW'
  · rw [hx.ar, hy.ar]
    exact sameEs_any w0 x.ars y.ars _ _ hx.arA hy.arA _ _ W' hW' (by omega) (by omega)
      (fun i p q P Q cp cq hp hq hpe hqe W2 hW2 => refSameE_any w0 p P hpe q Q cp cq W2 (by have := cnt_mem hp; omega) (by have := cnt_mem hq; omega) hqe hW2)
  · rw [hx.bd, hy.bd]
    exact hbd W' hW'
  · rw [hx.el, hy.el]
    exact hel W' hW'

set_option maxRecDepth 100000 in
set_option maxHeartbeats 16000000 in
theorem refSameSts_any (w0 : World) (L : List St) (A : Option Addr) (h : StsAt w0 L A) : ∀ (M : List St) (B : Option Addr) (c d : Nat) (W : World), cntSs L ≤ 1000000 → cntSs M ≤ 1000000 → StsAt w0 M B → Below w0.heap.size w0 W →
    Calls Tryz.prog 36 #[.slice A L.length c, .slice B M.length d] W (BoolPost (same L M) W) := by
  refine StsAt.all (M := fun L A => ∀ (M : List St) (B : Option Addr) (c d : Nat) (W : World), cntSs L ≤ 1000000 → cntSs M ≤ 1000000 → StsAt w0 M B → Below w0.heap.size w0 W → Calls Tryz.prog 36 #[.slice A L.length c, .slice B M.length d] W (BoolPost (same L M) W)) ?_ L A h
  intro L A hL ih M B c d W hcL hcM hM hW
  have l1 := len_cntSs L
  have l2 := len_cntSs M
  have hL' := Lib.hid hL
  have hM' := Lib.hid hM
  have hW' := Lib.hid hW
  have ih' := Lib.hid ih
  have hcL := Lib.hid hcL
  have hcM := Lib.hid hcM
  obtain ⟨n, hnn⟩ : ∃ n, L.length = n := ⟨_, rfl⟩
  obtain ⟨m, hmm⟩ : ∃ m, M.length = m := ⟨_, rfl⟩
  have hn : n ≤ 1000000 := by have := hcL.out; omega
  have hm : m ≤ 1000000 := by have := hcM.out; omega
  rw [hnn, hmm]
  have hLn := Lib.hid hnn
  have hMn := Lib.hid hmm
  clear hL hM hW hnn hmm ih l1 l2 h
  by_cases hnm : n = m
  · subst hnm
    have e1 : ¬ ¬ ((n : Int) = (n : Int)) := by omega
    go_enter Tryz.func36, Tryz.ntmps36
    go_wp2_with fail
    go_loopg [5] n (fun g s5 wr => ∃ k : Nat, k + g = n ∧ s5 = .int .i64 k ∧ (∀ i : Nat, i < k → L[i]? = M[i]?) ∧ Below W.heap.size W wr)
    case atStart => exact ⟨0, by omega, rfl, fun i h => absurd h (by omega), Below.refl _ _⟩
    case round =>
      obtain ⟨k, hkg, rfl, hall, hbr⟩ := hrel
      have hall' := Lib.hid hall
      have hbr' := Lib.hid hbr
      clear hall hbr
      cases gk with
      | zero =>
        have e0 : ¬ ((k : Int) < (n : Int)) := by omega
        have hs := Lib.hid (show same L M = true from same_true.2 (List.ext_getElem? fun i => by
          by_cases hi : i < k
          · exact hall'.out i hi
          · rw [List.getElem?_eq_none (by have := hLn.out; omega), List.getElem?_eq_none (by have := hMn.out; omega)]))
        go_wp2
        go_ret
        exact ⟨by rw [hs.out]; rfl, hbr'.out⟩
      | succ g2 =>
        have e0 : (k : Int) < (n : Int) := by omega
        have hbw := Lib.hid (hW'.out.trans (hbr'.out.mono hW'.out.size))
        obtain ⟨blk, off, x, r, rfl, hx, hcx, hxe, hxb, hxl⟩ := (hL'.out).at_ (k := k) (by rw [hLn.out]; omega)
        obtain ⟨blk', off', y, s, rfl, hy, hcy, hye, hyb, hyl⟩ := (hM'.out).at_ (k := k) (by rw [hMn.out]; omega)
        have c1 : cntS x ≤ 1000000 := Nat.le_trans (cntS_mem hx) hcL.out
        have c2 : cntS y ≤ 1000000 := Nat.le_trans (cntS_mem hy) hcM.out
        have hbd := Lib.hid (fun (W' : World) (hW2 : Below w0.heap.size w0 W') => (ih'.out k x r.bd.a hx).1 hxb y.bd s.bd.a r.bd.c s.bd.c W' (by have := cntS_bd x; omega) (by have := cntS_bd y; omega) hyb hW2)
        have hel := Lib.hid (fun (W' : World) (hW2 : Below w0.heap.size w0 W') => (ih'.out k x r.el.a hx).2 hxl y.el s.el.a r.el.c s.el.c W' (by have := cntS_bd x; omega) (by have := cntS_bd y; omega) hyl hW2)
        have hR := refTests w0 x y r s hxe hye c1 c2 hbd.out hel.out
        have hRx : ∀ w', Below wr.heap.size wr w' → w'.rangeAt blk (off + k * 16) (cellsT r) := fun w' hb j v hj => by
          have hj16 : j < 16 := (List.getElem?_eq_some_iff.1 hj).1
          have h1 := (hcx j hj16).trans hj
          have h2 := (hbw.out.cell (p := ⟨blk, off + k * 16 + j, none⟩) (cell_some_lt h1)).trans h1
          exact (hb.cell (p := ⟨blk, off + k * 16 + j, none⟩) (cell_some_lt h2)).trans h2
        have hRy : ∀ w', Below wr.heap.size wr w' → w'.rangeAt blk' (off' + k * 16) (cellsT s) := fun w' hb j v hj => by
          have hj16 : j < 16 := (List.getElem?_eq_some_iff.1 hj).1
          have h1 := (hcy j hj16).trans hj
          have h2 := (hbw.out.cell (p := ⟨blk', off' + k * 16 + j, none⟩) (cell_some_lt h1)).trans h1
          exact (hb.cell (p := ⟨blk', off' + k * 16 + j, none⟩) (cell_some_lt h2)).trans h2
        have hx' := Lib.hid hx
        have hy' := Lib.hid hy
        have hRx := Lib.hid hRx
        have hRy := Lib.hid hRy
        have hR := Lib.hid hR
        clear hcx hcy hxe hye hxb hxl hyb hyl hbd hel hx hy c1 c2
        go_upto_region 6 with fail
        have lX : (cellsT r).length = 16 := rfl
        have lY : (cellsT s).length = 16 := rfl
        have oX := cellsT_one r
        have oY := cellsT_one s
        go_cut [6, 7] (fun s6 s7 wx => ∃ b6 b7 : Nat, s6 = .pointer (some ⟨b6, 0, none⟩) ∧ s7 = .pointer (some ⟨b7, 0, none⟩) ∧ wx.heap[b6]? = some (.cells (cellsT r).toArray 50 (0, 0)) ∧ wx.heap[b7]? = some (.cells (cellsT s).toArray 50 (0, 0)) ∧ Below W.heap.size W wx)
        case first =>
          as_aux_lemma =>
            have hS0 : Below wr.heap.size wr { wr with drawn := wr.drawn + 1 } := below_drew1 (Below.refl _ _)
            have hlow := Lib.hid hbr'.out
            clear hR
            generalize cellsT r = X at *
            generalize cellsT s = Y at *
            have sX : X.toArray.size = 16 := by simp [lX]
            have sY : Y.toArray.size = 16 := by simp [lY]
            refine wp_region_held (S := fun w' => Below wr.heap.size wr w') (by kernel_rfl) ?_
            refine wpAnyH_take (i := 0) (v := .slice (some ⟨blk, off, none⟩) n c) rfl (by kernel_rfl) (by kernel_rfl) (by kernel_rfl) (fun _ _ _ h => h) (Or.inl ⟨by rfl, fun w _ => by rfl⟩) hS0 ?_
            simp only [Act.put, List.getElem_toArray, List.getElem_cons_zero, List.getElem_cons_succ, List.setIfInBounds_toArray, List.set_cons_zero, List.set_cons_succ]
            refine wpAnyH_take (i := 1) (v := .int .i64 k) rfl (by kernel_rfl) (by kernel_rfl) (by kernel_rfl) (fun _ _ _ h => h) (Or.inl ⟨by rfl, fun w _ => by rfl⟩) hS0 ?_
            simp only [Act.put, List.getElem_toArray, List.getElem_cons_zero, List.getElem_cons_succ, List.setIfInBounds_toArray, List.set_cons_zero, List.set_cons_succ]
            refine wpAnyH_take (i := 2) (v := .pointer (some ⟨blk, off + k * 16, none⟩)) rfl (by kernel_rfl) (by kernel_rfl) (by kernel_rfl) (fun _ _ _ h => h) (Or.inl ⟨by rfl, fun w _ => by go_simp⟩) hS0 ?_
            simp only [Act.put, List.getElem_toArray, List.getElem_cons_zero, List.getElem_cons_succ, List.setIfInBounds_toArray, List.set_cons_zero, List.set_cons_succ]
            refine wpAnyH_take (i := 3) (v := .agg X.toArray) rfl (by kernel_rfl) (by kernel_rfl) (by kernel_rfl) (fun _ _ _ h => h) (yieldsIf_load_mid (by rfl) 50 (.tmp 21) rfl blk (off + k * 16) rfl X _ hRx.out Tryz.underlying50 rfl (by rw [lX]; kernel_rfl)) hS0 ?_
            simp only [Act.put, List.getElem_toArray, List.getElem_cons_zero, List.getElem_cons_succ, List.setIfInBounds_toArray, List.set_cons_zero, List.set_cons_succ]
            refine wpAnyH_take (i := 4) (v := .slice (some ⟨blk', off', none⟩) n d) rfl (by kernel_rfl) (by kernel_rfl) (by kernel_rfl) (fun _ _ _ h => h) (Or.inl ⟨by rfl, fun w _ => by rfl⟩) hS0 ?_
            simp only [Act.put, List.getElem_toArray, List.getElem_cons_zero, List.getElem_cons_succ, List.setIfInBounds_toArray, List.set_cons_zero, List.set_cons_succ]
            refine wpAnyH_take (i := 5) (v := .int .i64 k) rfl (by kernel_rfl) (by kernel_rfl) (by kernel_rfl) (fun _ _ _ h => h) (Or.inl ⟨by rfl, fun w _ => by rfl⟩) hS0 ?_
            simp only [Act.put, List.getElem_toArray, List.getElem_cons_zero, List.getElem_cons_succ, List.setIfInBounds_toArray, List.set_cons_zero, List.set_cons_succ]
            refine wpAnyH_take (i := 6) (v := .pointer (some ⟨blk', off' + k * 16, none⟩)) rfl (by kernel_rfl) (by kernel_rfl) (by kernel_rfl) (fun _ _ _ h => h) (Or.inl ⟨by rfl, fun w _ => by go_simp⟩) hS0 ?_
            simp only [Act.put, List.getElem_toArray, List.getElem_cons_zero, List.getElem_cons_succ, List.setIfInBounds_toArray, List.set_cons_zero, List.set_cons_succ]
            refine wpAnyH_take (i := 7) (v := .agg Y.toArray) rfl (by kernel_rfl) (by kernel_rfl) (by kernel_rfl) (fun _ _ _ h => h) (yieldsIf_load_mid (by rfl) 50 (.tmp 25) rfl blk' (off' + k * 16) rfl Y _ hRy.out Tryz.underlying50 rfl (by rw [lY]; kernel_rfl)) hS0 ?_
            simp only [Act.put, List.getElem_toArray, List.getElem_cons_zero, List.getElem_cons_succ, List.setIfInBounds_toArray, List.set_cons_zero, List.set_cons_succ]
            generalize hwd : ({ wr with drawn := wr.drawn + 1 } : World) = wd at hS0 ⊢
            have es : wd.heap.size = wr.heap.size := by rw [← hwd]
            clear hwd
            have e1z := heap_alloc_new wd (.cells zero50 50)
            have es1 : (wd.alloc (.cells zero50 50)).heap.size = wd.heap.size + 1 := by simp
            have e2z := heap_alloc_new (wd.alloc (.cells zero50 50)) (.cells zero50 50)
            have e1z2 : ((wd.alloc (.cells zero50 50)).alloc (.cells zero50 50)).heap[wd.heap.size]? = some (.cells zero50 50 (0, 0)) := (heap_alloc_old _ _ (by omega)).trans e1z
            rw [es1] at e2z
            have hSa := hS0.alloc hS0.size (.cells zero50 50)
            have hSb := hSa.alloc hSa.size (.cells zero50 50)
            generalize hw1 : wd.alloc (.cells zero50 50) = wa at *
            generalize hw2 : wa.alloc (.cells zero50 50) = wb at *
            refine wpAnyH_all (rs := [8, 9]) (by kernel_rfl) (by simp) ?_
            intro i hi
            rcases (by simpa using hi : i = 8 ∨ i = 9) with rfl | rfl
            · refine wpOp_ran rfl (by rfl) (alloc50 rfl hw1) ⟨hSa, ?_⟩
              simp only [Act.put, List.getElem_toArray, List.getElem_cons_zero, List.getElem_cons_succ, List.setIfInBounds_toArray, List.set_cons_zero, List.set_cons_succ]
              refine wpAnyH_all (rs := [9]) (by kernel_rfl) (by simp) ?_
              intro i hi
              rcases (by simpa using hi : i = 9) with rfl
              refine wpOp_ran rfl (by rfl) (alloc50 rfl hw2) ⟨hSb, ?_⟩
              simp only [Act.put, List.getElem_toArray, List.getElem_cons_zero, List.getElem_cons_succ, List.setIfInBounds_toArray, List.set_cons_zero, List.set_cons_succ]
              refine wpAnyH_all (rs := [10]) (by kernel_rfl) (by simp) ?_
              intro i hi
              rcases (by simpa using hi : i = 10) with rfl
              refine wpOp_wp rfl (by rfl) (wp_store_row 50 (.tmp 6) (.tmp 22) rfl wd.heap.size X.toArray rfl rfl 50 zero50 e1z2 (by rw [sX]; kernel_rfl) (by rw [sX]; rfl) oX ⟨below_setRow hSb (by omega) _, ?_⟩)
              simp only [Act.put, List.getElem_toArray, List.getElem_cons_zero, List.getElem_cons_succ, List.setIfInBounds_toArray, List.set_cons_zero, List.set_cons_succ]
              refine wpAnyH_all (rs := [11]) (by kernel_rfl) (by simp) ?_
              intro i hi
              rcases (by simpa using hi : i = 11) with rfl
              refine wpOp_wp rfl (by rfl) (wp_store_row 50 (.tmp 7) (.tmp 26) rfl wa.heap.size Y.toArray rfl rfl 50 zero50 ((setRow_other _ _ _ _ (by omega)).trans (by rw [es1]; exact e2z)) (by rw [sY]; kernel_rfl) (by rw [sY]; rfl) oY ⟨below_setRow (below_setRow hSb (by omega) _) (by omega) _, ?_⟩)
              simp only [Act.put, List.getElem_toArray, List.getElem_cons_zero, List.getElem_cons_succ, List.setIfInBounds_toArray, List.set_cons_zero, List.set_cons_succ]
              refine wpAnyH_done (by kernel_rfl) ?_ _
              go_wp2_with fail
              go_meet
              case rel => exact ⟨_, _, rfl, rfl, (setRow_other _ _ _ _ (by omega)).trans (setRow_heap _ _ zero50 _ _ _ e1z2), setRow_heap _ _ zero50 _ _ _ ((setRow_other _ _ _ _ (by omega)).trans (by rw [es1]; exact e2z)), Below.next hlow.out (below_setRow (below_setRow hSb (by omega) _) (by omega) _)⟩
            · refine wpOp_ran rfl (by rfl) (alloc50 rfl hw1) ⟨hSa, ?_⟩
              simp only [Act.put, List.getElem_toArray, List.getElem_cons_zero, List.getElem_cons_succ, List.setIfInBounds_toArray, List.set_cons_zero, List.set_cons_succ]
              refine wpAnyH_all (rs := [8]) (by kernel_rfl) (by simp) ?_
              intro i hi
              rcases (by simpa using hi : i = 8) with rfl
              refine wpOp_ran rfl (by rfl) (alloc50 rfl hw2) ⟨hSb, ?_⟩
              simp only [Act.put, List.getElem_toArray, List.getElem_cons_zero, List.getElem_cons_succ, List.setIfInBounds_toArray, List.set_cons_zero, List.set_cons_succ]
              refine wpAnyH_all (rs := [10]) (by kernel_rfl) (by simp) ?_
              intro i hi
              rcases (by simpa using hi : i = 10) with rfl
              refine wpOp_wp rfl (by rfl) (wp_store_row 50 (.tmp 6) (.tmp 22) rfl wa.heap.size X.toArray rfl rfl 50 zero50 (by rw [es1]; exact e2z) (by rw [sX]; kernel_rfl) (by rw [sX]; rfl) oX ⟨below_setRow hSb (by omega) _, ?_⟩)
              simp only [Act.put, List.getElem_toArray, List.getElem_cons_zero, List.getElem_cons_succ, List.setIfInBounds_toArray, List.set_cons_zero, List.set_cons_succ]
              refine wpAnyH_all (rs := [11]) (by kernel_rfl) (by simp) ?_
              intro i hi
              rcases (by simpa using hi : i = 11) with rfl
              refine wpOp_wp rfl (by rfl) (wp_store_row 50 (.tmp 7) (.tmp 26) rfl wd.heap.size Y.toArray rfl rfl 50 zero50 ((setRow_other _ _ _ _ (by omega)).trans e1z2) (by rw [sY]; kernel_rfl) (by rw [sY]; rfl) oY ⟨below_setRow (below_setRow hSb (by omega) _) (by omega) _, ?_⟩)
              simp only [Act.put, List.getElem_toArray, List.getElem_cons_zero, List.getElem_cons_succ, List.setIfInBounds_toArray, List.set_cons_zero, List.set_cons_succ]
              refine wpAnyH_done (by kernel_rfl) ?_ _
              go_wp2_with fail
              go_meet
              case rel => exact ⟨_, _, rfl, rfl, (setRow_other _ _ _ _ (by omega)).trans (setRow_heap _ _ zero50 _ _ _ (by rw [es1]; exact e2z)), setRow_heap _ _ zero50 _ _ _ ((setRow_other _ _ _ _ (by omega)).trans e1z2), Below.next hlow.out (below_setRow (below_setRow hSb (by omega) _) (by omega) _)⟩
        case rest =>
          obtain ⟨b6, b7, rfl, rfl, hX, hY, hbc⟩ := hcut
          obtain ⟨hsame, t78, t38e, t38a, t92, tbd, tel⟩ := hR.out
          clear hR hRx hRy lX lY oX oY
          obtain ⟨kd, nm, ⟨nA, nn, nc⟩, ⟨eo, eu, en, ⟨eA, ek, ec⟩⟩, ⟨ao, au, an, ⟨aA, ak, ac⟩⟩, ⟨gA, gn, gc⟩, lo, hi, ⟨bA, bn, bc⟩, ⟨lA, ln, lc⟩⟩ := r
          obtain ⟨kd', nm', ⟨nA', nn', nc'⟩, ⟨eo', eu', en', ⟨eA', ek', ec'⟩⟩, ⟨ao', au', an', ⟨aA', ak', ac'⟩⟩, ⟨gA', gn', gc'⟩, lo', hi', ⟨bA', bn', bc'⟩, ⟨lA', ln', lc'⟩⟩ := s
          dsimp only at hsame t78 t38e t38a t92 tbd tel
          have hsame := Lib.hid hsame
          have t78 := Lib.hid t78
          have t38e := Lib.hid t38e
          have t38a := Lib.hid t38a
          have t92 := Lib.hid t92
          have tbd := Lib.hid tbd
          have tel := Lib.hid tel
          have hX : wc.heap[b6]? = some (.cells #[.int .i64 kd, .string nm, .slice nA nn nc, .int .i64 eo, .int .u64 eu, .string en, .slice eA ek ec, .int .i64 ao, .int .u64 au, .string an, .slice aA ak ac, .slice gA gn gc, .int .u64 lo, .int .u64 hi, .slice bA bn bc, .slice lA ln lc] 50 (0, 0)) := hX
          have hY : wc.heap[b7]? = some (.cells #[.int .i64 kd', .string nm', .slice nA' nn' nc', .int .i64 eo', .int .u64 eu', .string en', .slice eA' ek' ec', .int .i64 ao', .int .u64 au', .string an', .slice aA' ak' ac', .slice gA' gn' gc', .int .u64 lo', .int .u64 hi', .slice bA' bn' bc', .slice lA' ln' lc'] 50 (0, 0)) := hY
          as_aux_lemma =>
            obtain ⟨p0, p1, p2, p3, p4, p5, p6, p7, p8, p9, p10, p11, p12, p13, p14, p15⟩ := box16 hX
            obtain ⟨q0, q1, q2, q3, q4, q5, q6, q7, q8, q9, q10, q11, q12, q13, q14, q15⟩ := box16 hY
            have upc : ∀ W', Below wc.heap.size wc W' → Below w0.heap.size w0 W' := fun W' h => hW'.out.trans ((Below.next hbc h).mono hW'.out.size)
            have t78 := Lib.hid fun W' (h : Below wc.heap.size wc W') => t78.out W' (upc W' h)
            have t38e := Lib.hid fun W' (h : Below wc.heap.size wc W') => t38e.out W' (upc W' h)
            have t38a := Lib.hid fun W' (h : Below wc.heap.size wc W') => t38a.out W' (upc W' h)
            have t92 := Lib.hid fun W' (h : Below wc.heap.size wc W') => t92.out W' (upc W' h)
            have tbd := Lib.hid fun W' (h : Below wc.heap.size wc W') => tbd.out W' (upc W' h)
            have tel := Lib.hid fun W' (h : Below wc.heap.size wc W') => tel.out W' (upc W' h)
            have hbw2 := Lib.hid (Below.refl wc.heap.size wc)
            have hX := Lib.hid hX
            have hY := Lib.hid hY
            have hbc := Lib.hid hbc
            clear upc
            obtain ⟨b1, h1⟩ : ∃ b, (kd == kd') = b := ⟨_, rfl⟩
            obtain ⟨b2, h2⟩ : ∃ b, (nm.toList == nm'.toList) = b := ⟨_, rfl⟩
            obtain ⟨b3, h3⟩ : ∃ b, ((lo : Int) == (lo' : Int)) = b := ⟨_, rfl⟩
            obtain ⟨b4, h4⟩ : ∃ b, ((hi : Int) == (hi' : Int)) = b := ⟨_, rfl⟩
            have h1n : (kd != kd') = !b1 := by rw [bne, h1]
            have h3n : ((lo : Int) != (lo' : Int)) = !b3 := by rw [bne, h3]
            have h4n : ((hi : Int) != (hi' : Int)) = !b4 := by rw [bne, h4]
            have hsame := hsame.out
            rw [h1, h2, h3, h4] at hsame
            generalize same x.ns y.ns = t5 at t78 hsame
            generalize same x.e y.e = t6 at t38e hsame
            generalize same x.a y.a = t7 at t38a hsame
            generalize same x.ars y.ars = t8 at t92 hsame
            generalize same x.bd y.bd = t9 at tbd hsame
            generalize same x.el y.el = t10 at tel hsame
            cases b1
            · replace hsame : same x y = false := hsame
              as_aux_lemma =>
                have hs := Lib.hid (show same L M = false from same_false.2 (by
                  rintro rfl
                  have h := hx'.out.symm.trans hy'.out
                  injection h with h
                  exact same_false.1 hsame h))
                clear hsame
                go_wp2
                go_ret
                exact ⟨by rw [hs.out]; rfl, Below.next hbc.out hbw2.out⟩
            · skip
              cases b2
              · replace hsame : same x y = false := hsame
                as_aux_lemma =>
                  have hs := Lib.hid (show same L M = false from same_false.2 (by
                    rintro rfl
                    have h := hx'.out.symm.trans hy'.out
                    injection h with h
                    exact same_false.1 hsame h))
                  clear hsame
                  go_wp2
                  go_ret
                  exact ⟨by rw [hs.out]; rfl, Below.next hbc.out hbw2.out⟩
              · skip
                cases b3
                · replace hsame : same x y = false := hsame
                  as_aux_lemma =>
                    have hs := Lib.hid (show same L M = false from same_false.2 (by
                      rintro rfl
                      have h := hx'.out.symm.trans hy'.out
                      injection h with h
                      exact same_false.1 hsame h))
                    clear hsame
                    go_wp2
                    go_ret
                    exact ⟨by rw [hs.out]; rfl, Below.next hbc.out hbw2.out⟩
                · skip
                  cases b4
                  · replace hsame : same x y = false := hsame
                    as_aux_lemma =>
                      have hs := Lib.hid (show same L M = false from same_false.2 (by
                        rintro rfl
                        have h := hx'.out.symm.trans hy'.out
                        injection h with h
                        exact same_false.1 hsame h))
                      clear hsame
                      go_wp2
                      go_ret
                      exact ⟨by rw [hs.out]; rfl, Below.next hbc.out hbw2.out⟩
                  · skip
                    go_wp2_with fail
                    refine (t78.out _ hbw2.out).mono ?_
                    rintro e w3 ⟨rfl, hbn⟩
                    have hbw2 := Lib.hid (Below.next hbw2.out hbn)
                    clear hbn p0 p1 p2 p3 p4 p5 p6 p7 p8 p9 p10 p11 p12 p13 p14 p15 q0 q1 q2 q3 q4 q5 q6 q7 q8 q9 q10 q11 q12 q13 q14 q15
                    cases t5
                    · replace hsame : same x y = false := hsame
                      as_aux_lemma =>
                        have hs := Lib.hid (show same L M = false from same_false.2 (by
                          rintro rfl
                          have h := hx'.out.symm.trans hy'.out
                          injection h with h
                          exact same_false.1 hsame h))
                        clear hsame
                        go_wp2
                        go_ret
                        exact ⟨by rw [hs.out]; rfl, Below.next hbc.out hbw2.out⟩
                    · obtain ⟨p0, p1, p2, p3, p4, p5, p6, p7, p8, p9, p10, p11, p12, p13, p14, p15⟩ := box16 ((hbw2.out.block _ (blk_lt hX.out)).trans hX.out)
                      obtain ⟨q0, q1, q2, q3, q4, q5, q6, q7, q8, q9, q10, q11, q12, q13, q14, q15⟩ := box16 ((hbw2.out.block _ (blk_lt hY.out)).trans hY.out)
                      go_wp2_with fail
                      refine (t38e.out _ hbw2.out).mono ?_
                      rintro e w4 ⟨rfl, hbn⟩
                      have hbw2 := Lib.hid (Below.next hbw2.out hbn)
                      clear hbn p0 p1 p2 p3 p4 p5 p6 p7 p8 p9 p10 p11 p12 p13 p14 p15 q0 q1 q2 q3 q4 q5 q6 q7 q8 q9 q10 q11 q12 q13 q14 q15
                      cases t6
                      · replace hsame : same x y = false := hsame
                        as_aux_lemma =>
                          have hs := Lib.hid (show same L M = false from same_false.2 (by
                            rintro rfl
                            have h := hx'.out.symm.trans hy'.out
                            injection h with h
                            exact same_false.1 hsame h))
                          clear hsame
                          go_wp2
                          go_ret
                          exact ⟨by rw [hs.out]; rfl, Below.next hbc.out hbw2.out⟩
                      · obtain ⟨p0, p1, p2, p3, p4, p5, p6, p7, p8, p9, p10, p11, p12, p13, p14, p15⟩ := box16 ((hbw2.out.block _ (blk_lt hX.out)).trans hX.out)
                        obtain ⟨q0, q1, q2, q3, q4, q5, q6, q7, q8, q9, q10, q11, q12, q13, q14, q15⟩ := box16 ((hbw2.out.block _ (blk_lt hY.out)).trans hY.out)
                        go_wp2_with fail
                        refine (t38a.out _ hbw2.out).mono ?_
                        rintro e w5 ⟨rfl, hbn⟩
                        have hbw2 := Lib.hid (Below.next hbw2.out hbn)
                        clear hbn p0 p1 p2 p3 p4 p5 p6 p7 p8 p9 p10 p11 p12 p13 p14 p15 q0 q1 q2 q3 q4 q5 q6 q7 q8 q9 q10 q11 q12 q13 q14 q15
                        cases t7
                        · replace hsame : same x y = false := hsame
                          as_aux_lemma =>
                            have hs := Lib.hid (show same L M = false from same_false.2 (by
                              rintro rfl
                              have h := hx'.out.symm.trans hy'.out
                              injection h with h
                              exact same_false.1 hsame h))
                            clear hsame
                            go_wp2
                            go_ret
                            exact ⟨by rw [hs.out]; rfl, Below.next hbc.out hbw2.out⟩
                        · obtain ⟨p0, p1, p2, p3, p4, p5, p6, p7, p8, p9, p10, p11, p12, p13, p14, p15⟩ := box16 ((hbw2.out.block _ (blk_lt hX.out)).trans hX.out)
                          obtain ⟨q0, q1, q2, q3, q4, q5, q6, q7, q8, q9, q10, q11, q12, q13, q14, q15⟩ := box16 ((hbw2.out.block _ (blk_lt hY.out)).trans hY.out)
                          go_wp2_with fail
                          refine (t92.out _ hbw2.out).mono ?_
                          rintro e w6 ⟨rfl, hbn⟩
                          have hbw2 := Lib.hid (Below.next hbw2.out hbn)
                          clear hbn p0 p1 p2 p3 p4 p5 p6 p7 p8 p9 p10 p11 p12 p13 p14 p15 q0 q1 q2 q3 q4 q5 q6 q7 q8 q9 q10 q11 q12 q13 q14 q15
                          cases t8
                          · replace hsame : same x y = false := hsame
                            as_aux_lemma =>
                              have hs := Lib.hid (show same L M = false from same_false.2 (by
                                rintro rfl
                                have h := hx'.out.symm.trans hy'.out
                                injection h with h
                                exact same_false.1 hsame h))
                              clear hsame
                              go_wp2
                              go_ret
                              exact ⟨by rw [hs.out]; rfl, Below.next hbc.out hbw2.out⟩
                          · obtain ⟨p0, p1, p2, p3, p4, p5, p6, p7, p8, p9, p10, p11, p12, p13, p14, p15⟩ := box16 ((hbw2.out.block _ (blk_lt hX.out)).trans hX.out)
                            obtain ⟨q0, q1, q2, q3, q4, q5, q6, q7, q8, q9, q10, q11, q12, q13, q14, q15⟩ := box16 ((hbw2.out.block _ (blk_lt hY.out)).trans hY.out)
                            go_wp2_with fail
                            refine (tbd.out _ hbw2.out).mono ?_
                            rintro e w7 ⟨rfl, hbn⟩
                            have hbw2 := Lib.hid (Below.next hbw2.out hbn)
                            clear hbn p0 p1 p2 p3 p4 p5 p6 p7 p8 p9 p10 p11 p12 p13 p14 p15 q0 q1 q2 q3 q4 q5 q6 q7 q8 q9 q10 q11 q12 q13 q14 q15
                            cases t9
                            · replace hsame : same x y = false := hsame
                              as_aux_lemma =>
                                have hs := Lib.hid (show same L M = false from same_false.2 (by
                                  rintro rfl
                                  have h := hx'.out.symm.trans hy'.out
                                  injection h with h
                                  exact same_false.1 hsame h))
                                clear hsame
                                go_wp2
                                go_ret
                                exact ⟨by rw [hs.out]; rfl, Below.next hbc.out hbw2.out⟩
                            · obtain ⟨p0, p1, p2, p3, p4, p5, p6, p7, p8, p9, p10, p11, p12, p13, p14, p15⟩ := box16 ((hbw2.out.block _ (blk_lt hX.out)).trans hX.out)
                              obtain ⟨q0, q1, q2, q3, q4, q5, q6, q7, q8, q9, q10, q11, q12, q13, q14, q15⟩ := box16 ((hbw2.out.block _ (blk_lt hY.out)).trans hY.out)
                              go_wp2_with fail
                              refine (tel.out _ hbw2.out).mono ?_
                              rintro e w8 ⟨rfl, hbn⟩
                              have hbw2 := Lib.hid (Below.next hbw2.out hbn)
                              clear hbn p0 p1 p2 p3 p4 p5 p6 p7 p8 p9 p10 p11 p12 p13 p14 p15 q0 q1 q2 q3 q4 q5 q6 q7 q8 q9 q10 q11 q12 q13 q14 q15
                              cases t10
                              · replace hsame : same x y = false := hsame
                                as_aux_lemma =>
                                  have hs := Lib.hid (show same L M = false from same_false.2 (by
                                    rintro rfl
                                    have h := hx'.out.symm.trans hy'.out
                                    injection h with h
                                    exact same_false.1 hsame h))
                                  clear hsame
                                  go_wp2
                                  go_ret
                                  exact ⟨by rw [hs.out]; rfl, Below.next hbc.out hbw2.out⟩
                              · replace hsame : same x y = true := hsame
                                have hxy := Lib.hid (same_true.1 hsame)
                                clear hsame
                                go_wp2
                                go_roundg g2
                                case measure => omega
                                case rel => exact ⟨k + 1, by omega, by go_num, fun i hi => by
                                    rcases Nat.lt_or_ge i k with h | h
                                    · exact hall'.out i h
                                    · obtain rfl : i = k := by omega
                                      rw [hx'.out, hy'.out, hxy.out], Below.next hbc.out hbw2.out⟩
  · have e1 : ¬ ((n : Int) = (m : Int)) := by omega
    have hs := Lib.hid (show same L M = false from same_false.2 (by
      rintro rfl
      exact hnm (hLn.out.symm.trans hMn.out)))
    go_enter Tryz.func36, Tryz.ntmps36
    go_wp2
    go_ret
    exact ⟨by rw [hs.out]; rfl, Below.refl _ _⟩
end Go.Proofs.YtnahgfdoiflacaaGreatDoor
