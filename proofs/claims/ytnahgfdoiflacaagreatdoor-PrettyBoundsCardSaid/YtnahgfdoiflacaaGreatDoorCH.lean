/- Statements: whether they are the same: the program's way. Functions, programs: whether they are the same: the program's way. How much statements count. -/
import Derived.Test.YtnahgfdoiflacaaGreatDoorCC
import Derived.Deep.Cut
import Derived.LoopN
import Derived.Handy
set_option linter.unusedSimpArgs false
set_option linter.unusedVariables false
namespace Go.Proofs.YtnahgfdoiflacaaGreatDoor
open Go.RowKit Go.Lib Go.Shelf

theorem same_st (x y : St) : same x y = (same x.kd y.kd && (same x.nm y.nm && (same x.lo y.lo && (same x.hi y.hi && (same x.ns y.ns && (same x.e y.e && (same x.a y.a && (same x.ars y.ars && (same x.bd y.bd && same x.el y.el))))))))) := by
  rw [← same_and (x := (x.bd, x.el)) (y := (y.bd, y.el)) (by simp), ← same_and (x := (x.ars, x.bd, x.el)) (y := (y.ars, y.bd, y.el)) (by simp), ← same_and (x := (x.a, x.ars, x.bd, x.el)) (y := (y.a, y.ars, y.bd, y.el)) (by simp), ← same_and (x := (x.e, x.a, x.ars, x.bd, x.el)) (y := (y.e, y.a, y.ars, y.bd, y.el)) (by simp), ← same_and (x := (x.ns, x.e, x.a, x.ars, x.bd, x.el)) (y := (y.ns, y.e, y.a, y.ars, y.bd, y.el)) (by simp), ← same_and (x := (x.hi, x.ns, x.e, x.a, x.ars, x.bd, x.el)) (y := (y.hi, y.ns, y.e, y.a, y.ars, y.bd, y.el)) (by simp), ← same_and (x := (x.lo, x.hi, x.ns, x.e, x.a, x.ars, x.bd, x.el)) (y := (y.lo, y.hi, y.ns, y.e, y.a, y.ars, y.bd, y.el)) (by simp), ← same_and (x := (x.nm, x.lo, x.hi, x.ns, x.e, x.a, x.ars, x.bd, x.el)) (y := (y.nm, y.lo, y.hi, y.ns, y.e, y.a, y.ars, y.bd, y.el)) (by simp)]
  refine same_and ?_
  cases x; cases y
  simp only [St.kd, St.nm, St.lo, St.hi, St.ns, St.e, St.a, St.ars, St.bd, St.el, St.node.injEq, Prod.mk.injEq]
  constructor
  · rintro ⟨h1, h2, h3, h4, h5, h6, h7, h8, h9, h10⟩
    exact ⟨h1, h2, h7, h8, h3, h4, h5, h6, h9, h10⟩
  · rintro ⟨h1, h2, h7, h8, h3, h4, h5, h6, h9, h10⟩
    exact ⟨h1, h2, h3, h4, h5, h6, h7, h8, h9, h10⟩
theorem box16 {W : World} {b : Nat} {v0 v1 v2 v3 v4 v5 v6 v7 v8 v9 v10 v11 v12 v13 v14 v15 : Value} {t : TypeId} (h : W.heap[b]? = some (.cells #[v0, v1, v2, v3, v4, v5, v6, v7, v8, v9, v10, v11, v12, v13, v14, v15] t (0, 0))) :
    W.cell? ⟨b, 0, none⟩ = some v0 ∧ W.cell? ⟨b, 1, none⟩ = some v1 ∧ W.cell? ⟨b, 2, none⟩ = some v2 ∧ W.cell? ⟨b, 3, none⟩ = some v3 ∧ W.cell? ⟨b, 4, none⟩ = some v4 ∧ W.cell? ⟨b, 5, none⟩ = some v5 ∧ W.cell? ⟨b, 6, none⟩ = some v6 ∧ W.cell? ⟨b, 7, none⟩ = some v7 ∧ W.cell? ⟨b, 8, none⟩ = some v8 ∧ W.cell? ⟨b, 9, none⟩ = some v9 ∧ W.cell? ⟨b, 10, none⟩ = some v10 ∧ W.cell? ⟨b, 11, none⟩ = some v11 ∧ W.cell? ⟨b, 12, none⟩ = some v12 ∧ W.cell? ⟨b, 13, none⟩ = some v13 ∧ W.cell? ⟨b, 14, none⟩ = some v14 ∧ W.cell? ⟨b, 15, none⟩ = some v15 :=
  ⟨by rw [blk_cell h]; rfl, by rw [blk_cell h]; rfl, by rw [blk_cell h]; rfl, by rw [blk_cell h]; rfl, by rw [blk_cell h]; rfl, by rw [blk_cell h]; rfl, by rw [blk_cell h]; rfl, by rw [blk_cell h]; rfl, by rw [blk_cell h]; rfl, by rw [blk_cell h]; rfl, by rw [blk_cell h]; rfl, by rw [blk_cell h]; rfl, by rw [blk_cell h]; rfl, by rw [blk_cell h]; rfl, by rw [blk_cell h]; rfl, by rw [blk_cell h]; rfl⟩
theorem box5 {W : World} {b : Nat} {v0 v1 v2 v3 v4 : Value} {t : TypeId} (h : W.heap[b]? = some (.cells #[v0, v1, v2, v3, v4] t (0, 0))) :
    W.cell? ⟨b, 0, none⟩ = some v0 ∧ W.cell? ⟨b, 1, none⟩ = some v1 ∧ W.cell? ⟨b, 2, none⟩ = some v2 ∧ W.cell? ⟨b, 3, none⟩ = some v3 ∧ W.cell? ⟨b, 4, none⟩ = some v4 :=
  ⟨by rw [blk_cell h]; rfl, by rw [blk_cell h]; rfl, by rw [blk_cell h]; rfl, by rw [blk_cell h]; rfl, by rw [blk_cell h]; rfl⟩
theorem box2 {W : World} {b : Nat} {v0 v1 : Value} {t : TypeId} (h : W.heap[b]? = some (.cells #[v0, v1] t (0, 0))) :
    W.cell? ⟨b, 0, none⟩ = some v0 ∧ W.cell? ⟨b, 1, none⟩ = some v1 :=
  ⟨by rw [blk_cell h]; rfl, by rw [blk_cell h]; rfl⟩

set_option maxRecDepth 100000 in
set_option maxHeartbeats 16000000 in
theorem sameSt_any (w0 : World) (x y : St) (r s : StC) (hx : SNow w0 x r) (hy : SNow w0 y s) (W : World) (hW : Below w0.heap.size w0 W) (hcx : cntS x ≤ 1000000) (hcy : cntS y ≤ 1000000)
    (hbd : ∀ (W' : World), Below w0.heap.size w0 W' → Calls Tryz.prog 35 #[.slice r.bd.a x.bd.length r.bd.c, .slice s.bd.a y.bd.length s.bd.c] W' (BoolPost (same x.bd y.bd) W'))
    (hel : ∀ (W' : World), Below w0.heap.size w0 W' → Calls Tryz.prog 35 #[.slice r.el.a x.el.length r.el.c, .slice s.el.a y.el.length s.el.c] W' (BoolPost (same x.el y.el) W')) :
    Calls Tryz.prog 91 #[vlT r, vlT s] W (BoolPost (same x y) W) := by
  have hcx0 := cntS_bd x
  have hcy0 := cntS_bd y
  have l1 := len_cntN x.ns
  have l2 := len_cntN y.ns
  have l3 := len_cnt x.ars
  have l4 := len_cnt y.ars
  obtain ⟨kd, nm, ⟨nA, nn, nc⟩, ⟨eo, eu, en, ⟨eA, ek, ec⟩⟩, ⟨ao, au, an, ⟨aA, ak, ac⟩⟩, ⟨gA, gn, gc⟩, lo, hi, ⟨bA, bn, bc⟩, ⟨lA, ln, lc⟩⟩ := r
  obtain ⟨kd', nm', ⟨nA', nn', nc'⟩, ⟨eo', eu', en', ⟨eA', ek', ec'⟩⟩, ⟨ao', au', an', ⟨aA', ak', ac'⟩⟩, ⟨gA', gn', gc'⟩, lo', hi', ⟨bA', bn', bc'⟩, ⟨lA', ln', lc'⟩⟩ := s
  obtain ⟨kx, mx, nx, nxA, ⟨ex1, ex2, ex3, ex4, exA, exu⟩, ⟨ax1, ax2, ax3, ax4, axA, axu⟩, gx, gxA, lx, hx', _, _, bx, elx⟩ := hx
  obtain ⟨ky, my, ny, nyA, ⟨ey1, ey2, ey3, ey4, eyA, eyu⟩, ⟨ay1, ay2, ay3, ay4, ayA, ayu⟩, gy, gyA, ly, hy', _, _, by', ely⟩ := hy
  dsimp only at kx mx nx nxA ex1 ex2 ex3 ex4 exA ax1 ax2 ax3 ax4 axA gx gxA lx hx' bx elx ky my ny nyA ey1 ey2 ey3 ey4 eyA ay1 ay2 ay3 ay4 ayA gy gyA ly hy' by' ely hbd hel
  rw [← bx, ← by'] at hbd
  rw [← elx, ← ely] at hel
  have h87 : ∀ (W' : World), Below w0.heap.size w0 W' → Calls Tryz.prog 87 #[.slice nA nn nc, .slice nA' nn' nc'] W' (BoolPost (same x.ns y.ns) W') := fun W' hW' => by
    rw [nx, ny]
    exact eqS_any w0 x.ns y.ns nA nA' nxA nyA nc nc' W' hW' (by omega) (by omega)
  have h37e : ∀ (W' : World), Below w0.heap.size w0 W' → Calls Tryz.prog 37 #[.agg #[.int .i64 eo, .int .u64 eu, .string en, .slice eA ek ec], .agg #[.int .i64 eo', .int .u64 eu', .string en', .slice eA' ek' ec']] W' (BoolPost (same x.e y.e) W') := fun W' hW' => by
    rw [ex1, ex2, ex3, ex4, ey1, ey2, ey3, ey4]
    exact sameE_any w0 x.e eA exA y.e eA' ec ec' W' (by omega) (by omega) eyA hW'
  have h37a : ∀ (W' : World), Below w0.heap.size w0 W' → Calls Tryz.prog 37 #[.agg #[.int .i64 ao, .int .u64 au, .string an, .slice aA ak ac], .agg #[.int .i64 ao', .int .u64 au', .string an', .slice aA' ak' ac']] W' (BoolPost (same x.a y.a) W') := fun W' hW' => by
    rw [ax1, ax2, ax3, ax4, ay1, ay2, ay3, ay4]
    exact sameE_any w0 x.a aA axA y.a aA' ac ac' W' (by omega) (by omega) ayA hW'
  have h93 : ∀ (W' : World), Below w0.heap.size w0 W' → Calls Tryz.prog 93 #[.slice gA gn gc, .slice gA' gn' gc', .func (.func 37) #[] #[]] W' (BoolPost (same x.ars y.ars) W') := fun W' hW' => by
    rw [gx, gy]
    exact equalE_any 37 (enters_of Tryz.func37 (by kernel_rfl) rfl) w0 x.ars y.ars gA gA' gxA gyA gc gc' W' hW' (by omega) (by omega)
      (fun i p q P Q cp cq hp hq hpe hqe W2 hW2 => sameE_any w0 p P hpe q Q cp cq W2 (by have := cnt_mem hp; omega) (by have := cnt_mem hq; omega) hqe hW2)
  rw [same_st, ← kx, ← ky, ← mx, ← my, ← lx, ← ly, ← hx', ← hy', ← int_beq' kd kd', ← bytes_beq' nm nm', ← nat_beq' lo lo', ← nat_beq' hi hi']
  generalize same x.ns y.ns = t5 at h87 ⊢
  generalize same x.e y.e = t6 at h37e ⊢
  generalize same x.a y.a = t7 at h37a ⊢
  generalize same x.ars y.ars = t8 at h93 ⊢
  generalize same x.bd y.bd = t9 at hbd ⊢
  generalize same x.el y.el = t10 at hel ⊢
  clear hcx0 hcy0 l1 l2 l3 l4 hcx hcy nx nxA ex1 ex2 ex3 ex4 exA exu ax1 ax2 ax3 ax4 axA axu gx gxA bx elx ny nyA ey1 ey2 ey3 ey4 eyA eyu ay1 ay2 ay3 ay4 ayA ayu gy gyA by' ely kx ky mx my lx ly hx' hy'
  unfold vlT
  dsimp only
  obtain ⟨W1, hW1⟩ : ∃ W1, W.alloc (.cells #[.int .i64 kd, .string nm, .slice nA nn nc, .int .i64 eo, .int .u64 eu, .string en, .slice eA ek ec, .int .i64 ao, .int .u64 au, .string an, .slice aA ak ac, .slice gA gn gc, .int .u64 lo, .int .u64 hi, .slice bA bn bc, .slice lA ln lc] 50) = W1 := ⟨_, rfl⟩
  obtain ⟨W2, hW2⟩ : ∃ W2, W1.alloc (.cells #[.int .i64 kd', .string nm', .slice nA' nn' nc', .int .i64 eo', .int .u64 eu', .string en', .slice eA' ek' ec', .int .i64 ao', .int .u64 au', .string an', .slice aA' ak' ac', .slice gA' gn' gc', .int .u64 lo', .int .u64 hi', .slice bA' bn' bc', .slice lA' ln' lc'] 50) = W2 := ⟨_, rfl⟩
  have hb1 : Below W.heap.size W W1 := by rw [← hW1]; exact (Below.refl _ W).alloc (Nat.le_refl _) _
  have hb2 : Below W.heap.size W W2 := by rw [← hW2]; exact hb1.alloc hb1.size _
  have hs1 : W1.heap.size = W.heap.size + 1 := by rw [← hW1]; simp
  have hx1 : W1.heap[W.heap.size]? = some (.cells #[.int .i64 kd, .string nm, .slice nA nn nc, .int .i64 eo, .int .u64 eu, .string en, .slice eA ek ec, .int .i64 ao, .int .u64 au, .string an, .slice aA ak ac, .slice gA gn gc, .int .u64 lo, .int .u64 hi, .slice bA bn bc, .slice lA ln lc] 50 (0, 0)) := by rw [← hW1]; exact heap_alloc_new _ _
  have hY : W2.heap[W1.heap.size]? = some (.cells #[.int .i64 kd', .string nm', .slice nA' nn' nc', .int .i64 eo', .int .u64 eu', .string en', .slice eA' ek' ec', .int .i64 ao', .int .u64 au', .string an', .slice aA' ak' ac', .slice gA' gn' gc', .int .u64 lo', .int .u64 hi', .slice bA' bn' bc', .slice lA' ln' lc'] 50 (0, 0)) := by rw [← hW2]; exact heap_alloc_new _ _
  have hX : W2.heap[W.heap.size]? = some (.cells #[.int .i64 kd, .string nm, .slice nA nn nc, .int .i64 eo, .int .u64 eu, .string en, .slice eA ek ec, .int .i64 ao, .int .u64 au, .string an, .slice aA ak ac, .slice gA gn gc, .int .u64 lo, .int .u64 hi, .slice bA bn bc, .slice lA ln lc] 50 (0, 0)) := by rw [← hW2, heap_alloc_old _ _ (by omega)]; exact hx1
  obtain ⟨p0, p1, p2, p3, p4, p5, p6, p7, p8, p9, p10, p11, p12, p13, p14, p15⟩ := box16 hX
  obtain ⟨q0, q1, q2, q3, q4, q5, q6, q7, q8, q9, q10, q11, q12, q13, q14, q15⟩ := box16 hY
  have up : ∀ W', Below W2.heap.size W2 W' → Below w0.heap.size w0 W' := fun W' h => hW.trans ((Below.next hb2 h).mono hW.size)
  have h87 := Lib.hid fun W' (h : Below W2.heap.size W2 W') => h87 W' (up W' h)
  have h37e := Lib.hid fun W' (h : Below W2.heap.size W2 W') => h37e W' (up W' h)
  have h37a := Lib.hid fun W' (h : Below W2.heap.size W2 W') => h37a W' (up W' h)
  have h93 := Lib.hid fun W' (h : Below W2.heap.size W2 W') => h93 W' (up W' h)
  have hbd := Lib.hid fun W' (h : Below W2.heap.size W2 W') => hbd W' (up W' h)
  have hel := Lib.hid fun W' (h : Below W2.heap.size W2 W') => hel W' (up W' h)
  have hbw := Lib.hid (Below.refl W2.heap.size W2)
  have hX := Lib.hid hX
  have hY := Lib.hid hY
  have hb2 := Lib.hid hb2
  clear up hW hb1 hs1 hx1
  obtain ⟨b1, h1⟩ : ∃ b, (kd == kd') = b := ⟨_, rfl⟩
  obtain ⟨b2, h2⟩ : ∃ b, (nm.toList == nm'.toList) = b := ⟨_, rfl⟩
  obtain ⟨b3, h3⟩ : ∃ b, ((lo : Int) == (lo' : Int)) = b := ⟨_, rfl⟩
  obtain ⟨b4, h4⟩ : ∃ b, ((hi : Int) == (hi' : Int)) = b := ⟨_, rfl⟩
  rw [h1, h2, h3, h4]
  cases b1
  · go_enter Tryz.func91, Tryz.ntmps91
    go_wp2
    go_ret
    exact ⟨rfl, Below.next hb2.out hbw.out⟩
  · skip
    cases b2
    · go_enter Tryz.func91, Tryz.ntmps91
      go_wp2
      go_ret
      exact ⟨rfl, Below.next hb2.out hbw.out⟩
    · skip
      cases b3
      · go_enter Tryz.func91, Tryz.ntmps91
        go_wp2
        go_ret
        exact ⟨rfl, Below.next hb2.out hbw.out⟩
      · skip
        cases b4
        · go_enter Tryz.func91, Tryz.ntmps91
          go_wp2
          go_ret
          exact ⟨rfl, Below.next hb2.out hbw.out⟩
        · skip
          go_enter Tryz.func91, Tryz.ntmps91
          go_wp2_with fail
          refine (h87.out _ hbw.out).mono ?_
          rintro e w3 ⟨rfl, hbn⟩
          have hbw := Lib.hid (Below.next hbw.out hbn)
          clear hbn p0 p1 p2 p3 p4 p5 p6 p7 p8 p9 p10 p11 p12 p13 p14 p15 q0 q1 q2 q3 q4 q5 q6 q7 q8 q9 q10 q11 q12 q13 q14 q15
          cases t5
          · go_wp2
            go_ret
            exact ⟨rfl, Below.next hb2.out hbw.out⟩
          · obtain ⟨p0, p1, p2, p3, p4, p5, p6, p7, p8, p9, p10, p11, p12, p13, p14, p15⟩ := box16 ((hbw.out.block _ (blk_lt hX.out)).trans hX.out)
            obtain ⟨q0, q1, q2, q3, q4, q5, q6, q7, q8, q9, q10, q11, q12, q13, q14, q15⟩ := box16 ((hbw.out.block _ (blk_lt hY.out)).trans hY.out)
            go_wp2_with fail
            refine (h37e.out _ hbw.out).mono ?_
            rintro e w4 ⟨rfl, hbn⟩
            have hbw := Lib.hid (Below.next hbw.out hbn)
            clear hbn p0 p1 p2 p3 p4 p5 p6 p7 p8 p9 p10 p11 p12 p13 p14 p15 q0 q1 q2 q3 q4 q5 q6 q7 q8 q9 q10 q11 q12 q13 q14 q15
            cases t6
            · go_wp2
              go_ret
              exact ⟨rfl, Below.next hb2.out hbw.out⟩
            · obtain ⟨p0, p1, p2, p3, p4, p5, p6, p7, p8, p9, p10, p11, p12, p13, p14, p15⟩ := box16 ((hbw.out.block _ (blk_lt hX.out)).trans hX.out)
              obtain ⟨q0, q1, q2, q3, q4, q5, q6, q7, q8, q9, q10, q11, q12, q13, q14, q15⟩ := box16 ((hbw.out.block _ (blk_lt hY.out)).trans hY.out)
              go_wp2_with fail
              refine (h37a.out _ hbw.out).mono ?_
              rintro e w5 ⟨rfl, hbn⟩
              have hbw := Lib.hid (Below.next hbw.out hbn)
              clear hbn p0 p1 p2 p3 p4 p5 p6 p7 p8 p9 p10 p11 p12 p13 p14 p15 q0 q1 q2 q3 q4 q5 q6 q7 q8 q9 q10 q11 q12 q13 q14 q15
              cases t7
              · go_wp2
                go_ret
                exact ⟨rfl, Below.next hb2.out hbw.out⟩
              · obtain ⟨p0, p1, p2, p3, p4, p5, p6, p7, p8, p9, p10, p11, p12, p13, p14, p15⟩ := box16 ((hbw.out.block _ (blk_lt hX.out)).trans hX.out)
                obtain ⟨q0, q1, q2, q3, q4, q5, q6, q7, q8, q9, q10, q11, q12, q13, q14, q15⟩ := box16 ((hbw.out.block _ (blk_lt hY.out)).trans hY.out)
                go_wp2_with fail
                refine (h93.out _ hbw.out).mono ?_
                rintro e w6 ⟨rfl, hbn⟩
                have hbw := Lib.hid (Below.next hbw.out hbn)
                clear hbn p0 p1 p2 p3 p4 p5 p6 p7 p8 p9 p10 p11 p12 p13 p14 p15 q0 q1 q2 q3 q4 q5 q6 q7 q8 q9 q10 q11 q12 q13 q14 q15
                cases t8
                · go_wp2
                  go_ret
                  exact ⟨rfl, Below.next hb2.out hbw.out⟩
                · obtain ⟨p0, p1, p2, p3, p4, p5, p6, p7, p8, p9, p10, p11, p12, p13, p14, p15⟩ := box16 ((hbw.out.block _ (blk_lt hX.out)).trans hX.out)
                  obtain ⟨q0, q1, q2, q3, q4, q5, q6, q7, q8, q9, q10, q11, q12, q13, q14, q15⟩ := box16 ((hbw.out.block _ (blk_lt hY.out)).trans hY.out)
                  go_wp2_with fail
                  refine (hbd.out _ hbw.out).mono ?_
                  rintro e w7 ⟨rfl, hbn⟩
                  have hbw := Lib.hid (Below.next hbw.out hbn)
                  clear hbn p0 p1 p2 p3 p4 p5 p6 p7 p8 p9 p10 p11 p12 p13 p14 p15 q0 q1 q2 q3 q4 q5 q6 q7 q8 q9 q10 q11 q12 q13 q14 q15
                  cases t9
                  · go_wp2
                    go_ret
                    exact ⟨rfl, Below.next hb2.out hbw.out⟩
                  · obtain ⟨p0, p1, p2, p3, p4, p5, p6, p7, p8, p9, p10, p11, p12, p13, p14, p15⟩ := box16 ((hbw.out.block _ (blk_lt hX.out)).trans hX.out)
                    obtain ⟨q0, q1, q2, q3, q4, q5, q6, q7, q8, q9, q10, q11, q12, q13, q14, q15⟩ := box16 ((hbw.out.block _ (blk_lt hY.out)).trans hY.out)
                    go_wp2_with fail
                    refine (hel.out _ hbw.out).mono ?_
                    rintro e w8 ⟨rfl, hbn⟩
                    have hbw := Lib.hid (Below.next hbw.out hbn)
                    clear hbn p0 p1 p2 p3 p4 p5 p6 p7 p8 p9 p10 p11 p12 p13 p14 p15 q0 q1 q2 q3 q4 q5 q6 q7 q8 q9 q10 q11 q12 q13 q14 q15
                    cases t10
                    · go_wp2
                      go_ret
                      exact ⟨rfl, Below.next hb2.out hbw.out⟩
                    · go_wp2
                      go_ret
                      exact ⟨rfl, Below.next hb2.out hbw.out⟩
set_option maxRecDepth 100000 in
set_option maxHeartbeats 4000000 in
theorem equalT_any (g : Nat) (hent : ∀ args w, (callFunc g args).run Tryz.prog w = .ok (.enter g args) w) (w0 : World) (L M : List St) (A B : Option Addr) (hL : StsAt w0 L A) (hM : StsAt w0 M B) (c d : Nat) (W : World) (hW : Below w0.heap.size w0 W) (hn : L.length ≤ 1000000) (hm : M.length ≤ 1000000)
    (hc : ∀ (i : Nat) (x y : St) (r s : StC), L[i]? = some x → M[i]? = some y → SNow w0 x r → SNow w0 y s → StsAt w0 x.bd r.bd.a → StsAt w0 x.el r.el.a → StsAt w0 y.bd s.bd.a → StsAt w0 y.el s.el.a → ∀ (W' : World), Below w0.heap.size w0 W' → Calls Tryz.prog g #[vlT r, vlT s] W' (BoolPost (same x y) W')) :
    Calls Tryz.prog 90 #[.slice A L.length c, .slice B M.length d, .func (.func g) #[] #[]] W (BoolPost (same L M) W) := by
  have hL' := Lib.hid hL
  have hM' := Lib.hid hM
  have hc' := Lib.hid hc
  have hW' := Lib.hid hW
  obtain ⟨n, hnn⟩ : ∃ n, L.length = n := ⟨_, rfl⟩
  obtain ⟨m, hmm⟩ : ∃ m, M.length = m := ⟨_, rfl⟩
  rw [hnn] at hn ⊢
  rw [hmm] at hm ⊢
  have hLn := Lib.hid hnn
  have hMn := Lib.hid hmm
  clear hL hM hc hW hnn hmm
  by_cases hnm : n = m
  · subst hnm
    have e1 : ¬ ¬ ((n : Int) = (n : Int)) := by omega
    go_enter Tryz.func90, Tryz.ntmps90
    go_wp2_with fail
    go_loopg [17] n (fun g s17 wr => ∃ k : Nat, k + g = n ∧ s17 = .int .i64 k ∧ (∀ i : Nat, i < k → L[i]? = M[i]?) ∧ Below W.heap.size W wr)
    case atStart => exact ⟨0, by omega, rfl, fun i h => absurd h (by omega), Below.refl _ _⟩
    case round =>
      obtain ⟨k, hkg, rfl, hall, hbr⟩ := hrel
      have hall' := Lib.hid hall
      have hbr' := Lib.hid hbr
      clear hall hbr
      cases gk with
      | zero =>
        have e0 : ¬ ((k : Int) < (n : Int)) := by omega
        have hs := Lib.hid (show same L M = true from same_true.2 (List.ext_getElem? fun i => by
          by_cases hi : i < k
          · exact hall'.out i hi
          · rw [List.getElem?_eq_none (by have := hLn.out; omega), List.getElem?_eq_none (by have := hMn.out; omega)]))
        go_wp2
        go_ret
        exact ⟨by rw [hs.out]; rfl, hbr'.out⟩
      | succ g2 =>
        have e0 : (k : Int) < (n : Int) := by omega
        have hbw := Lib.hid (hW'.out.trans (hbr'.out.mono hW'.out.size))
        obtain ⟨blk, off, x, r, rfl, hx, hcx, hxe, hxb, hxl⟩ := (hL'.out).at_ (k := k) (by rw [hLn.out]; omega)
        obtain ⟨blk', off', y, s, rfl, hy, hcy, hye, hyb, hyl⟩ := (hM'.out).at_ (k := k) (by rw [hMn.out]; omega)
        obtain ⟨kd, nm, ⟨nA, nn, nc⟩, ⟨eo, eu, en, ⟨eA, ek, ec⟩⟩, ⟨ao, au, an, ⟨aA, ak, ac⟩⟩, ⟨gA, gn, gc⟩, lo, hi, ⟨bA, bn, bc⟩, ⟨lA, ln, lc⟩⟩ := r
        obtain ⟨kd', nm', ⟨nA', nn', nc'⟩, ⟨eo', eu', en', ⟨eA', ek', ec'⟩⟩, ⟨ao', au', an', ⟨aA', ak', ac'⟩⟩, ⟨gA', gn', gc'⟩, lo', hi', ⟨bA', bn', bc'⟩, ⟨lA', ln', lc'⟩⟩ := s
        have v0 : w0.cell? ⟨blk, off + k * 16, none⟩ = some (.int .i64 kd) := hcx 0 (by omega)
        have v0 := (hbw.out.cell (p := ⟨blk, off + k * 16, none⟩) (cell_some_lt v0)).trans v0
        have v1 : w0.cell? ⟨blk, off + k * 16 + 1, none⟩ = some (.string nm) := hcx 1 (by omega)
        have v1 := (hbw.out.cell (p := ⟨blk, off + k * 16 + 1, none⟩) (cell_some_lt v1)).trans v1
        have v2 : w0.cell? ⟨blk, off + k * 16 + 2, none⟩ = some (.slice nA nn nc) := hcx 2 (by omega)
        have v2 := (hbw.out.cell (p := ⟨blk, off + k * 16 + 2, none⟩) (cell_some_lt v2)).trans v2
        have v3 : w0.cell? ⟨blk, off + k * 16 + 3, none⟩ = some (.int .i64 eo) := hcx 3 (by omega)
        have v3 := (hbw.out.cell (p := ⟨blk, off + k * 16 + 3, none⟩) (cell_some_lt v3)).trans v3
        have v4 : w0.cell? ⟨blk, off + k * 16 + 4, none⟩ = some (.int .u64 eu) := hcx 4 (by omega)
        have v4 := (hbw.out.cell (p := ⟨blk, off + k * 16 + 4, none⟩) (cell_some_lt v4)).trans v4
        have v5 : w0.cell? ⟨blk, off + k * 16 + 5, none⟩ = some (.string en) := hcx 5 (by omega)
        have v5 := (hbw.out.cell (p := ⟨blk, off + k * 16 + 5, none⟩) (cell_some_lt v5)).trans v5
        have v6 : w0.cell? ⟨blk, off + k * 16 + 6, none⟩ = some (.slice eA ek ec) := hcx 6 (by omega)
        have v6 := (hbw.out.cell (p := ⟨blk, off + k * 16 + 6, none⟩) (cell_some_lt v6)).trans v6
        have v7 : w0.cell? ⟨blk, off + k * 16 + 7, none⟩ = some (.int .i64 ao) := hcx 7 (by omega)
        have v7 := (hbw.out.cell (p := ⟨blk, off + k * 16 + 7, none⟩) (cell_some_lt v7)).trans v7
        have v8 : w0.cell? ⟨blk, off + k * 16 + 8, none⟩ = some (.int .u64 au) := hcx 8 (by omega)
        have v8 := (hbw.out.cell (p := ⟨blk, off + k * 16 + 8, none⟩) (cell_some_lt v8)).trans v8
        have v9 : w0.cell? ⟨blk, off + k * 16 + 9, none⟩ = some (.string an) := hcx 9 (by omega)
        have v9 := (hbw.out.cell (p := ⟨blk, off + k * 16 + 9, none⟩) (cell_some_lt v9)).trans v9
        have v10 : w0.cell? ⟨blk, off + k * 16 + 10, none⟩ = some (.slice aA ak ac) := hcx 10 (by omega)
        have v10 := (hbw.out.cell (p := ⟨blk, off + k * 16 + 10, none⟩) (cell_some_lt v10)).trans v10
        have v11 : w0.cell? ⟨blk, off + k * 16 + 11, none⟩ = some (.slice gA gn gc) := hcx 11 (by omega)
        have v11 := (hbw.out.cell (p := ⟨blk, off + k * 16 + 11, none⟩) (cell_some_lt v11)).trans v11
        have v12 : w0.cell? ⟨blk, off + k * 16 + 12, none⟩ = some (.int .u64 lo) := hcx 12 (by omega)
        have v12 := (hbw.out.cell (p := ⟨blk, off + k * 16 + 12, none⟩) (cell_some_lt v12)).trans v12
        have v13 : w0.cell? ⟨blk, off + k * 16 + 13, none⟩ = some (.int .u64 hi) := hcx 13 (by omega)
        have v13 := (hbw.out.cell (p := ⟨blk, off + k * 16 + 13, none⟩) (cell_some_lt v13)).trans v13
        have v14 : w0.cell? ⟨blk, off + k * 16 + 14, none⟩ = some (.slice bA bn bc) := hcx 14 (by omega)
        have v14 := (hbw.out.cell (p := ⟨blk, off + k * 16 + 14, none⟩) (cell_some_lt v14)).trans v14
        have v15 : w0.cell? ⟨blk, off + k * 16 + 15, none⟩ = some (.slice lA ln lc) := hcx 15 (by omega)
        have v15 := (hbw.out.cell (p := ⟨blk, off + k * 16 + 15, none⟩) (cell_some_lt v15)).trans v15
        have u0 : w0.cell? ⟨blk', off' + k * 16, none⟩ = some (.int .i64 kd') := hcy 0 (by omega)
        have u1 : w0.cell? ⟨blk', off' + k * 16 + 1, none⟩ = some (.string nm') := hcy 1 (by omega)
        have u2 : w0.cell? ⟨blk', off' + k * 16 + 2, none⟩ = some (.slice nA' nn' nc') := hcy 2 (by omega)
        have u3 : w0.cell? ⟨blk', off' + k * 16 + 3, none⟩ = some (.int .i64 eo') := hcy 3 (by omega)
        have u4 : w0.cell? ⟨blk', off' + k * 16 + 4, none⟩ = some (.int .u64 eu') := hcy 4 (by omega)
        have u5 : w0.cell? ⟨blk', off' + k * 16 + 5, none⟩ = some (.string en') := hcy 5 (by omega)
        have u6 : w0.cell? ⟨blk', off' + k * 16 + 6, none⟩ = some (.slice eA' ek' ec') := hcy 6 (by omega)
        have u7 : w0.cell? ⟨blk', off' + k * 16 + 7, none⟩ = some (.int .i64 ao') := hcy 7 (by omega)
        have u8 : w0.cell? ⟨blk', off' + k * 16 + 8, none⟩ = some (.int .u64 au') := hcy 8 (by omega)
        have u9 : w0.cell? ⟨blk', off' + k * 16 + 9, none⟩ = some (.string an') := hcy 9 (by omega)
        have u10 : w0.cell? ⟨blk', off' + k * 16 + 10, none⟩ = some (.slice aA' ak' ac') := hcy 10 (by omega)
        have u11 : w0.cell? ⟨blk', off' + k * 16 + 11, none⟩ = some (.slice gA' gn' gc') := hcy 11 (by omega)
        have u12 : w0.cell? ⟨blk', off' + k * 16 + 12, none⟩ = some (.int .u64 lo') := hcy 12 (by omega)
        have u13 : w0.cell? ⟨blk', off' + k * 16 + 13, none⟩ = some (.int .u64 hi') := hcy 13 (by omega)
        have u14 : w0.cell? ⟨blk', off' + k * 16 + 14, none⟩ = some (.slice bA' bn' bc') := hcy 14 (by omega)
        have u15 : w0.cell? ⟨blk', off' + k * 16 + 15, none⟩ = some (.slice lA' ln' lc') := hcy 15 (by omega)
        obtain ⟨w1, hw1⟩ : ∃ w1, wr.alloc (.cells #[.int .i64 kd, .string nm, .slice nA nn nc, .int .i64 eo, .int .u64 eu, .string en, .slice eA ek ec, .int .i64 ao, .int .u64 au, .string an, .slice aA ak ac, .slice gA gn gc, .int .u64 lo, .int .u64 hi, .slice bA bn bc, .slice lA ln lc] 50) = w1 := ⟨_, rfl⟩
        obtain ⟨wB, hwB⟩ : ∃ wB, w1.alloc (.cells #[.int .i64 kd', .string nm', .slice nA' nn' nc', .int .i64 eo', .int .u64 eu', .string en', .slice eA' ek' ec', .int .i64 ao', .int .u64 au', .string an', .slice aA' ak' ac', .slice gA' gn' gc', .int .u64 lo', .int .u64 hi', .slice bA' bn' bc', .slice lA' ln' lc'] 50) = wB := ⟨_, rfl⟩
        have hbA := hbr'.out.alloc hbr'.out.size (.cells #[.int .i64 kd, .string nm, .slice nA nn nc, .int .i64 eo, .int .u64 eu, .string en, .slice eA ek ec, .int .i64 ao, .int .u64 au, .string an, .slice aA ak ac, .slice gA gn gc, .int .u64 lo, .int .u64 hi, .slice bA bn bc, .slice lA ln lc] 50)
        rw [hw1] at hbA
        have hbB := hbA.alloc hbA.size (.cells #[.int .i64 kd', .string nm', .slice nA' nn' nc', .int .i64 eo', .int .u64 eu', .string en', .slice eA' ek' ec', .int .i64 ao', .int .u64 au', .string an', .slice aA' ak' ac', .slice gA' gn' gc', .int .u64 lo', .int .u64 hi', .slice bA' bn' bc', .slice lA' ln' lc'] 50)
        rw [hwB] at hbB
        have hbB := Lib.hid hbB
        have hs1 : w1.heap.size = wr.heap.size + 1 := by rw [← hw1]; simp
        have hx1 : w1.heap[wr.heap.size]? = some (.cells #[.int .i64 kd, .string nm, .slice nA nn nc, .int .i64 eo, .int .u64 eu, .string en, .slice eA ek ec, .int .i64 ao, .int .u64 au, .string an, .slice aA ak ac, .slice gA gn gc, .int .u64 lo, .int .u64 hi, .slice bA bn bc, .slice lA ln lc] 50 (0, 0)) := by rw [← hw1]; exact heap_alloc_new _ _
        have hy1 : wB.heap[w1.heap.size]? = some (.cells #[.int .i64 kd', .string nm', .slice nA' nn' nc', .int .i64 eo', .int .u64 eu', .string en', .slice eA' ek' ec', .int .i64 ao', .int .u64 au', .string an', .slice aA' ak' ac', .slice gA' gn' gc', .int .u64 lo', .int .u64 hi', .slice bA' bn' bc', .slice lA' ln' lc'] 50 (0, 0)) := by rw [← hwB]; exact heap_alloc_new _ _
        have hx2 : wB.heap[wr.heap.size]? = some (.cells #[.int .i64 kd, .string nm, .slice nA nn nc, .int .i64 eo, .int .u64 eu, .string en, .slice eA ek ec, .int .i64 ao, .int .u64 au, .string an, .slice aA ak ac, .slice gA gn gc, .int .u64 lo, .int .u64 hi, .slice bA bn bc, .slice lA ln lc] 50 (0, 0)) := by rw [← hwB, heap_alloc_old _ _ (by omega)]; exact hx1
        have p0 : wB.cell? ⟨wr.heap.size, 0, none⟩ = some (.int .i64 kd) := by rw [blk_cell hx2]; rfl
        have p1 : wB.cell? ⟨wr.heap.size, 1, none⟩ = some (.string nm) := by rw [blk_cell hx2]; rfl
        have p2 : wB.cell? ⟨wr.heap.size, 2, none⟩ = some (.slice nA nn nc) := by rw [blk_cell hx2]; rfl
        have p3 : wB.cell? ⟨wr.heap.size, 3, none⟩ = some (.int .i64 eo) := by rw [blk_cell hx2]; rfl
        have p4 : wB.cell? ⟨wr.heap.size, 4, none⟩ = some (.int .u64 eu) := by rw [blk_cell hx2]; rfl
        have p5 : wB.cell? ⟨wr.heap.size, 5, none⟩ = some (.string en) := by rw [blk_cell hx2]; rfl
        have p6 : wB.cell? ⟨wr.heap.size, 6, none⟩ = some (.slice eA ek ec) := by rw [blk_cell hx2]; rfl
        have p7 : wB.cell? ⟨wr.heap.size, 7, none⟩ = some (.int .i64 ao) := by rw [blk_cell hx2]; rfl
        have p8 : wB.cell? ⟨wr.heap.size, 8, none⟩ = some (.int .u64 au) := by rw [blk_cell hx2]; rfl
        have p9 : wB.cell? ⟨wr.heap.size, 9, none⟩ = some (.string an) := by rw [blk_cell hx2]; rfl
        have p10 : wB.cell? ⟨wr.heap.size, 10, none⟩ = some (.slice aA ak ac) := by rw [blk_cell hx2]; rfl
        have p11 : wB.cell? ⟨wr.heap.size, 11, none⟩ = some (.slice gA gn gc) := by rw [blk_cell hx2]; rfl
        have p12 : wB.cell? ⟨wr.heap.size, 12, none⟩ = some (.int .u64 lo) := by rw [blk_cell hx2]; rfl
        have p13 : wB.cell? ⟨wr.heap.size, 13, none⟩ = some (.int .u64 hi) := by rw [blk_cell hx2]; rfl
        have p14 : wB.cell? ⟨wr.heap.size, 14, none⟩ = some (.slice bA bn bc) := by rw [blk_cell hx2]; rfl
        have p15 : wB.cell? ⟨wr.heap.size, 15, none⟩ = some (.slice lA ln lc) := by rw [blk_cell hx2]; rfl
        have q0 : wB.cell? ⟨w1.heap.size, 0, none⟩ = some (.int .i64 kd') := by rw [blk_cell hy1]; rfl
        have q1 : wB.cell? ⟨w1.heap.size, 1, none⟩ = some (.string nm') := by rw [blk_cell hy1]; rfl
        have q2 : wB.cell? ⟨w1.heap.size, 2, none⟩ = some (.slice nA' nn' nc') := by rw [blk_cell hy1]; rfl
        have q3 : wB.cell? ⟨w1.heap.size, 3, none⟩ = some (.int .i64 eo') := by rw [blk_cell hy1]; rfl
        have q4 : wB.cell? ⟨w1.heap.size, 4, none⟩ = some (.int .u64 eu') := by rw [blk_cell hy1]; rfl
        have q5 : wB.cell? ⟨w1.heap.size, 5, none⟩ = some (.string en') := by rw [blk_cell hy1]; rfl
        have q6 : wB.cell? ⟨w1.heap.size, 6, none⟩ = some (.slice eA' ek' ec') := by rw [blk_cell hy1]; rfl
        have q7 : wB.cell? ⟨w1.heap.size, 7, none⟩ = some (.int .i64 ao') := by rw [blk_cell hy1]; rfl
        have q8 : wB.cell? ⟨w1.heap.size, 8, none⟩ = some (.int .u64 au') := by rw [blk_cell hy1]; rfl
        have q9 : wB.cell? ⟨w1.heap.size, 9, none⟩ = some (.string an') := by rw [blk_cell hy1]; rfl
        have q10 : wB.cell? ⟨w1.heap.size, 10, none⟩ = some (.slice aA' ak' ac') := by rw [blk_cell hy1]; rfl
        have q11 : wB.cell? ⟨w1.heap.size, 11, none⟩ = some (.slice gA' gn' gc') := by rw [blk_cell hy1]; rfl
        have q12 : wB.cell? ⟨w1.heap.size, 12, none⟩ = some (.int .u64 lo') := by rw [blk_cell hy1]; rfl
        have q13 : wB.cell? ⟨w1.heap.size, 13, none⟩ = some (.int .u64 hi') := by rw [blk_cell hy1]; rfl
        have q14 : wB.cell? ⟨w1.heap.size, 14, none⟩ = some (.slice bA' bn' bc') := by rw [blk_cell hy1]; rfl
        have q15 : wB.cell? ⟨w1.heap.size, 15, none⟩ = some (.slice lA' ln' lc') := by rw [blk_cell hy1]; rfl
        have u0 : w1.cell? ⟨blk', off' + k * 16, none⟩ = _ := ((hW'.out.trans (hbA.mono hW'.out.size)).cell (p := ⟨blk', off' + k * 16, none⟩) (cell_some_lt u0)).trans u0
        have u1 : w1.cell? ⟨blk', off' + k * 16 + 1, none⟩ = _ := ((hW'.out.trans (hbA.mono hW'.out.size)).cell (p := ⟨blk', off' + k * 16 + 1, none⟩) (cell_some_lt u1)).trans u1
        have u2 : w1.cell? ⟨blk', off' + k * 16 + 2, none⟩ = _ := ((hW'.out.trans (hbA.mono hW'.out.size)).cell (p := ⟨blk', off' + k * 16 + 2, none⟩) (cell_some_lt u2)).trans u2
        have u3 : w1.cell? ⟨blk', off' + k * 16 + 3, none⟩ = _ := ((hW'.out.trans (hbA.mono hW'.out.size)).cell (p := ⟨blk', off' + k * 16 + 3, none⟩) (cell_some_lt u3)).trans u3
        have u4 : w1.cell? ⟨blk', off' + k * 16 + 4, none⟩ = _ := ((hW'.out.trans (hbA.mono hW'.out.size)).cell (p := ⟨blk', off' + k * 16 + 4, none⟩) (cell_some_lt u4)).trans u4
        have u5 : w1.cell? ⟨blk', off' + k * 16 + 5, none⟩ = _ := ((hW'.out.trans (hbA.mono hW'.out.size)).cell (p := ⟨blk', off' + k * 16 + 5, none⟩) (cell_some_lt u5)).trans u5
        have u6 : w1.cell? ⟨blk', off' + k * 16 + 6, none⟩ = _ := ((hW'.out.trans (hbA.mono hW'.out.size)).cell (p := ⟨blk', off' + k * 16 + 6, none⟩) (cell_some_lt u6)).trans u6
        have u7 : w1.cell? ⟨blk', off' + k * 16 + 7, none⟩ = _ := ((hW'.out.trans (hbA.mono hW'.out.size)).cell (p := ⟨blk', off' + k * 16 + 7, none⟩) (cell_some_lt u7)).trans u7
        have u8 : w1.cell? ⟨blk', off' + k * 16 + 8, none⟩ = _ := ((hW'.out.trans (hbA.mono hW'.out.size)).cell (p := ⟨blk', off' + k * 16 + 8, none⟩) (cell_some_lt u8)).trans u8
        have u9 : w1.cell? ⟨blk', off' + k * 16 + 9, none⟩ = _ := ((hW'.out.trans (hbA.mono hW'.out.size)).cell (p := ⟨blk', off' + k * 16 + 9, none⟩) (cell_some_lt u9)).trans u9
        have u10 : w1.cell? ⟨blk', off' + k * 16 + 10, none⟩ = _ := ((hW'.out.trans (hbA.mono hW'.out.size)).cell (p := ⟨blk', off' + k * 16 + 10, none⟩) (cell_some_lt u10)).trans u10
        have u11 : w1.cell? ⟨blk', off' + k * 16 + 11, none⟩ = _ := ((hW'.out.trans (hbA.mono hW'.out.size)).cell (p := ⟨blk', off' + k * 16 + 11, none⟩) (cell_some_lt u11)).trans u11
        have u12 : w1.cell? ⟨blk', off' + k * 16 + 12, none⟩ = _ := ((hW'.out.trans (hbA.mono hW'.out.size)).cell (p := ⟨blk', off' + k * 16 + 12, none⟩) (cell_some_lt u12)).trans u12
        have u13 : w1.cell? ⟨blk', off' + k * 16 + 13, none⟩ = _ := ((hW'.out.trans (hbA.mono hW'.out.size)).cell (p := ⟨blk', off' + k * 16 + 13, none⟩) (cell_some_lt u13)).trans u13
        have u14 : w1.cell? ⟨blk', off' + k * 16 + 14, none⟩ = _ := ((hW'.out.trans (hbA.mono hW'.out.size)).cell (p := ⟨blk', off' + k * 16 + 14, none⟩) (cell_some_lt u14)).trans u14
        have u15 : w1.cell? ⟨blk', off' + k * 16 + 15, none⟩ = _ := ((hW'.out.trans (hbA.mono hW'.out.size)).cell (p := ⟨blk', off' + k * 16 + 15, none⟩) (cell_some_lt u15)).trans u15
        have hk2 := hc'.out k x y (⟨kd, nm, ⟨nA, nn, nc⟩, ⟨eo, eu, en, ⟨eA, ek, ec⟩⟩, ⟨ao, au, an, ⟨aA, ak, ac⟩⟩, ⟨gA, gn, gc⟩, lo, hi, ⟨bA, bn, bc⟩, ⟨lA, ln, lc⟩⟩ : StC) (⟨kd', nm', ⟨nA', nn', nc'⟩, ⟨eo', eu', en', ⟨eA', ek', ec'⟩⟩, ⟨ao', au', an', ⟨aA', ak', ac'⟩⟩, ⟨gA', gn', gc'⟩, lo', hi', ⟨bA', bn', bc'⟩, ⟨lA', ln', lc'⟩⟩ : StC) hx hy hxe hye hxb hxl hyb hyl wB (hW'.out.trans (hbB.out.mono hW'.out.size))
        obtain ⟨t, ht⟩ : ∃ t, same x y = t := ⟨_, rfl⟩
        rw [ht] at hk2
        unfold vlT at hk2
        dsimp only at hk2
        have hk2 := Lib.hid hk2
        have hx' := Lib.hid hx
        have hy' := Lib.hid hy
        have ht' := Lib.hid ht
        clear hs1 hx1 hx2 hy1 ht hx hy hbA hxe hye hxb hxl hyb hyl hcx hcy
        go_upto_region 6 with fail
        as_aux_lemma =>
          go_upto_region 7 with fail
          as_aux_lemma =>
            go_wp2_with fail
            refine hk2.out.mono ?_
            rintro e w2 ⟨rfl, hb2⟩
            have hb2' := Lib.hid (Below.next hbB.out hb2)
            clear hb2
            cases t
            · have hs := Lib.hid (show same L M = false from same_false.2 (by
                rintro rfl
                have h := hx'.out.symm.trans hy'.out
                injection h with h
                exact same_false.1 ht'.out h))
              go_wp2
              go_ret
              exact ⟨by rw [hs.out]; rfl, hb2'.out⟩
            · have hxy := Lib.hid (same_true.1 ht'.out)
              go_wp2
              go_roundg g2
              case measure => omega
              case rel => exact ⟨k + 1, by omega, by go_num, fun i hi => by
                  rcases Nat.lt_or_ge i k with h | h
                  · exact hall'.out i h
                  · obtain rfl : i = k := by omega
                    rw [hx'.out, hy'.out, hxy.out], hb2'.out⟩
  · have e1 : ¬ ((n : Int) = (m : Int)) := by omega
    have hs := Lib.hid (show same L M = false from same_false.2 (by
      rintro rfl
      exact hnm (hLn.out.symm.trans hMn.out)))
    go_enter Tryz.func90, Tryz.ntmps90
    go_wp2
    go_ret
    exact ⟨by rw [hs.out]; rfl, Below.refl _ _⟩

set_option maxRecDepth 100000 in
set_option maxHeartbeats 4000000 in
theorem sameSts_any (w0 : World) (L : List St) (A : Option Addr) (h : StsAt w0 L A) : ∀ (M : List St) (B : Option Addr) (c d : Nat) (W : World), cntSs L ≤ 1000000 → cntSs M ≤ 1000000 → StsAt w0 M B → Below w0.heap.size w0 W →
    Calls Tryz.prog 35 #[.slice A L.length c, .slice B M.length d] W (BoolPost (same L M) W) := by
  refine StsAt.all (M := fun L A => ∀ (M : List St) (B : Option Addr) (c d : Nat) (W : World), cntSs L ≤ 1000000 → cntSs M ≤ 1000000 → StsAt w0 M B → Below w0.heap.size w0 W → Calls Tryz.prog 35 #[.slice A L.length c, .slice B M.length d] W (BoolPost (same L M) W)) ?_ L A h
  intro L A hL ih M B c d W hcL hcM hM hW
  have l1 := len_cntSs L
  have l2 := len_cntSs M
  have h90 := Lib.hid (equalT_any 91 (enters_of Tryz.func91 (by kernel_rfl) rfl) w0 L M A B hL hM c d W hW (by omega) (by omega) (fun i x y r s hx hy hxr hys hxb hxl hyb hyl W' hW' => by
    have c1 := cntS_mem hx
    have c2 := cntS_mem hy
    have c3 := cntS_bd x
    have c4 := cntS_bd y
    exact sameSt_any w0 x y r s hxr hys W' hW' (by omega) (by omega) (fun W2 hW2 => (ih i x _ hx).1 hxb y.bd _ _ _ W2 (by omega) (by omega) hyb hW2) (fun W2 hW2 => (ih i x _ hx).2 hxl y.el _ _ _ W2 (by omega) (by omega) hyl hW2)))
  obtain ⟨t, ht⟩ : ∃ t, same L M = t := ⟨_, rfl⟩
  rw [ht] at h90 ⊢
  obtain ⟨n, hn⟩ : ∃ n, L.length = n := ⟨_, rfl⟩
  obtain ⟨m, hm⟩ : ∃ m, M.length = m := ⟨_, rfl⟩
  rw [hn, hm] at h90 ⊢
  clear ih hM hL hW ht hn hm
  go_enter Tryz.func35, Tryz.ntmps35
  go_wp2_with fail
  refine h90.out.mono ?_
  rintro e w1 ⟨rfl, hb⟩
  have hb := Lib.hid hb
  go_wp2
  go_ret
  exact ⟨rfl, hb.out⟩
end Go.Proofs.YtnahgfdoiflacaaGreatDoor
namespace Go.Proofs.YtnahgfdoiflacaaGreatDoor
open Go.RowKit Go.Lib Go.Shelf

theorem same_fn (x y : Fn) : same x y = (same x.nm y.nm && (same x.ps y.ps && (same x.vs y.vs && (same x.rs y.rs && same x.bd y.bd)))) := by
  rw [← same_and (x := (x.rs, x.bd)) (y := (y.rs, y.bd)) (by simp), ← same_and (x := (x.vs, x.rs, x.bd)) (y := (y.vs, y.rs, y.bd)) (by simp), ← same_and (x := (x.ps, x.vs, x.rs, x.bd)) (y := (y.ps, y.vs, y.rs, y.bd)) (by simp)]
  refine same_and ?_
  cases x; cases y
  simp only [Fn.mk.injEq, Prod.mk.injEq]
theorem same_pg (x y : Pg) : same x y = (same x.rs y.rs && same x.fs y.fs) := by
  refine same_and ?_
  cases x; cases y
  simp only [Pg.mk.injEq]
theorem len_cntV : ∀ es : List VarC, es.length ≤ cntV es
  | [] => Nat.zero_le _
  | e :: es => by
    have := len_cntV es
    rw [List.length_cons, cntV]
    omega
theorem len_cntR : ∀ es : List RegC, es.length ≤ cntR es
  | [] => Nat.zero_le _
  | e :: es => by
    have := len_cntR es
    rw [List.length_cons, cntR]
    omega
theorem len_cntFs : ∀ es : List Fn, es.length ≤ cntFs es
  | [] => Nat.zero_le _
  | e :: es => by
    have := len_cntFs es
    rw [List.length_cons, cntFs, cntF]
    omega
theorem cntFs_mono {es : List Fn} : ∀ k, cntFs (es.take k) ≤ cntFs es := by
  induction es with
  | nil => intro k; simp [cntFs]
  | cons e es ih =>
    intro k
    cases k with
    | zero => simp [cntFs]
    | succ k => rw [List.take_succ_cons, cntFs, cntFs]; have := ih k; omega
theorem cntF_mem {es : List Fn} {x : Fn} {i : Nat} (h : es[i]? = some x) : cntF x ≤ cntFs es := by
  have h1 := cntFs_take i h
  have h2 := cntFs_mono (es := es) (i + 1)
  omega

set_option maxRecDepth 100000 in
set_option maxHeartbeats 16000000 in
theorem sameFn_any (w0 : World) (x y : Fn) (r s : FnC) (hx : FNow w0 x r) (hy : FNow w0 y s) (W : World) (hW : Below w0.heap.size w0 W) (hcx : cntF x ≤ 1000000) (hcy : cntF y ≤ 1000000) :
    Calls Tryz.prog 85 #[vlF r, vlF s] W (BoolPost (same x y) W) := by
  have l1 := len_cntV x.ps
  have l2 := len_cntV y.ps
  have l3 := len_cntV x.vs
  have l4 := len_cntV y.vs
  have l5 := len_cntN x.rs
  have l6 := len_cntN y.rs
  unfold cntF at hcx hcy
  obtain ⟨nm, ⟨pA, pn, pc⟩, ⟨vA, vn, vc⟩, ⟨rA, rn, rc⟩, ⟨bA, bn, bc⟩⟩ := r
  obtain ⟨nm', ⟨pA', pn', pc'⟩, ⟨vA', vn', vc'⟩, ⟨rA', rn', rc'⟩, ⟨bA', bn', bc'⟩⟩ := s
  obtain ⟨kx, px, pxA, vx, vxA, rx, rxA, bx, bxA, _, _⟩ := hx
  obtain ⟨ky, py, pyA, vy, vyA, ry, ryA, by', byA, _, _⟩ := hy
  dsimp only at kx px pxA vx vxA rx rxA bx bxA ky py pyA vy vyA ry ryA by' byA
  have h86p : ∀ (W' : World), Below w0.heap.size w0 W' → Calls Tryz.prog 86 #[.slice pA pn pc, .slice pA' pn' pc'] W' (BoolPost (same x.ps y.ps) W') := fun W' hW' => by
    rw [px, py]
    exact eqV_any w0 x.ps y.ps pA pA' pxA pyA pc pc' W' hW' (by omega) (by omega)
  have h86v : ∀ (W' : World), Below w0.heap.size w0 W' → Calls Tryz.prog 86 #[.slice vA vn vc, .slice vA' vn' vc'] W' (BoolPost (same x.vs y.vs) W') := fun W' hW' => by
    rw [vx, vy]
    exact eqV_any w0 x.vs y.vs vA vA' vxA vyA vc vc' W' hW' (by omega) (by omega)
  have h87 : ∀ (W' : World), Below w0.heap.size w0 W' → Calls Tryz.prog 87 #[.slice rA rn rc, .slice rA' rn' rc'] W' (BoolPost (same x.rs y.rs) W') := fun W' hW' => by
    rw [rx, ry]
    exact eqS_any w0 x.rs y.rs rA rA' rxA ryA rc rc' W' hW' (by omega) (by omega)
  have h35 : ∀ (W' : World), Below w0.heap.size w0 W' → Calls Tryz.prog 35 #[.slice bA bn bc, .slice bA' bn' bc'] W' (BoolPost (same x.bd y.bd) W') := fun W' hW' => by
    rw [bx, by']
    exact sameSts_any w0 x.bd bA bxA y.bd bA' bc bc' W' (by omega) (by omega) byA hW'
  rw [same_fn, ← kx, ← ky, ← bytes_beq' nm nm']
  generalize same x.ps y.ps = t5 at h86p ⊢
  generalize same x.vs y.vs = t6 at h86v ⊢
  generalize same x.rs y.rs = t7 at h87 ⊢
  generalize same x.bd y.bd = t8 at h35 ⊢
  clear hcx hcy l1 l2 l3 l4 l5 l6 px pxA vx vxA rx rxA bx bxA ky kx py pyA vy vyA ry ryA by' byA
  unfold vlF
  dsimp only
  obtain ⟨W1, hW1⟩ : ∃ W1, W.alloc (.cells #[.string nm, .slice pA pn pc, .slice vA vn vc, .slice rA rn rc, .slice bA bn bc] 54) = W1 := ⟨_, rfl⟩
  obtain ⟨W2, hW2⟩ : ∃ W2, W1.alloc (.cells #[.string nm', .slice pA' pn' pc', .slice vA' vn' vc', .slice rA' rn' rc', .slice bA' bn' bc'] 54) = W2 := ⟨_, rfl⟩
  have hb1 : Below W.heap.size W W1 := by rw [← hW1]; exact (Below.refl _ W).alloc (Nat.le_refl _) _
  have hb2 : Below W.heap.size W W2 := by rw [← hW2]; exact hb1.alloc hb1.size _
  have hs1 : W1.heap.size = W.heap.size + 1 := by rw [← hW1]; simp
  have hx1 : W1.heap[W.heap.size]? = some (.cells #[.string nm, .slice pA pn pc, .slice vA vn vc, .slice rA rn rc, .slice bA bn bc] 54 (0, 0)) := by rw [← hW1]; exact heap_alloc_new _ _
  have hY : W2.heap[W1.heap.size]? = some (.cells #[.string nm', .slice pA' pn' pc', .slice vA' vn' vc', .slice rA' rn' rc', .slice bA' bn' bc'] 54 (0, 0)) := by rw [← hW2]; exact heap_alloc_new _ _
  have hX : W2.heap[W.heap.size]? = some (.cells #[.string nm, .slice pA pn pc, .slice vA vn vc, .slice rA rn rc, .slice bA bn bc] 54 (0, 0)) := by rw [← hW2, heap_alloc_old _ _ (by omega)]; exact hx1
  obtain ⟨p0, p1, p2, p3, p4⟩ := box5 hX
  obtain ⟨q0, q1, q2, q3, q4⟩ := box5 hY
  have up : ∀ W', Below W2.heap.size W2 W' → Below w0.heap.size w0 W' := fun W' h => hW.trans ((Below.next hb2 h).mono hW.size)
  have h86p := Lib.hid fun W' (h : Below W2.heap.size W2 W') => h86p W' (up W' h)
  have h86v := Lib.hid fun W' (h : Below W2.heap.size W2 W') => h86v W' (up W' h)
  have h87 := Lib.hid fun W' (h : Below W2.heap.size W2 W') => h87 W' (up W' h)
  have h35 := Lib.hid fun W' (h : Below W2.heap.size W2 W') => h35 W' (up W' h)
  have hbw := Lib.hid (Below.refl W2.heap.size W2)
  have hX := Lib.hid hX
  have hY := Lib.hid hY
  have hb2 := Lib.hid hb2
  clear up hW hb1 hs1 hx1
  obtain ⟨b1, h1⟩ : ∃ b, (nm.toList == nm'.toList) = b := ⟨_, rfl⟩
  rw [h1]
  cases b1
  · go_enter Tryz.func85, Tryz.ntmps85
    go_wp2
    go_ret
    exact ⟨rfl, Below.next hb2.out hbw.out⟩
  · skip
    go_enter Tryz.func85, Tryz.ntmps85
    go_wp2_with fail
    refine (h86p.out _ hbw.out).mono ?_
    rintro e w3 ⟨rfl, hbn⟩
    have hbw := Lib.hid (Below.next hbw.out hbn)
    clear hbn p0 p1 p2 p3 p4 q0 q1 q2 q3 q4
    cases t5
    · go_wp2
      go_ret
      exact ⟨rfl, Below.next hb2.out hbw.out⟩
    · obtain ⟨p0, p1, p2, p3, p4⟩ := box5 ((hbw.out.block _ (blk_lt hX.out)).trans hX.out)
      obtain ⟨q0, q1, q2, q3, q4⟩ := box5 ((hbw.out.block _ (blk_lt hY.out)).trans hY.out)
      go_wp2_with fail
      refine (h86v.out _ hbw.out).mono ?_
      rintro e w4 ⟨rfl, hbn⟩
      have hbw := Lib.hid (Below.next hbw.out hbn)
      clear hbn p0 p1 p2 p3 p4 q0 q1 q2 q3 q4
      cases t6
      · go_wp2
        go_ret
        exact ⟨rfl, Below.next hb2.out hbw.out⟩
      · obtain ⟨p0, p1, p2, p3, p4⟩ := box5 ((hbw.out.block _ (blk_lt hX.out)).trans hX.out)
        obtain ⟨q0, q1, q2, q3, q4⟩ := box5 ((hbw.out.block _ (blk_lt hY.out)).trans hY.out)
        go_wp2_with fail
        refine (h87.out _ hbw.out).mono ?_
        rintro e w5 ⟨rfl, hbn⟩
        have hbw := Lib.hid (Below.next hbw.out hbn)
        clear hbn p0 p1 p2 p3 p4 q0 q1 q2 q3 q4
        cases t7
        · go_wp2
          go_ret
          exact ⟨rfl, Below.next hb2.out hbw.out⟩
        · obtain ⟨p0, p1, p2, p3, p4⟩ := box5 ((hbw.out.block _ (blk_lt hX.out)).trans hX.out)
          obtain ⟨q0, q1, q2, q3, q4⟩ := box5 ((hbw.out.block _ (blk_lt hY.out)).trans hY.out)
          go_wp2_with fail
          refine (h35.out _ hbw.out).mono ?_
          rintro e w6 ⟨rfl, hbn⟩
          have hbw := Lib.hid (Below.next hbw.out hbn)
          clear hbn p0 p1 p2 p3 p4 q0 q1 q2 q3 q4
          cases t8
          · go_wp2
            go_ret
            exact ⟨rfl, Below.next hb2.out hbw.out⟩
          · go_wp2
            go_ret
            exact ⟨rfl, Below.next hb2.out hbw.out⟩
set_option maxRecDepth 100000 in
set_option maxHeartbeats 4000000 in
theorem equalF_any (g : Nat) (hent : ∀ args w, (callFunc g args).run Tryz.prog w = .ok (.enter g args) w) (w0 : World) (L M : List Fn) (A B : Option Addr) (hL : FnsAt w0 L A) (hM : FnsAt w0 M B) (c d : Nat) (W : World) (hW : Below w0.heap.size w0 W) (hn : L.length ≤ 1000000) (hm : M.length ≤ 1000000)
    (hc : ∀ (i : Nat) (x y : Fn) (r s : FnC), L[i]? = some x → M[i]? = some y → FNow w0 x r → FNow w0 y s → ∀ (W' : World), Below w0.heap.size w0 W' → Calls Tryz.prog g #[vlF r, vlF s] W' (BoolPost (same x y) W')) :
    Calls Tryz.prog 89 #[.slice A L.length c, .slice B M.length d, .func (.func g) #[] #[]] W (BoolPost (same L M) W) := by
  have hL' := Lib.hid hL
  have hM' := Lib.hid hM
  have hc' := Lib.hid hc
  have hW' := Lib.hid hW
  obtain ⟨n, hnn⟩ : ∃ n, L.length = n := ⟨_, rfl⟩
  obtain ⟨m, hmm⟩ : ∃ m, M.length = m := ⟨_, rfl⟩
  rw [hnn] at hn ⊢
  rw [hmm] at hm ⊢
  have hLn := Lib.hid hnn
  have hMn := Lib.hid hmm
  clear hL hM hc hW hnn hmm
  by_cases hnm : n = m
  · subst hnm
    have e1 : ¬ ¬ ((n : Int) = (n : Int)) := by omega
    go_enter Tryz.func89, Tryz.ntmps89
    go_wp2_with fail
    go_loopg [17] n (fun g s17 wr => ∃ k : Nat, k + g = n ∧ s17 = .int .i64 k ∧ (∀ i : Nat, i < k → L[i]? = M[i]?) ∧ Below W.heap.size W wr)
    case atStart => exact ⟨0, by omega, rfl, fun i h => absurd h (by omega), Below.refl _ _⟩
    case round =>
      obtain ⟨k, hkg, rfl, hall, hbr⟩ := hrel
      have hall' := Lib.hid hall
      have hbr' := Lib.hid hbr
      clear hall hbr
      cases gk with
      | zero =>
        have e0 : ¬ ((k : Int) < (n : Int)) := by omega
        have hs := Lib.hid (show same L M = true from same_true.2 (List.ext_getElem? fun i => by
          by_cases hi : i < k
          · exact hall'.out i hi
          · rw [List.getElem?_eq_none (by have := hLn.out; omega), List.getElem?_eq_none (by have := hMn.out; omega)]))
        go_wp2
        go_ret
        exact ⟨by rw [hs.out]; rfl, hbr'.out⟩
      | succ g2 =>
        have e0 : (k : Int) < (n : Int) := by omega
        have hbw := Lib.hid (hW'.out.trans (hbr'.out.mono hW'.out.size))
        obtain ⟨blk, off, x, r, rfl, hx, hcx, hxe⟩ := (hL'.out).at_ (k := k) (by rw [hLn.out]; omega)
        obtain ⟨blk', off', y, s, rfl, hy, hcy, hye⟩ := (hM'.out).at_ (k := k) (by rw [hMn.out]; omega)
        obtain ⟨nm, ⟨pA, pn, pc⟩, ⟨vA, vn, vc⟩, ⟨rA, rn, rc⟩, ⟨bA, bn, bc⟩⟩ := r
        obtain ⟨nm', ⟨pA', pn', pc'⟩, ⟨vA', vn', vc'⟩, ⟨rA', rn', rc'⟩, ⟨bA', bn', bc'⟩⟩ := s
        have v0 : w0.cell? ⟨blk, off + k * 5, none⟩ = some (.string nm) := hcx 0 (by omega)
        have v0 := (hbw.out.cell (p := ⟨blk, off + k * 5, none⟩) (cell_some_lt v0)).trans v0
        have v1 : w0.cell? ⟨blk, off + k * 5 + 1, none⟩ = some (.slice pA pn pc) := hcx 1 (by omega)
        have v1 := (hbw.out.cell (p := ⟨blk, off + k * 5 + 1, none⟩) (cell_some_lt v1)).trans v1
        have v2 : w0.cell? ⟨blk, off + k * 5 + 2, none⟩ = some (.slice vA vn vc) := hcx 2 (by omega)
        have v2 := (hbw.out.cell (p := ⟨blk, off + k * 5 + 2, none⟩) (cell_some_lt v2)).trans v2
        have v3 : w0.cell? ⟨blk, off + k * 5 + 3, none⟩ = some (.slice rA rn rc) := hcx 3 (by omega)
        have v3 := (hbw.out.cell (p := ⟨blk, off + k * 5 + 3, none⟩) (cell_some_lt v3)).trans v3
        have v4 : w0.cell? ⟨blk, off + k * 5 + 4, none⟩ = some (.slice bA bn bc) := hcx 4 (by omega)
        have v4 := (hbw.out.cell (p := ⟨blk, off + k * 5 + 4, none⟩) (cell_some_lt v4)).trans v4
        have u0 : w0.cell? ⟨blk', off' + k * 5, none⟩ = some (.string nm') := hcy 0 (by omega)
        have u1 : w0.cell? ⟨blk', off' + k * 5 + 1, none⟩ = some (.slice pA' pn' pc') := hcy 1 (by omega)
        have u2 : w0.cell? ⟨blk', off' + k * 5 + 2, none⟩ = some (.slice vA' vn' vc') := hcy 2 (by omega)
        have u3 : w0.cell? ⟨blk', off' + k * 5 + 3, none⟩ = some (.slice rA' rn' rc') := hcy 3 (by omega)
        have u4 : w0.cell? ⟨blk', off' + k * 5 + 4, none⟩ = some (.slice bA' bn' bc') := hcy 4 (by omega)
        obtain ⟨w1, hw1⟩ : ∃ w1, wr.alloc (.cells #[.string nm, .slice pA pn pc, .slice vA vn vc, .slice rA rn rc, .slice bA bn bc] 54) = w1 := ⟨_, rfl⟩
        obtain ⟨wB, hwB⟩ : ∃ wB, w1.alloc (.cells #[.string nm', .slice pA' pn' pc', .slice vA' vn' vc', .slice rA' rn' rc', .slice bA' bn' bc'] 54) = wB := ⟨_, rfl⟩
        have hbA := hbr'.out.alloc hbr'.out.size (.cells #[.string nm, .slice pA pn pc, .slice vA vn vc, .slice rA rn rc, .slice bA bn bc] 54)
        rw [hw1] at hbA
        have hbB := hbA.alloc hbA.size (.cells #[.string nm', .slice pA' pn' pc', .slice vA' vn' vc', .slice rA' rn' rc', .slice bA' bn' bc'] 54)
        rw [hwB] at hbB
        have hbB := Lib.hid hbB
        have hs1 : w1.heap.size = wr.heap.size + 1 := by rw [← hw1]; simp
        have hx1 : w1.heap[wr.heap.size]? = some (.cells #[.string nm, .slice pA pn pc, .slice vA vn vc, .slice rA rn rc, .slice bA bn bc] 54 (0, 0)) := by rw [← hw1]; exact heap_alloc_new _ _
        have hy1 : wB.heap[w1.heap.size]? = some (.cells #[.string nm', .slice pA' pn' pc', .slice vA' vn' vc', .slice rA' rn' rc', .slice bA' bn' bc'] 54 (0, 0)) := by rw [← hwB]; exact heap_alloc_new _ _
        have hx2 : wB.heap[wr.heap.size]? = some (.cells #[.string nm, .slice pA pn pc, .slice vA vn vc, .slice rA rn rc, .slice bA bn bc] 54 (0, 0)) := by rw [← hwB, heap_alloc_old _ _ (by omega)]; exact hx1
        have p0 : wB.cell? ⟨wr.heap.size, 0, none⟩ = some (.string nm) := by rw [blk_cell hx2]; rfl
        have p1 : wB.cell? ⟨wr.heap.size, 1, none⟩ = some (.slice pA pn pc) := by rw [blk_cell hx2]; rfl
        have p2 : wB.cell? ⟨wr.heap.size, 2, none⟩ = some (.slice vA vn vc) := by rw [blk_cell hx2]; rfl
        have p3 : wB.cell? ⟨wr.heap.size, 3, none⟩ = some (.slice rA rn rc) := by rw [blk_cell hx2]; rfl
        have p4 : wB.cell? ⟨wr.heap.size, 4, none⟩ = some (.slice bA bn bc) := by rw [blk_cell hx2]; rfl
        have q0 : wB.cell? ⟨w1.heap.size, 0, none⟩ = some (.string nm') := by rw [blk_cell hy1]; rfl
        have q1 : wB.cell? ⟨w1.heap.size, 1, none⟩ = some (.slice pA' pn' pc') := by rw [blk_cell hy1]; rfl
        have q2 : wB.cell? ⟨w1.heap.size, 2, none⟩ = some (.slice vA' vn' vc') := by rw [blk_cell hy1]; rfl
        have q3 : wB.cell? ⟨w1.heap.size, 3, none⟩ = some (.slice rA' rn' rc') := by rw [blk_cell hy1]; rfl
        have q4 : wB.cell? ⟨w1.heap.size, 4, none⟩ = some (.slice bA' bn' bc') := by rw [blk_cell hy1]; rfl
        have u0 : w1.cell? ⟨blk', off' + k * 5, none⟩ = _ := ((hW'.out.trans (hbA.mono hW'.out.size)).cell (p := ⟨blk', off' + k * 5, none⟩) (cell_some_lt u0)).trans u0
        have u1 : w1.cell? ⟨blk', off' + k * 5 + 1, none⟩ = _ := ((hW'.out.trans (hbA.mono hW'.out.size)).cell (p := ⟨blk', off' + k * 5 + 1, none⟩) (cell_some_lt u1)).trans u1
        have u2 : w1.cell? ⟨blk', off' + k * 5 + 2, none⟩ = _ := ((hW'.out.trans (hbA.mono hW'.out.size)).cell (p := ⟨blk', off' + k * 5 + 2, none⟩) (cell_some_lt u2)).trans u2
        have u3 : w1.cell? ⟨blk', off' + k * 5 + 3, none⟩ = _ := ((hW'.out.trans (hbA.mono hW'.out.size)).cell (p := ⟨blk', off' + k * 5 + 3, none⟩) (cell_some_lt u3)).trans u3
        have u4 : w1.cell? ⟨blk', off' + k * 5 + 4, none⟩ = _ := ((hW'.out.trans (hbA.mono hW'.out.size)).cell (p := ⟨blk', off' + k * 5 + 4, none⟩) (cell_some_lt u4)).trans u4
        have hk2 := hc'.out k x y (⟨nm, ⟨pA, pn, pc⟩, ⟨vA, vn, vc⟩, ⟨rA, rn, rc⟩, ⟨bA, bn, bc⟩⟩ : FnC) (⟨nm', ⟨pA', pn', pc'⟩, ⟨vA', vn', vc'⟩, ⟨rA', rn', rc'⟩, ⟨bA', bn', bc'⟩⟩ : FnC) hx hy hxe hye wB (hW'.out.trans (hbB.out.mono hW'.out.size))
        obtain ⟨t, ht⟩ : ∃ t, same x y = t := ⟨_, rfl⟩
        rw [ht] at hk2
        unfold vlF at hk2
        dsimp only at hk2
        have hk2 := Lib.hid hk2
        have hx' := Lib.hid hx
        have hy' := Lib.hid hy
        have ht' := Lib.hid ht
        clear hs1 hx1 hx2 hy1 ht hx hy hbA hxe hye hcx hcy
        go_wp2_with fail
        refine hk2.out.mono ?_
        rintro e w2 ⟨rfl, hb2⟩
        have hb2' := Lib.hid (Below.next hbB.out hb2)
        clear hb2
        cases t
        · have hs := Lib.hid (show same L M = false from same_false.2 (by
            rintro rfl
            have h := hx'.out.symm.trans hy'.out
            injection h with h
            exact same_false.1 ht'.out h))
          go_wp2
          go_ret
          exact ⟨by rw [hs.out]; rfl, hb2'.out⟩
        · have hxy := Lib.hid (same_true.1 ht'.out)
          go_wp2
          go_roundg g2
          case measure => omega
          case rel => exact ⟨k + 1, by omega, by go_num, fun i hi => by
              rcases Nat.lt_or_ge i k with h | h
              · exact hall'.out i h
              · obtain rfl : i = k := by omega
                rw [hx'.out, hy'.out, hxy.out], hb2'.out⟩
  · have e1 : ¬ ((n : Int) = (m : Int)) := by omega
    have hs := Lib.hid (show same L M = false from same_false.2 (by
      rintro rfl
      exact hnm (hLn.out.symm.trans hMn.out)))
    go_enter Tryz.func89, Tryz.ntmps89
    go_wp2
    go_ret
    exact ⟨by rw [hs.out]; rfl, Below.refl _ _⟩

set_option maxRecDepth 100000 in
set_option maxHeartbeats 16000000 in
theorem same_any (w0 : World) (p q : Pg) (A B A' B' : Option Addr) (c d c' d' : Nat) (hr : CellsAt 4 cellsR w0 p.rs A) (hf : FnsAt w0 p.fs B) (hr' : CellsAt 4 cellsR w0 q.rs A') (hf' : FnsAt w0 q.fs B') (W : World) (hW : Below w0.heap.size w0 W) (hcp : cntP p ≤ 1000000) (hcq : cntP q ≤ 1000000) :
    Calls Tryz.prog 34 #[pgV p A c B d, pgV q A' c' B' d'] W (BoolPost (same p q) W) := by
  unfold cntP at hcp hcq
  have h88 := fun (W' : World) (hW' : Below w0.heap.size w0 W') => eqR_any w0 p.rs q.rs A A' hr hr' c c' W' hW' (by omega) (by omega)
  have h89 := fun (W' : World) (hW' : Below w0.heap.size w0 W') => equalF_any 85 (enters_of Tryz.func85 (by kernel_rfl) rfl) w0 p.fs q.fs B B' hf hf' d d' W' hW' (by omega) (by omega)
    (fun i x y r s hx hy hxr hys W2 hW2 => sameFn_any w0 x y r s hxr hys W2 hW2 (by have := cntF_mem hx; omega) (by have := cntF_mem hy; omega))
  rw [same_pg]
  generalize same p.rs q.rs = t1 at h88 ⊢
  generalize same p.fs q.fs = t2 at h89 ⊢
  unfold pgV
  obtain ⟨n, hn⟩ : ∃ n, p.rs.length = n := ⟨_, rfl⟩
  obtain ⟨n', hn'⟩ : ∃ n, q.rs.length = n := ⟨_, rfl⟩
  obtain ⟨m, hm⟩ : ∃ n, p.fs.length = n := ⟨_, rfl⟩
  obtain ⟨m', hm'⟩ : ∃ n, q.fs.length = n := ⟨_, rfl⟩
  rw [hn, hn'] at h88
  rw [hm, hm'] at h89
  rw [hn, hm, hn', hm']
  clear hn hm hn' hm' hr hf hr' hf' hcp hcq
  obtain ⟨W1, hW1⟩ : ∃ W1, W.alloc (.cells #[.slice A n c, .slice B m d] 39) = W1 := ⟨_, rfl⟩
  obtain ⟨W2, hW2⟩ : ∃ W2, W1.alloc (.cells #[.slice A' n' c', .slice B' m' d'] 39) = W2 := ⟨_, rfl⟩
  have hb1 : Below W.heap.size W W1 := by rw [← hW1]; exact (Below.refl _ W).alloc (Nat.le_refl _) _
  have hb2 : Below W.heap.size W W2 := by rw [← hW2]; exact hb1.alloc hb1.size _
  have hs1 : W1.heap.size = W.heap.size + 1 := by rw [← hW1]; simp
  have hx1 : W1.heap[W.heap.size]? = some (.cells #[.slice A n c, .slice B m d] 39 (0, 0)) := by rw [← hW1]; exact heap_alloc_new _ _
  have hY : W2.heap[W1.heap.size]? = some (.cells #[.slice A' n' c', .slice B' m' d'] 39 (0, 0)) := by rw [← hW2]; exact heap_alloc_new _ _
  have hX : W2.heap[W.heap.size]? = some (.cells #[.slice A n c, .slice B m d] 39 (0, 0)) := by rw [← hW2, heap_alloc_old _ _ (by omega)]; exact hx1
  obtain ⟨p0, p1⟩ := box2 hX
  obtain ⟨q0, q1⟩ := box2 hY
  have up : ∀ W', Below W2.heap.size W2 W' → Below w0.heap.size w0 W' := fun W' h => hW.trans ((Below.next hb2 h).mono hW.size)
  have h88 := Lib.hid fun W' (h : Below W2.heap.size W2 W') => h88 W' (up W' h)
  have h89 := Lib.hid fun W' (h : Below W2.heap.size W2 W') => h89 W' (up W' h)
  have hbw := Lib.hid (Below.refl W2.heap.size W2)
  have hX := Lib.hid hX
  have hY := Lib.hid hY
  have hb2 := Lib.hid hb2
  clear up hW hb1 hs1 hx1
  go_enter Tryz.func34, Tryz.ntmps34
  go_wp2_with fail
  refine (h88.out _ hbw.out).mono ?_
  rintro e w3 ⟨rfl, hbn⟩
  have hbw := Lib.hid (Below.next hbw.out hbn)
  clear hbn p0 p1 q0 q1
  cases t1
  · go_wp2
    go_ret
    exact ⟨rfl, Below.next hb2.out hbw.out⟩
  · obtain ⟨p0, p1⟩ := box2 ((hbw.out.block _ (blk_lt hX.out)).trans hX.out)
    obtain ⟨q0, q1⟩ := box2 ((hbw.out.block _ (blk_lt hY.out)).trans hY.out)
    go_wp2_with fail
    refine (h89.out _ hbw.out).mono ?_
    rintro e w4 ⟨rfl, hbn⟩
    have hbw := Lib.hid (Below.next hbw.out hbn)
    clear hbn p0 p1 q0 q1
    cases t2
    · go_wp2
      go_ret
      exact ⟨rfl, Below.next hb2.out hbw.out⟩
    · go_wp2
      go_ret
      exact ⟨rfl, Below.next hb2.out hbw.out⟩
end Go.Proofs.YtnahgfdoiflacaaGreatDoor
namespace Go.Proofs.YtnahgfdoiflacaaGreatDoor
open Go.RowKit Go.Lib Go.Shelf

/-- a count as far as m: what is at most m is the whole -/
def CntPost (c m : Nat) (w : World) (e : Ending) (w' : World) : Prop := ∃ r : Nat, e = .returned (.int .i64 r) ∧ r ≤ 4 * m + 3 ∧ (r ≤ m → r = c) ∧ Below w.heap.size w w'
theorem cntL_nil : cntL [] = 0 := by rw [cntL]

set_option maxRecDepth 100000 in
set_option maxHeartbeats 16000000 in
theorem countS_any (w0 : World) (L : List St) (A : Option Addr) (h : StsAt w0 L A) : ∀ (m c : Nat) (W : World), m ≤ 30000 → Below w0.heap.size w0 W →
    Calls Tryz.prog 49 #[.slice A L.length c, .int .i64 m] W (CntPost (cntSs L) m W) := by
  refine StsAt.all (M := fun L A => ∀ (m c : Nat) (W : World), m ≤ 30000 → Below w0.heap.size w0 W → Calls Tryz.prog 49 #[.slice A L.length c, .int .i64 m] W (CntPost (cntSs L) m W)) ?_ L A h
  intro L A hL ih m c W hm hW
  have hL' := Lib.hid hL
  have ih' := Lib.hid ih
  have hW' := Lib.hid hW
  obtain ⟨n, hn⟩ : ∃ n, L.length = n := ⟨_, rfl⟩
  rw [hn]
  have hn' := Lib.hid hn
  clear hL ih hW hn h
  go_enter Tryz.func49, Tryz.ntmps49
  go_wp2_with fail
  go_loopg [5, 6] n (fun g s5 s6 wr => ∃ k r : Nat, k + g = n ∧ s6 = .int .i64 k ∧ s5 = .int .i64 r ∧ r ≤ 4 * m + 3 ∧ (r ≤ m → r = cntSs (L.take k)) ∧ Below W.heap.size W wr)
  case atStart => exact ⟨0, 0, by omega, rfl, rfl, by omega, fun _ => by rw [List.take_zero, cntSs], Below.refl _ _⟩
  case round =>
    obtain ⟨k, r, hkg, rfl, rfl, hrb, hrc, hbr⟩ := hrel
    have hrc := Lib.hid hrc
    have hbr := Lib.hid hbr
    have hkm : r ≤ m → k ≤ m := fun hrm => by
      have h1 := len_cntSs (L.take k)
      have h2 := hrc.out hrm
      have h3 := hn'.out
      rw [List.length_take] at h1
      omega
    by_cases hrm : r ≤ m
    · have hkm' := hkm hrm
      clear hkm
      have e1 : (r : Int) ≤ (m : Int) := by omega
      cases gk with
      | zero =>
        have e0 : ¬ (k : Int) < (n : Int) := by omega
        have hfin := Lib.hid (show r = cntSs L by
          have := hrc.out hrm
          rw [List.take_of_length_le (by rw [hn'.out]; omega)] at this
          exact this)
        go_wp2
        go_ret
        exact ⟨r, rfl, hrb, fun _ => hfin.out, hbr.out⟩
      | succ g =>
        have e0 : (k : Int) < (n : Int) := by omega
        have hbw := Lib.hid (hW'.out.trans (hbr.out.mono hW'.out.size))
        obtain ⟨blk, off, x, s, rfl, hx, hcx, hnow, hbd, hel⟩ := (hL'.out).at_ (k := k) (by rw [hn'.out]; omega)
        obtain ⟨kd, nm, ⟨nA, nn, nc⟩, ⟨eo, eu, en, ⟨eA, ek, ec⟩⟩, ⟨ao, au, an, ⟨aA, ak, ac⟩⟩, ⟨gA, gn, gc⟩, lo, hi, ⟨bA, bn, bc⟩, ⟨lA, ln, lc⟩⟩ := s
        obtain ⟨kx, mx, nx, nxA, ⟨ex1, ex2, ex3, ex4, exA, exu⟩, ⟨ax1, ax2, ax3, ax4, axA, axu⟩, gx, gxA, lx, hx', _, _, bx, elx⟩ := hnow
        dsimp only at kx mx nx nxA ex1 ex2 ex3 ex4 exA ax1 ax2 ax3 ax4 axA gx gxA lx hx' bx elx hbd hel
        have v0 : w0.cell? ⟨blk, off + k * 16, none⟩ = some (.int .i64 kd) := hcx 0 (by omega)
        have v0 := (hbw.out.cell (p := ⟨blk, off + k * 16, none⟩) (cell_some_lt v0)).trans v0
        have v1 : w0.cell? ⟨blk, off + k * 16 + 1, none⟩ = some (.string nm) := hcx 1 (by omega)
        have v1 := (hbw.out.cell (p := ⟨blk, off + k * 16 + 1, none⟩) (cell_some_lt v1)).trans v1
        have v2 : w0.cell? ⟨blk, off + k * 16 + 2, none⟩ = some (.slice nA nn nc) := hcx 2 (by omega)
        have v2 := (hbw.out.cell (p := ⟨blk, off + k * 16 + 2, none⟩) (cell_some_lt v2)).trans v2
        have v3 : w0.cell? ⟨blk, off + k * 16 + 3, none⟩ = some (.int .i64 eo) := hcx 3 (by omega)
        have v3 := (hbw.out.cell (p := ⟨blk, off + k * 16 + 3, none⟩) (cell_some_lt v3)).trans v3
        have v4 : w0.cell? ⟨blk, off + k * 16 + 4, none⟩ = some (.int .u64 eu) := hcx 4 (by omega)
        have v4 := (hbw.out.cell (p := ⟨blk, off + k * 16 + 4, none⟩) (cell_some_lt v4)).trans v4
        have v5 : w0.cell? ⟨blk, off + k * 16 + 5, none⟩ = some (.string en) := hcx 5 (by omega)
        have v5 := (hbw.out.cell (p := ⟨blk, off + k * 16 + 5, none⟩) (cell_some_lt v5)).trans v5
        have v6 : w0.cell? ⟨blk, off + k * 16 + 6, none⟩ = some (.slice eA ek ec) := hcx 6 (by omega)
        have v6 := (hbw.out.cell (p := ⟨blk, off + k * 16 + 6, none⟩) (cell_some_lt v6)).trans v6
        have v7 : w0.cell? ⟨blk, off + k * 16 + 7, none⟩ = some (.int .i64 ao) := hcx 7 (by omega)
        have v7 := (hbw.out.cell (p := ⟨blk, off + k * 16 + 7, none⟩) (cell_some_lt v7)).trans v7
        have v8 : w0.cell? ⟨blk, off + k * 16 + 8, none⟩ = some (.int .u64 au) := hcx 8 (by omega)
        have v8 := (hbw.out.cell (p := ⟨blk, off + k * 16 + 8, none⟩) (cell_some_lt v8)).trans v8
        have v9 : w0.cell? ⟨blk, off + k * 16 + 9, none⟩ = some (.string an) := hcx 9 (by omega)
        have v9 := (hbw.out.cell (p := ⟨blk, off + k * 16 + 9, none⟩) (cell_some_lt v9)).trans v9
        have v10 : w0.cell? ⟨blk, off + k * 16 + 10, none⟩ = some (.slice aA ak ac) := hcx 10 (by omega)
        have v10 := (hbw.out.cell (p := ⟨blk, off + k * 16 + 10, none⟩) (cell_some_lt v10)).trans v10
        have v11 : w0.cell? ⟨blk, off + k * 16 + 11, none⟩ = some (.slice gA gn gc) := hcx 11 (by omega)
        have v11 := (hbw.out.cell (p := ⟨blk, off + k * 16 + 11, none⟩) (cell_some_lt v11)).trans v11
        have v12 : w0.cell? ⟨blk, off + k * 16 + 12, none⟩ = some (.int .u64 lo) := hcx 12 (by omega)
        have v12 := (hbw.out.cell (p := ⟨blk, off + k * 16 + 12, none⟩) (cell_some_lt v12)).trans v12
        have v13 : w0.cell? ⟨blk, off + k * 16 + 13, none⟩ = some (.int .u64 hi) := hcx 13 (by omega)
        have v13 := (hbw.out.cell (p := ⟨blk, off + k * 16 + 13, none⟩) (cell_some_lt v13)).trans v13
        have v14 : w0.cell? ⟨blk, off + k * 16 + 14, none⟩ = some (.slice bA bn bc) := hcx 14 (by omega)
        have v14 := (hbw.out.cell (p := ⟨blk, off + k * 16 + 14, none⟩) (cell_some_lt v14)).trans v14
        have v15 : w0.cell? ⟨blk, off + k * 16 + 15, none⟩ = some (.slice lA ln lc) := hcx 15 (by omega)
        have v15 := (hbw.out.cell (p := ⟨blk, off + k * 16 + 15, none⟩) (cell_some_lt v15)).trans v15
        obtain ⟨w1, hw1⟩ : ∃ w1, wr.alloc (.cells #[.int .i64 kd, .string nm, .slice nA nn nc, .int .i64 eo, .int .u64 eu, .string en, .slice eA ek ec, .int .i64 ao, .int .u64 au, .string an, .slice aA ak ac, .slice gA gn gc, .int .u64 lo, .int .u64 hi, .slice bA bn bc, .slice lA ln lc] 50) = w1 := ⟨_, rfl⟩
        have hb1 : Below W.heap.size W w1 := by rw [← hw1]; exact hbr.out.alloc hbr.out.size _
        have hX : w1.heap[wr.heap.size]? = some (.cells #[.int .i64 kd, .string nm, .slice nA nn nc, .int .i64 eo, .int .u64 eu, .string en, .slice eA ek ec, .int .i64 ao, .int .u64 au, .string an, .slice aA ak ac, .slice gA gn gc, .int .u64 lo, .int .u64 hi, .slice bA bn bc, .slice lA ln lc] 50 (0, 0)) := by rw [← hw1]; exact heap_alloc_new _ _
        obtain ⟨p0, p1, p2, p3, p4, p5, p6, p7, p8, p9, p10, p11, p12, p13, p14, p15⟩ := box16 hX
        have up : ∀ W', Below w1.heap.size w1 W' → Below w0.heap.size w0 W' := fun W' h => hW'.out.trans ((Below.next hb1 h).mono hW'.out.size)
        have hX := Lib.hid hX
        have hb1 := Lib.hid hb1
        have h48 := Lib.hid (fun (s : Sub w1) => (name48_any nm m s.val (by omega)).mono (R' := fun e w' => e = .returned (.int .i64 ((1 + min nm.size m : Nat) : Int)) ∧ Below s.val.heap.size s.val w') fun e w' ⟨he, hw⟩ => ⟨he, hw ▸ Below.refl _ _⟩)
        have h39e : ∀ (s : Sub w1), Calls Tryz.prog 39 #[.agg #[.int .i64 eo, .int .u64 eu, .string en, .slice eA ek ec], .int .i64 m] s.val (IntPost ((min (cntE x.e) (m + 1) : Nat) : Int) s.val) := fun s => by
          rw [ex1, ex2, ex3, ex4]
          exact count_any w0 x.e eA exA m ec s.val hm (up _ s.property)
        have h39a : ∀ (s : Sub w1), Calls Tryz.prog 39 #[.agg #[.int .i64 ao, .int .u64 au, .string an, .slice aA ak ac], .int .i64 m] s.val (IntPost ((min (cntE x.a) (m + 1) : Nat) : Int) s.val) := fun s => by
          rw [ax1, ax2, ax3, ax4]
          exact count_any w0 x.a aA axA m ac s.val hm (up _ s.property)
        obtain ⟨qs, hqs⟩ : ∃ q, 1 + min nm.size m = q := ⟨_, rfl⟩
        obtain ⟨qe, hqe⟩ : ∃ q, min (cntE x.e) (m + 1) = q := ⟨_, rfl⟩
        obtain ⟨qa, hqa⟩ : ∃ q, min (cntE x.a) (m + 1) = q := ⟨_, rfl⟩
        rw [hqs] at h48
        rw [hqe] at h39e
        rw [hqa] at h39a
        have h39e := Lib.hid h39e
        have h39a := Lib.hid h39a
        have hqsb : qs ≤ m + 1 := by omega
        have hqeb : qe ≤ m + 1 := by omega
        have hqab : qa ≤ m + 1 := by omega
        -- what is counted so far, if it is at most m
        obtain ⟨C1, hC1⟩ : ∃ C1, cntSs (L.take k) + (1 + nm.size) + cntE x.e + cntE x.a = C1 := ⟨_, rfl⟩
        have hr1 := Lib.hid (show r + qs + qe + qa ≤ m → r + qs + qe + qa = C1 from fun h => by
          have := hrc.out hrm
          omega)
        have hCk := Lib.hid (show C1 + cntN x.ns + cntL x.ars + cntSs x.bd + cntSs x.el = cntSs (L.take (k + 1)) by
          rw [cntSs_take k hx, ← cntS_bd x, ← hC1, mx]
          omega)
        obtain ⟨r1, hr1e⟩ : ∃ r1, r + qs + qe + qa = r1 := ⟨_, rfl⟩
        rw [hr1e] at hr1
        have hr1b : r1 ≤ 4 * m + 3 := by omega
        have hbody := Lib.hid (fun (q : Nat) (W' : World) (hq : q ≤ m) (hW2 : Below w1.heap.size w1 W') => (show Calls Tryz.prog 49 #[.slice bA bn bc, .int .i64 (q : Int)] W' (CntPost (cntSs x.bd) q W') by
          rw [bx]
          exact (ih'.out k x bA hx).1 hbd q bc W' (by omega) (up _ hW2)))
        have helse := Lib.hid (fun (q : Nat) (W' : World) (hq : q ≤ m) (hW2 : Below w1.heap.size w1 W') => (show Calls Tryz.prog 49 #[.slice lA ln lc, .int .i64 (q : Int)] W' (CntPost (cntSs x.el) q W') by
          rw [elx]
          exact (ih'.out k x lA hx).2 hel q lc W' (by omega) (up _ hW2)))
        have hnames := Lib.hid nxA
        have hargs := Lib.hid gxA
        have up' := Lib.hid up
        have nx' := Lib.hid nx
        have gx' := Lib.hid gx
        clear up hqs hqe hqa hC1 hcx hx ex1 ex2 ex3 ex4 exA exu ax1 ax2 ax3 ax4 axA axu kx mx lx hx' bx elx hbd hel nxA gxA nx gx
        have hnn : (qs : Int) ≤ m + 1 := by omega
        have hee : (qe : Int) ≤ m + 1 := by omega
        have haa : (qa : Int) ≤ m + 1 := by omega
        go_upto_region 6 with fail
        have p1 := Sub.cell p1
        have p3 := Sub.cell p3
        have p4 := Sub.cell p4
        have p5 := Sub.cell p5
        have p6 := Sub.cell p6
        have p7 := Sub.cell p7
        have p8 := Sub.cell p8
        have p9 := Sub.cell p9
        have p10 := Sub.cell p10
        refine wp_region_below (by kernel_rfl) (by kernel_rfl) ?_
        repeat (go_big_quiet_step ((first | (go_at_call 48; with_reducible exact Sub.call (h48.out _)) | (go_at_call 39; with_reducible exact Sub.call (h39e.out _)) | (go_at_call 39; with_reducible exact Sub.call (h39a.out _)))))
        refine wpQuiet_nil ?_
        rintro w4 ⟨s4, hs4⟩
        have hb4 := hs4 ▸ s4.property
        have hb4 := Lib.hid hb4
        clear hs4 p0 p1 p2 p3 p4 p5 p6 p7 p8 p9 p10 p11 p12 p13 p14 p15
        as_aux_lemma =>
          go_wp2_with fail
          go_loopg [5, 8] nn (fun g s5 s8 wx => ∃ j r2 : Nat, j + g = nn ∧ s8 = .int .i64 j ∧ s5 = .int .i64 r2 ∧ r2 ≤ 4 * m + 3 ∧ (r2 ≤ m → r2 = C1 + cntN (x.ns.take j)) ∧ Below w1.heap.size w1 wx)
          case atStart => exact ⟨0, r1, by omega, rfl, by subst hr1e; go_num, hr1b, fun h => by rw [List.take_zero, cntN]; exact hr1.out h, hb4.out⟩
          case round =>
            obtain ⟨j, r2, hjg, rfl, rfl, hr2b, hr2c, hb5⟩ := hrel
            have hr2c := Lib.hid hr2c
            have hb5 := Lib.hid hb5
            by_cases hrm2 : r2 ≤ m
            · have e2 : (r2 : Int) ≤ (m : Int) := by omega
              cases gk with
              | zero =>
                have e3 : ¬ (j : Int) < (nn : Int) := by omega
                have hr2c := Lib.hid (show r2 = C1 + cntN x.ns by
                  have := hr2c.out hrm2
                  rw [List.take_of_length_le (by have := nx'.out; omega)] at this
                  exact this)
                obtain ⟨p0, p1, p2, p3, p4, p5, p6, p7, p8, p9, p10, p11, p12, p13, p14, p15⟩ := box16 ((hb5.out.block _ (blk_lt hX.out)).trans hX.out)
                as_aux_lemma =>
                  go_wp2_with fail
                  clear p0 p1 p2 p3 p4 p5 p6 p7 p8 p9 p10 p11 p12 p13 p14 p15
                  go_loopg [5, 9] gn (fun g s5 s9 wx => ∃ j r3 : Nat, j + g = gn ∧ s9 = .int .i64 j ∧ s5 = .int .i64 r3 ∧ r3 ≤ 4 * m + 3 ∧ (r3 ≤ m → r3 = C1 + cntN x.ns + cntL (x.ars.take j)) ∧ Below w1.heap.size w1 wx)
                  case atStart => exact ⟨0, r2, by omega, rfl, rfl, hr2b, fun h => by rw [List.take_zero, cntL_nil]; exact hr2c.out, hb5.out⟩
                  case round =>
                    obtain ⟨i, r3, hig, rfl, rfl, hr3b, hr3c, hb6⟩ := hrel
                    have hr3c := Lib.hid hr3c
                    have hb6 := Lib.hid hb6
                    by_cases hrm3 : r3 ≤ m
                    · have e4 : (r3 : Int) ≤ (m : Int) := by omega
                      cases gk with
                      | zero =>
                        have e5 : ¬ (i : Int) < (gn : Int) := by omega
                        have hr3c := Lib.hid (show r3 = C1 + cntN x.ns + cntL x.ars by
                          have := hr3c.out hrm3
                          rw [List.take_of_length_le (by have := gx'.out; omega)] at this
                          exact this)
                        obtain ⟨p0, p1, p2, p3, p4, p5, p6, p7, p8, p9, p10, p11, p12, p13, p14, p15⟩ := box16 ((hb6.out.block _ (blk_lt hX.out)).trans hX.out)
                        have ew : IntKind.i64.wrap ((m : Int) - (r3 : Int)) = ((m - r3 : Nat) : Int) := by rw [IntKind.wrap_i64]; omega
                        go_wp2_with fail
                        refine (hbody.out (m - r3) _ (by omega) hb6.out).mono ?_
                        rintro e w7 ⟨q7, rfl, hq7b, hq7c, hb7⟩
                        have hb7 := Lib.hid (Below.next hb6.out hb7)
                        have hq7c := Lib.hid hq7c
                        clear p0 p1 p2 p3 p4 p5 p6 p7 p8 p9 p10 p11 p12 p13 p14 p15
                        obtain ⟨r4, hr4⟩ : ∃ r4, r3 + q7 = r4 := ⟨_, rfl⟩
                        have hr4i : (r3 : Int) + (q7 : Int) = (r4 : Int) := by omega
                        have hr4b : r4 ≤ 4 * m + 3 := by omega
                        by_cases hrm4 : r4 ≤ m
                        · have e6 : (r4 : Int) ≤ (m : Int) := by omega
                          have hr4c := Lib.hid (show r4 = C1 + cntN x.ns + cntL x.ars + cntSs x.bd by
                            have h1 := hq7c.out (by omega)
                            have h2 := hr3c.out
                            omega)
                          obtain ⟨p0, p1, p2, p3, p4, p5, p6, p7, p8, p9, p10, p11, p12, p13, p14, p15⟩ := box16 ((hb7.out.block _ (blk_lt hX.out)).trans hX.out)
                          have ew4 : IntKind.i64.wrap ((m : Int) - (r4 : Int)) = ((m - r4 : Nat) : Int) := by rw [IntKind.wrap_i64]; omega
                          have ew5 : IntKind.i64.wrap (r4 : Int) = (r4 : Int) := by rw [IntKind.wrap_i64]; omega
                          go_wp2_with fail
                          refine (helse.out (m - r4) _ (by omega) hb7.out).mono ?_
                          rintro e w8 ⟨q8, rfl, hq8b, hq8c, hb8⟩
                          have hb8 := Lib.hid (Below.next hb7.out hb8)
                          have hq8c := Lib.hid hq8c
                          clear p0 p1 p2 p3 p4 p5 p6 p7 p8 p9 p10 p11 p12 p13 p14 p15
                          have hr5i : ((r4 + q8 : Nat) : Int) = (r4 : Int) + (q8 : Int) := by omega
                          go_wp2_with fail
                          go_roundg g
                          case measure => omega
                          case rel => exact ⟨k + 1, r4 + q8, by omega, by go_num, by go_num, by omega, fun h => by
                              have h1 := hq8c.out (by omega)
                              have h2 := hr4c.out
                              have h3 := hCk.out
                              omega, Below.next hb1.out hb8.out⟩
                        · have ebig : ¬ (r4 : Int) ≤ (m : Int) := by omega
                          obtain ⟨p0, p1, p2, p3, p4, p5, p6, p7, p8, p9, p10, p11, p12, p13, p14, p15⟩ := box16 ((hb7.out.block _ (blk_lt hX.out)).trans hX.out)
                          have ew5 : IntKind.i64.wrap (r4 : Int) = (r4 : Int) := by rw [IntKind.wrap_i64]; omega
                          go_wp2_with fail
                          go_roundg g
                          case measure => omega
                          case rel => exact ⟨k + 1, r4, by omega, by go_num, by go_num, hr4b, fun h => absurd h hrm4, Below.next hb1.out hb7.out⟩
                      | succ g3 =>
                        have e5 : (i : Int) < (gn : Int) := by omega
                        obtain ⟨ab, ao', y, AB, ac', rfl, hy, t0, t1, t2, t3, hye⟩ := (hargs.out).at_ (k := i) (by have := gx'.out; omega)
                        have hbz := Lib.hid (up'.out _ hb6.out)
                        have t0 := (hbz.out.cell (p := ⟨ab, ao' + i * 4, none⟩) (cell_some_lt t0)).trans t0
                        have t1 := (hbz.out.cell (p := ⟨ab, ao' + i * 4 + 1, none⟩) (cell_some_lt t1)).trans t1
                        have t2 := (hbz.out.cell (p := ⟨ab, ao' + i * 4 + 2, none⟩) (cell_some_lt t2)).trans t2
                        have t3 := (hbz.out.cell (p := ⟨ab, ao' + i * 4 + 3, none⟩) (cell_some_lt t3)).trans t3
                        obtain ⟨p0, p1, p2, p3, p4, p5, p6, p7, p8, p9, p10, p11, p12, p13, p14, p15⟩ := box16 ((hb6.out.block _ (blk_lt hX.out)).trans hX.out)
                        have h39 := count_any w0 y AB hye m ac' _ hm hbz.out
                        unfold exV at h39
                        have hy' := Lib.hid hy
                        obtain ⟨q, hq⟩ : ∃ q, min (cntE y) (m + 1) = q := ⟨_, rfl⟩
                        rw [hq] at h39
                        have h39 := Lib.hid h39
                        have hqb : q ≤ m + 1 := by omega
                        have hnext := Lib.hid (show r3 + q ≤ m → r3 + q = C1 + cntN x.ns + cntL (x.ars.take (i + 1)) from fun h => by
                          have h1 := hr3c.out hrm3
                          rw [cntL_take i hy'.out]
                          omega)
                        have him : i ≤ m := by
                          have h1 := hr3c.out hrm3
                          have h2 := len_cnt (x.ars.take i)
                          have h3 := gx'.out
                          rw [List.length_take] at h2
                          omega
                        clear hq hy hye
                        go_wp2_with fail
                        refine h39.out.mono ?_
                        rintro e w7 ⟨rfl, hb7⟩
                        have hb7 := Lib.hid (Below.next hb6.out hb7)
                        clear p0 p1 p2 p3 p4 p5 p6 p7 p8 p9 p10 p11 p12 p13 p14 p15
                        clear t0 t1 t2 t3
                        go_wp2_with fail
                        go_roundg g3
                        case measure => omega
                        case rel => exact ⟨i + 1, r3 + q, by omega, by go_num, by go_num, by omega, hnext.out, hb7.out⟩
                    · have ebig : ¬ (r3 : Int) ≤ (m : Int) := by omega
                      obtain ⟨p0, p1, p2, p3, p4, p5, p6, p7, p8, p9, p10, p11, p12, p13, p14, p15⟩ := box16 ((hb6.out.block _ (blk_lt hX.out)).trans hX.out)
                      by_cases hig2 : (i : Int) < (gn : Int)
                      · go_wp2_with fail
                        go_roundg g
                        case measure => omega
                        case rel => exact ⟨k + 1, r3, by omega, by go_num, by go_num, hr3b, fun h => absurd h hrm3, Below.next hb1.out hb6.out⟩
                      · go_wp2_with fail
                        go_roundg g
                        case measure => omega
                        case rel => exact ⟨k + 1, r3, by omega, by go_num, by go_num, hr3b, fun h => absurd h hrm3, Below.next hb1.out hb6.out⟩
              | succ g2 =>
                have e3 : (j : Int) < (nn : Int) := by omega
                obtain ⟨nb, no, y, rfl, hy, hcy⟩ := (hnames.out).at_ (i := j) (by have := nx'.out; omega)
                have hbz := Lib.hid (up'.out _ hb5.out)
                have t0 : w0.cell? ⟨nb, no + j, none⟩ = some (.string y) := by have := hcy 0 (by omega); rw [Nat.mul_one] at this; exact this
                have t0 := (hbz.out.cell (p := ⟨nb, no + j, none⟩) (cell_some_lt t0)).trans t0
                obtain ⟨p0, p1, p2, p3, p4, p5, p6, p7, p8, p9, p10, p11, p12, p13, p14, p15⟩ := box16 ((hb5.out.block _ (blk_lt hX.out)).trans hX.out)
                obtain ⟨q, hq⟩ : ∃ q, 1 + min y.size m = q := ⟨_, rfl⟩
                have h48y := fun W' : World => name48_any y m W' (by omega)
                rw [hq] at h48y
                have h48y := Lib.hid h48y
                have hqb : q ≤ m + 1 := by omega
                have hnext := Lib.hid (show r2 + q ≤ m → r2 + q = C1 + cntN (x.ns.take (j + 1)) from fun h => by
                  have h1 := hr2c.out hrm2
                  rw [cntN_take j hy]
                  omega)
                have hjm : j ≤ m := by
                  have h1 := hr2c.out hrm2
                  have h2 := len_cntN (x.ns.take j)
                  have h3 := nx'.out
                  rw [List.length_take] at h2
                  omega
                clear hq hy hcy
                go_wp2_with fail
                refine (h48y.out _).mono ?_
                rintro e w7 ⟨rfl, rfl⟩
                clear p0 p1 p2 p3 p4 p5 p6 p7 p8 p9 p10 p11 p12 p13 p14 p15
                clear t0
                go_wp2_with fail
                go_roundg g2
                case measure => omega
                case rel => exact ⟨j + 1, r2 + q, by omega, by go_num, by go_num, by omega, hnext.out, hb5.out⟩
            · have ebig : ¬ (r2 : Int) ≤ (m : Int) := by omega
              obtain ⟨p0, p1, p2, p3, p4, p5, p6, p7, p8, p9, p10, p11, p12, p13, p14, p15⟩ := box16 ((hb5.out.block _ (blk_lt hX.out)).trans hX.out)
              by_cases hjn : (j : Int) < (nn : Int)
              all_goals
                by_cases hg0 : (0 : Int) < (gn : Int)
                all_goals
                  as_aux_lemma =>
                    go_wp2_with fail
                    go_rounds 1
                    go_wp2_with fail
                    go_roundg g
                    case measure => omega
                    case rel => exact ⟨k + 1, r2, by omega, by go_num, by go_num, hr2b, fun h => absurd h hrm2, Below.next hb1.out hb5.out⟩
    · have e1 : ¬ (r : Int) ≤ (m : Int) := by omega
      by_cases e0 : (k : Int) < (n : Int)
      all_goals
        go_wp2
        go_ret
        exact ⟨r, rfl, hrb, fun h => absurd h hrm, hbr.out⟩
end Go.Proofs.YtnahgfdoiflacaaGreatDoor
