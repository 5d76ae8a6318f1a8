/- Statements: whether they are the same: the program's way. -/
import Derived.Test.YtnahgfdoiflacaaGreatDoorCC
import Derived.Deep.Cut
set_option linter.unusedSimpArgs false
set_option linter.unusedVariables false
namespace Go.Proofs.YtnahgfdoiflacaaGreatDoor
open Go.RowKit Go.Lib Go.Shelf

theorem same_st (x y : St) : same x y = (same x.kd y.kd && (same x.nm y.nm && (same x.lo y.lo && (same x.hi y.hi && (same x.ns y.ns && (same x.e y.e && (same x.a y.a && (same x.ars y.ars && (same x.bd y.bd && same x.el y.el))))))))) := by
  rw [← same_and (x := (x.bd, x.el)) (y := (y.bd, y.el)) (by simp), ← same_and (x := (x.ars, x.bd, x.el)) (y := (y.ars, y.bd, y.el)) (by simp), ← same_and (x := (x.a, x.ars, x.bd, x.el)) (y := (y.a, y.ars, y.bd, y.el)) (by simp), ← same_and (x := (x.e, x.a, x.ars, x.bd, x.el)) (y := (y.e, y.a, y.ars, y.bd, y.el)) (by simp), ← same_and (x := (x.ns, x.e, x.a, x.ars, x.bd, x.el)) (y := (y.ns, y.e, y.a, y.ars, y.bd, y.el)) (by simp), ← same_and (x := (x.hi, x.ns, x.e, x.a, x.ars, x.bd, x.el)) (y := (y.hi, y.ns, y.e, y.a, y.ars, y.bd, y.el)) (by simp), ← same_and (x := (x.lo, x.hi, x.ns, x.e, x.a, x.ars, x.bd, x.el)) (y := (y.lo, y.hi, y.ns, y.e, y.a, y.ars, y.bd, y.el)) (by simp), ← same_and (x := (x.nm, x.lo, x.hi, x.ns, x.e, x.a, x.ars, x.bd, x.el)) (y := (y.nm, y.lo, y.hi, y.ns, y.e, y.a, y.ars, y.bd, y.el)) (by simp)]
  refine same_and ?_
  cases x; cases y
  simp only [St.kd, St.nm, St.lo, St.hi, St.ns, St.e, St.a, St.ars, St.bd, St.el, St.node.injEq, Prod.mk.injEq]
  constructor
  · rintro ⟨h1, h2, h3, h4, h5, h6, h7, h8, h9, h10⟩
    exact ⟨h1, h2, h7, h8, h3, h4, h5, h6, h9, h10⟩
  · rintro ⟨h1, h2, h7, h8, h3, h4, h5, h6, h9, h10⟩
    exact ⟨h1, h2, h3, h4, h5, h6, h7, h8, h9, h10⟩
theorem box16 {W : World} {b : Nat} {v0 v1 v2 v3 v4 v5 v6 v7 v8 v9 v10 v11 v12 v13 v14 v15 : Value} {t : TypeId} (h : W.heap[b]? = some (.cells #[v0, v1, v2, v3, v4, v5, v6, v7, v8, v9, v10, v11, v12, v13, v14, v15] t (0, 0))) :
    W.cell? ⟨b, 0, none⟩ = some v0 ∧ W.cell? ⟨b, 1, none⟩ = some v1 ∧ W.cell? ⟨b, 2, none⟩ = some v2 ∧ W.cell? ⟨b, 3, none⟩ = some v3 ∧ W.cell? ⟨b, 4, none⟩ = some v4 ∧ W.cell? ⟨b, 5, none⟩ = some v5 ∧ W.cell? ⟨b, 6, none⟩ = some v6 ∧ W.cell? ⟨b, 7, none⟩ = some v7 ∧ W.cell? ⟨b, 8, none⟩ = some v8 ∧ W.cell? ⟨b, 9, none⟩ = some v9 ∧ W.cell? ⟨b, 10, none⟩ = some v10 ∧ W.cell? ⟨b, 11, none⟩ = some v11 ∧ W.cell? ⟨b, 12, none⟩ = some v12 ∧ W.cell? ⟨b, 13, none⟩ = some v13 ∧ W.cell? ⟨b, 14, none⟩ = some v14 ∧ W.cell? ⟨b, 15, none⟩ = some v15 :=
  ⟨by rw [blk_cell h]; rfl, by rw [blk_cell h]; rfl, by rw [blk_cell h]; rfl, by rw [blk_cell h]; rfl, by rw [blk_cell h]; rfl, by rw [blk_cell h]; rfl, by rw [blk_cell h]; rfl, by rw [blk_cell h]; rfl, by rw [blk_cell h]; rfl, by rw [blk_cell h]; rfl, by rw [blk_cell h]; rfl, by rw [blk_cell h]; rfl, by rw [blk_cell h]; rfl, by rw [blk_cell h]; rfl, by rw [blk_cell h]; rfl, by rw [blk_cell h]; rfl⟩
theorem box5 {W : World} {b : Nat} {v0 v1 v2 v3 v4 : Value} {t : TypeId} (h : W.heap[b]? = some (.cells #[v0, v1, v2, v3, v4] t (0, 0))) :
    W.cell? ⟨b, 0, none⟩ = some v0 ∧ W.cell? ⟨b, 1, none⟩ = some v1 ∧ W.cell? ⟨b, 2, none⟩ = some v2 ∧ W.cell? ⟨b, 3, none⟩ = some v3 ∧ W.cell? ⟨b, 4, none⟩ = some v4 :=
  ⟨by rw [blk_cell h]; rfl, by rw [blk_cell h]; rfl, by rw [blk_cell h]; rfl, by rw [blk_cell h]; rfl, by rw [blk_cell h]; rfl⟩
theorem box2 {W : World} {b : Nat} {v0 v1 : Value} {t : TypeId} (h : W.heap[b]? = some (.cells #[v0, v1] t (0, 0))) :
    W.cell? ⟨b, 0, none⟩ = some v0 ∧ W.cell? ⟨b, 1, none⟩ = some v1 :=
  ⟨by rw [blk_cell h]; rfl, by rw [blk_cell h]; rfl⟩

set_option maxRecDepth 100000 in
set_option maxHeartbeats 16000000 in
theorem sameSt_any (w0 : World) (x y : St) (r s : StC) (hx : SNow w0 x r) (hy : SNow w0 y s) (W : World) (hW : Below w0.heap.size w0 W) (hcx : cntS x ≤ 1000000) (hcy : cntS y ≤ 1000000)
    (hbd : ∀ (W' : World), Below w0.heap.size w0 W' → Calls Tryz.prog 35 #[.slice r.bd.a x.bd.length r.bd.c, .slice s.bd.a y.bd.length s.bd.c] W' (BoolPost (same x.bd y.bd) W'))
    (hel : ∀ (W' : World), Below w0.heap.size w0 W' → Calls Tryz.prog 35 #[.slice r.el.a x.el.length r.el.c, .slice s.el.a y.el.length s.el.c] W' (BoolPost (same x.el y.el) W')) :
    Calls Tryz.prog 91 #[vlT r, vlT s] W (BoolPost (same x y) W) := by
  have hcx0 := cntS_bd x
  have hcy0 := cntS_bd y
  have l1 := len_cntN x.ns
  have l2 := len_cntN y.ns
  have l3 := len_cnt x.ars
  have l4 := len_cnt y.ars
  obtain ⟨kd, nm, ⟨nA, nn, nc⟩, ⟨eo, eu, en, ⟨eA, ek, ec⟩⟩, ⟨ao, au, an, ⟨aA, ak, ac⟩⟩, ⟨gA, gn, gc⟩, lo, hi, ⟨bA, bn, bc⟩, ⟨lA, ln, lc⟩⟩ := r
  obtain ⟨kd', nm', ⟨nA', nn', nc'⟩, ⟨eo', eu', en', ⟨eA', ek', ec'⟩⟩, ⟨ao', au', an', ⟨aA', ak', ac'⟩⟩, ⟨gA', gn', gc'⟩, lo', hi', ⟨bA', bn', bc'⟩, ⟨lA', ln', lc'⟩⟩ := s
  obtain ⟨kx, mx, nx, nxA, ⟨ex1, ex2, ex3, ex4, exA, exu⟩, ⟨ax1, ax2, ax3, ax4, axA, axu⟩, gx, gxA, lx, hx', _, _, bx, elx⟩ := hx
  obtain ⟨ky, my, ny, nyA, ⟨ey1, ey2, ey3, ey4, eyA, eyu⟩, ⟨ay1, ay2, ay3, ay4, ayA, ayu⟩, gy, gyA, ly, hy', _, _, by', ely⟩ := hy
  dsimp only at kx mx nx nxA ex1 ex2 ex3 ex4 exA ax1 ax2 ax3 ax4 axA gx gxA lx hx' bx elx ky my ny nyA ey1 ey2 ey3 ey4 eyA ay1 ay2 ay3 ay4 ayA gy gyA ly hy' by' ely hbd hel
  rw [← bx, ← by'] at hbd
  rw [← elx, ← ely] at hel
  have h87 : ∀ (W' : World), Below w0.heap.size w0 W' → Calls Tryz.prog 87 #[.slice nA nn nc, .slice nA' nn' nc'] W' (BoolPost (same x.ns y.ns) W') := fun W' hW' => by
    rw [nx, ny]
    exact eqS_any w0 x.ns y.ns nA nA' nxA nyA nc nc' W' hW' (by omega) (by omega)
  have h37e : ∀ (W' : World), Below w0.heap.size w0 W' → Calls Tryz.prog 37 #[.agg #[.int .i64 eo, .int .u64 eu, .string en, .slice eA ek ec], .agg #[.int .i64 eo', .int .u64 eu', .string en', .slice eA' ek' ec']] W' (BoolPost (same x.e y.e) W') := fun W' hW' => by
    rw [ex1, ex2, ex3, ex4, ey1, ey2, ey3, ey4]
    exact sameE_any w0 x.e eA exA y.e eA' ec ec' W' (by omega) (by omega) eyA hW'
  have h37a : ∀ (W' : World), Below w0.heap.size w0 W' → Calls Tryz.prog 37 #[.agg #[.int .i64 ao, .int .u64 au, .string an, .slice aA ak ac], .agg #[.int .i64 ao', .int .u64 au', .string an', .slice aA' ak' ac']] W' (BoolPost (same x.a y.a) W') := fun W' hW' => by
    rw [ax1, ax2, ax3, ax4, ay1, ay2, ay3, ay4]
    exact sameE_any w0 x.a aA axA y.a aA' ac ac' W' (by omega) (by omega) ayA hW'
  have h93 : ∀ (W' : World), Below w0.heap.size w0 W' → Calls Tryz.prog 93 #[.slice gA gn gc, .slice gA' gn' gc', .func (.func 37) #[] #[]] W' (BoolPost (same x.ars y.ars) W') := fun W' hW' => by
    rw [gx, gy]
    exact equalE_any 37 (enters_of Tryz.func37 (by kernel_rfl) rfl) w0 x.ars y.ars gA gA' gxA gyA gc gc' W' hW' (by omega) (by omega)
      (fun i p q P Q cp cq hp hq hpe hqe W2 hW2 => sameE_any w0 p P hpe q Q cp cq W2 (by have := cnt_mem hp; omega) (by have := cnt_mem hq; omega) hqe hW2)
  rw [same_st, ← kx, ← ky, ← mx, ← my, ← lx, ← ly, ← hx', ← hy', ← int_beq' kd kd', ← bytes_beq' nm nm', ← nat_beq' lo lo', ← nat_beq' hi hi']
  generalize same x.ns y.ns = t5 at h87 ⊢
  generalize same x.e y.e = t6 at h37e ⊢
  generalize same x.a y.a = t7 at h37a ⊢
  generalize same x.ars y.ars = t8 at h93 ⊢
  generalize same x.bd y.bd = t9 at hbd ⊢
  generalize same x.el y.el = t10 at hel ⊢
  clear hcx0 hcy0 l1 l2 l3 l4 hcx hcy nx nxA ex1 ex2 ex3 ex4 exA exu ax1 ax2 ax3 ax4 axA axu gx gxA bx elx ny nyA ey1 ey2 ey3 ey4 eyA eyu ay1 ay2 ay3 ay4 ayA ayu gy gyA by' ely kx ky mx my lx ly hx' hy'
  unfold vlT
  dsimp only
  obtain ⟨W1, hW1⟩ : ∃ W1, W.alloc (.cells #[.int .i64 kd, .string nm, .slice nA nn nc, .int .i64 eo, .int .u64 eu, .string en, .slice eA ek ec, .int .i64 ao, .int .u64 au, .string an, .slice aA ak ac, .slice gA gn gc, .int .u64 lo, .int .u64 hi, .slice bA bn bc, .slice lA ln lc] 50) = W1 := ⟨_, rfl⟩
  obtain ⟨W2, hW2⟩ : ∃ W2, W1.alloc (.cells #[.int .i64 kd', .string nm', .slice nA' nn' nc', .int .i64 eo', .int .u64 eu', .string en', .slice eA' ek' ec', .int .i64 ao', .int .u64 au', .string an', .slice aA' ak' ac', .slice gA' gn' gc', .int .u64 lo', .int .u64 hi', .slice bA' bn' bc', .slice lA' ln' lc'] 50) = W2 := ⟨_, rfl⟩
  have hb1 : Below W.heap.size W W1 := by rw [← hW1]; exact (Below.refl _ W).alloc (Nat.le_refl _) _
  have hb2 : Below W.heap.size W W2 := by rw [← hW2]; exact hb1.alloc hb1.size _
  have hs1 : W1.heap.size = W.heap.size + 1 := by rw [← hW1]; simp
  have hx1 : W1.heap[W.heap.size]? = some (.cells #[.int .i64 kd, .string nm, .slice nA nn nc, .int .i64 eo, .int .u64 eu, .string en, .slice eA ek ec, .int .i64 ao, .int .u64 au, .string an, .slice aA ak ac, .slice gA gn gc, .int .u64 lo, .int .u64 hi, .slice bA bn bc, .slice lA ln lc] 50 (0, 0)) := by rw [← hW1]; exact heap_alloc_new _ _
  have hY : W2.heap[W1.heap.size]? = some (.cells #[.int .i64 kd', .string nm', .slice nA' nn' nc', .int .i64 eo', .int .u64 eu', .string en', .slice eA' ek' ec', .int .i64 ao', .int .u64 au', .string an', .slice aA' ak' ac', .slice gA' gn' gc', .int .u64 lo', .int .u64 hi', .slice bA' bn' bc', .slice lA' ln' lc'] 50 (0, 0)) := by rw [← hW2]; exact heap_alloc_new _ _
  have hX : W2.heap[W.heap.size]? = some (.cells #[.int .i64 kd, .string nm, .slice nA nn nc, .int .i64 eo, .int .u64 eu, .string en, .slice eA ek ec, .int .i64 ao, .int .u64 au, .string an, .slice aA ak ac, .slice gA gn gc, .int .u64 lo, .int .u64 hi, .slice bA bn bc, .slice lA ln lc] 50 (0, 0)) := by rw [← hW2, heap_alloc_old _ _ (by omega)]; exact hx1
  obtain ⟨p0, p1, p2, p3, p4, p5, p6, p7, p8, p9, p10, p11, p12, p13, p14, p15⟩ := box16 hX
  obtain ⟨q0, q1, q2, q3, q4, q5, q6, q7, q8, q9, q10, q11, q12, q13, q14, q15⟩ := box16 hY
  have up : ∀ W', Below W2.heap.size W2 W' → Below w0.heap.size w0 W' := fun W' h => hW.trans ((Below.next hb2 h).mono hW.size)
  have h87 := Lib.hid fun W' (h : Below W2.heap.size W2 W') => h87 W' (up W' h)
  have h37e := Lib.hid fun W' (h : Below W2.heap.size W2 W') => h37e W' (up W' h)
  have h37a := Lib.hid fun W' (h : Below W2.heap.size W2 W') => h37a W' (up W' h)
  have h93 := Lib.hid fun W' (h : Below W2.heap.size W2 W') => h93 W' (up W' h)
  have hbd := Lib.hid fun W' (h : Below W2.heap.size W2 W') => hbd W' (up W' h)
  have hel := Lib.hid fun W' (h : Below W2.heap.size W2 W') => hel W' (up W' h)
  have hbw := Lib.hid (Below.refl W2.heap.size W2)
  have hX := Lib.hid hX
  have hY := Lib.hid hY
  have hb2 := Lib.hid hb2
  clear up hW hb1 hs1 hx1
  obtain ⟨b1, h1⟩ : ∃ b, (kd == kd') = b := ⟨_, rfl⟩
  obtain ⟨b2, h2⟩ : ∃ b, (nm.toList == nm'.toList) = b := ⟨_, rfl⟩
  obtain ⟨b3, h3⟩ : ∃ b, ((lo : Int) == (lo' : Int)) = b := ⟨_, rfl⟩
  obtain ⟨b4, h4⟩ : ∃ b, ((hi : Int) == (hi' : Int)) = b := ⟨_, rfl⟩
  rw [h1, h2, h3, h4]
  cases b1
  · go_enter Tryz.func91, Tryz.ntmps91
    go_wp2
    go_ret
    exact ⟨rfl, Below.next hb2.out hbw.out⟩
  · skip
    cases b2
    · go_enter Tryz.func91, Tryz.ntmps91
      go_wp2
      go_ret
      exact ⟨rfl, Below.next hb2.out hbw.out⟩
    · skip
      cases b3
      · go_enter Tryz.func91, Tryz.ntmps91
        go_wp2
        go_ret
        exact ⟨rfl, Below.next hb2.out hbw.out⟩
      · skip
        cases b4
        · go_enter Tryz.func91, Tryz.ntmps91
          go_wp2
          go_ret
          exact ⟨rfl, Below.next hb2.out hbw.out⟩
        · skip
          go_enter Tryz.func91, Tryz.ntmps91
          go_wp2_with fail
          refine (h87.out _ hbw.out).mono ?_
          rintro e w3 ⟨rfl, hbn⟩
          have hbw := Lib.hid (Below.next hbw.out hbn)
          clear hbn p0 p1 p2 p3 p4 p5 p6 p7 p8 p9 p10 p11 p12 p13 p14 p15 q0 q1 q2 q3 q4 q5 q6 q7 q8 q9 q10 q11 q12 q13 q14 q15
          cases t5
          · go_wp2
            go_ret
            exact ⟨rfl, Below.next hb2.out hbw.out⟩
          · obtain ⟨p0, p1, p2, p3, p4, p5, p6, p7, p8, p9, p10, p11, p12, p13, p14, p15⟩ := box16 ((hbw.out.block _ (blk_lt hX.out)).trans hX.out)
            obtain ⟨q0, q1, q2, q3, q4, q5, q6, q7, q8, q9, q10, q11, q12, q13, q14, q15⟩ := box16 ((hbw.out.block _ (blk_lt hY.out)).trans hY.out)
            go_wp2_with fail
            refine (h37e.out _ hbw.out).mono ?_
            rintro e w4 ⟨rfl, hbn⟩
            have hbw := Lib.hid (Below.next hbw.out hbn)
            clear hbn p0 p1 p2 p3 p4 p5 p6 p7 p8 p9 p10 p11 p12 p13 p14 p15 q0 q1 q2 q3 q4 q5 q6 q7 q8 q9 q10 q11 q12 q13 q14 q15
            cases t6
            · go_wp2
              go_ret
              exact ⟨rfl, Below.next hb2.out hbw.out⟩
            · obtain ⟨p0, p1, p2, p3, p4, p5, p6, p7, p8, p9, p10, p11, p12, p13, p14, p15⟩ := box16 ((hbw.out.block _ (blk_lt hX.out)).trans hX.out)
              obtain ⟨q0, q1, q2, q3, q4, q5, q6, q7, q8, q9, q10, q11, q12, q13, q14, q15⟩ := box16 ((hbw.out.block _ (blk_lt hY.out)).trans hY.out)
              go_wp2_with fail
              refine (h37a.out _ hbw.out).mono ?_
              rintro e w5 ⟨rfl, hbn⟩
              have hbw := Lib.hid (Below.next hbw.out hbn)
              clear hbn p0 p1 p2 p3 p4 p5 p6 p7 p8 p9 p10 p11 p12 p13 p14 p15 q0 q1 q2 q3 q4 q5 q6 q7 q8 q9 q10 q11 q12 q13 q14 q15
              cases t7
              · go_wp2
                go_ret
                exact ⟨rfl, Below.next hb2.out hbw.out⟩
              · obtain ⟨p0, p1, p2, p3, p4, p5, p6, p7, p8, p9, p10, p11, p12, p13, p14, p15⟩ := box16 ((hbw.out.block _ (blk_lt hX.out)).trans hX.out)
                obtain ⟨q0, q1, q2, q3, q4, q5, q6, q7, q8, q9, q10, q11, q12, q13, q14, q15⟩ := box16 ((hbw.out.block _ (blk_lt hY.out)).trans hY.out)
                go_wp2_with fail
                refine (h93.out _ hbw.out).mono ?_
                rintro e w6 ⟨rfl, hbn⟩
                have hbw := Lib.hid (Below.next hbw.out hbn)
                clear hbn p0 p1 p2 p3 p4 p5 p6 p7 p8 p9 p10 p11 p12 p13 p14 p15 q0 q1 q2 q3 q4 q5 q6 q7 q8 q9 q10 q11 q12 q13 q14 q15
                cases t8
                · go_wp2
                  go_ret
                  exact ⟨rfl, Below.next hb2.out hbw.out⟩
                · obtain ⟨p0, p1, p2, p3, p4, p5, p6, p7, p8, p9, p10, p11, p12, p13, p14, p15⟩ := box16 ((hbw.out.block _ (blk_lt hX.out)).trans hX.out)
                  obtain ⟨q0, q1, q2, q3, q4, q5, q6, q7, q8, q9, q10, q11, q12, q13, q14, q15⟩ := box16 ((hbw.out.block _ (blk_lt hY.out)).trans hY.out)
                  go_wp2_with fail
                  refine (hbd.out _ hbw.out).mono ?_
                  rintro e w7 ⟨rfl, hbn⟩
                  have hbw := Lib.hid (Below.next hbw.out hbn)
                  clear hbn p0 p1 p2 p3 p4 p5 p6 p7 p8 p9 p10 p11 p12 p13 p14 p15 q0 q1 q2 q3 q4 q5 q6 q7 q8 q9 q10 q11 q12 q13 q14 q15
                  cases t9
                  · go_wp2
                    go_ret
                    exact ⟨rfl, Below.next hb2.out hbw.out⟩
                  · obtain ⟨p0, p1, p2, p3, p4, p5, p6, p7, p8, p9, p10, p11, p12, p13, p14, p15⟩ := box16 ((hbw.out.block _ (blk_lt hX.out)).trans hX.out)
                    obtain ⟨q0, q1, q2, q3, q4, q5, q6, q7, q8, q9, q10, q11, q12, q13, q14, q15⟩ := box16 ((hbw.out.block _ (blk_lt hY.out)).trans hY.out)
                    go_wp2_with fail
                    refine (hel.out _ hbw.out).mono ?_
                    rintro e w8 ⟨rfl, hbn⟩
                    have hbw := Lib.hid (Below.next hbw.out hbn)
                    clear hbn p0 p1 p2 p3 p4 p5 p6 p7 p8 p9 p10 p11 p12 p13 p14 p15 q0 q1 q2 q3 q4 q5 q6 q7 q8 q9 q10 q11 q12 q13 q14 q15
                    cases t10
                    · go_wp2
                      go_ret
                      exact ⟨rfl, Below.next hb2.out hbw.out⟩
                    · go_wp2
                      go_ret
                      exact ⟨rfl, Below.next hb2.out hbw.out⟩
set_option maxRecDepth 100000 in
set_option maxHeartbeats 4000000 in
theorem equalT_any (g : Nat) (hent : ∀ args w, (callFunc g args).run Tryz.prog w = .ok (.enter g args) w) (w0 : World) (L M : List St) (A B : Option Addr) (hL : StsAt w0 L A) (hM : StsAt w0 M B) (c d : Nat) (W : World) (hW : Below w0.heap.size w0 W) (hn : L.length ≤ 1000000) (hm : M.length ≤ 1000000)
    (hc : ∀ (i : Nat) (x y : St) (r s : StC), L[i]? = some x → M[i]? = some y → SNow w0 x r → SNow w0 y s → StsAt w0 x.bd r.bd.a → StsAt w0 x.el r.el.a → StsAt w0 y.bd s.bd.a → StsAt w0 y.el s.el.a → ∀ (W' : World), Below w0.heap.size w0 W' → Calls Tryz.prog g #[vlT r, vlT s] W' (BoolPost (same x y) W')) :
    Calls Tryz.prog 90 #[.slice A L.length c, .slice B M.length d, .func (.func g) #[] #[]] W (BoolPost (same L M) W) := by
  have hL' := Lib.hid hL
  have hM' := Lib.hid hM
  have hc' := Lib.hid hc
  have hW' := Lib.hid hW
  obtain ⟨n, hnn⟩ : ∃ n, L.length = n := ⟨_, rfl⟩
  obtain ⟨m, hmm⟩ : ∃ m, M.length = m := ⟨_, rfl⟩
  rw [hnn] at hn ⊢
  rw [hmm] at hm ⊢
  have hLn := Lib.hid hnn
  have hMn := Lib.hid hmm
  clear hL hM hc hW hnn hmm
  by_cases hnm : n = m
  · subst hnm
    have e1 : ¬ ¬ ((n : Int) = (n : Int)) := by omega
    go_enter Tryz.func90, Tryz.ntmps90
    go_wp2_with fail
    go_loopg [17] n (fun g s17 wr => ∃ k : Nat, k + g = n ∧ s17 = .int .i64 k ∧ (∀ i : Nat, i < k → L[i]? = M[i]?) ∧ Below W.heap.size W wr)
    case atStart => exact ⟨0, by omega, rfl, fun i h => absurd h (by omega), Below.refl _ _⟩
    case round =>
      obtain ⟨k, hkg, rfl, hall, hbr⟩ := hrel
      have hall' := Lib.hid hall
      have hbr' := Lib.hid hbr
      clear hall hbr
      cases gk with
      | zero =>
        have e0 : ¬ ((k : Int) < (n : Int)) := by omega
        have hs := Lib.hid (show same L M = true from same_true.2 (List.ext_getElem? fun i => by
          by_cases hi : i < k
          · exact hall'.out i hi
          · rw [List.getElem?_eq_none (by have := hLn.out; omega), List.getElem?_eq_none (by have := hMn.out; omega)]))
        go_wp2
        go_ret
        exact ⟨by rw [hs.out]; rfl, hbr'.out⟩
      | succ g2 =>
        have e0 : (k : Int) < (n : Int) := by omega
        have hbw := Lib.hid (hW'.out.trans (hbr'.out.mono hW'.out.size))
        obtain ⟨blk, off, x, r, rfl, hx, hcx, hxe, hxb, hxl⟩ := (hL'.out).at_ (k := k) (by rw [hLn.out]; omega)
        obtain ⟨blk', off', y, s, rfl, hy, hcy, hye, hyb, hyl⟩ := (hM'.out).at_ (k := k) (by rw [hMn.out]; omega)
        obtain ⟨kd, nm, ⟨nA, nn, nc⟩, ⟨eo, eu, en, ⟨eA, ek, ec⟩⟩, ⟨ao, au, an, ⟨aA, ak, ac⟩⟩, ⟨gA, gn, gc⟩, lo, hi, ⟨bA, bn, bc⟩, ⟨lA, ln, lc⟩⟩ := r
        obtain ⟨kd', nm', ⟨nA', nn', nc'⟩, ⟨eo', eu', en', ⟨eA', ek', ec'⟩⟩, ⟨ao', au', an', ⟨aA', ak', ac'⟩⟩, ⟨gA', gn', gc'⟩, lo', hi', ⟨bA', bn', bc'⟩, ⟨lA', ln', lc'⟩⟩ := s
        have v0 : w0.cell? ⟨blk, off + k * 16, none⟩ = some (.int .i64 kd) := hcx 0 (by omega)
        have v0 := (hbw.out.cell (p := ⟨blk, off + k * 16, none⟩) (cell_some_lt v0)).trans v0
        have v1 : w0.cell? ⟨blk, off + k * 16 + 1, none⟩ = some (.string nm) := hcx 1 (by omega)
        have v1 := (hbw.out.cell (p := ⟨blk, off + k * 16 + 1, none⟩) (cell_some_lt v1)).trans v1
        have v2 : w0.cell? ⟨blk, off + k * 16 + 2, none⟩ = some (.slice nA nn nc) := hcx 2 (by omega)
        have v2 := (hbw.out.cell (p := ⟨blk, off + k * 16 + 2, none⟩) (cell_some_lt v2)).trans v2
        have v3 : w0.cell? ⟨blk, off + k * 16 + 3, none⟩ = some (.int .i64 eo) := hcx 3 (by omega)
        have v3 := (hbw.out.cell (p := ⟨blk, off + k * 16 + 3, none⟩) (cell_some_lt v3)).trans v3
        have v4 : w0.cell? ⟨blk, off + k * 16 + 4, none⟩ = some (.int .u64 eu) := hcx 4 (by omega)
        have v4 := (hbw.out.cell (p := ⟨blk, off + k * 16 + 4, none⟩) (cell_some_lt v4)).trans v4
        have v5 : w0.cell? ⟨blk, off + k * 16 + 5, none⟩ = some (.string en) := hcx 5 (by omega)
        have v5 := (hbw.out.cell (p := ⟨blk, off + k * 16 + 5, none⟩) (cell_some_lt v5)).trans v5
        have v6 : w0.cell? ⟨blk, off + k * 16 + 6, none⟩ = some (.slice eA ek ec) := hcx 6 (by omega)
        have v6 := (hbw.out.cell (p := ⟨blk, off + k * 16 + 6, none⟩) (cell_some_lt v6)).trans v6
        have v7 : w0.cell? ⟨blk, off + k * 16 + 7, none⟩ = some (.int .i64 ao) := hcx 7 (by omega)
        have v7 := (hbw.out.cell (p := ⟨blk, off + k * 16 + 7, none⟩) (cell_some_lt v7)).trans v7
        have v8 : w0.cell? ⟨blk, off + k * 16 + 8, none⟩ = some (.int .u64 au) := hcx 8 (by omega)
        have v8 := (hbw.out.cell (p := ⟨blk, off + k * 16 + 8, none⟩) (cell_some_lt v8)).trans v8
        have v9 : w0.cell? ⟨blk, off + k * 16 + 9, none⟩ = some (.string an) := hcx 9 (by omega)
        have v9 := (hbw.out.cell (p := ⟨blk, off + k * 16 + 9, none⟩) (cell_some_lt v9)).trans v9
        have v10 : w0.cell? ⟨blk, off + k * 16 + 10, none⟩ = some (.slice aA ak ac) := hcx 10 (by omega)
        have v10 := (hbw.out.cell (p := ⟨blk, off + k * 16 + 10, none⟩) (cell_some_lt v10)).trans v10
        have v11 : w0.cell? ⟨blk, off + k * 16 + 11, none⟩ = some (.slice gA gn gc) := hcx 11 (by omega)
        have v11 := (hbw.out.cell (p := ⟨blk, off + k * 16 + 11, none⟩) (cell_some_lt v11)).trans v11
        have v12 : w0.cell? ⟨blk, off + k * 16 + 12, none⟩ = some (.int .u64 lo) := hcx 12 (by omega)
        have v12 := (hbw.out.cell (p := ⟨blk, off + k * 16 + 12, none⟩) (cell_some_lt v12)).trans v12
        have v13 : w0.cell? ⟨blk, off + k * 16 + 13, none⟩ = some (.int .u64 hi) := hcx 13 (by omega)
        have v13 := (hbw.out.cell (p := ⟨blk, off + k * 16 + 13, none⟩) (cell_some_lt v13)).trans v13
        have v14 : w0.cell? ⟨blk, off + k * 16 + 14, none⟩ = some (.slice bA bn bc) := hcx 14 (by omega)
        have v14 := (hbw.out.cell (p := ⟨blk, off + k * 16 + 14, none⟩) (cell_some_lt v14)).trans v14
        have v15 : w0.cell? ⟨blk, off + k * 16 + 15, none⟩ = some (.slice lA ln lc) := hcx 15 (by omega)
        have v15 := (hbw.out.cell (p := ⟨blk, off + k * 16 + 15, none⟩) (cell_some_lt v15)).trans v15
        have u0 : w0.cell? ⟨blk', off' + k * 16, none⟩ = some (.int .i64 kd') := hcy 0 (by omega)
        have u1 : w0.cell? ⟨blk', off' + k * 16 + 1, none⟩ = some (.string nm') := hcy 1 (by omega)
        have u2 : w0.cell? ⟨blk', off' + k * 16 + 2, none⟩ = some (.slice nA' nn' nc') := hcy 2 (by omega)
        have u3 : w0.cell? ⟨blk', off' + k * 16 + 3, none⟩ = some (.int .i64 eo') := hcy 3 (by omega)
        have u4 : w0.cell? ⟨blk', off' + k * 16 + 4, none⟩ = some (.int .u64 eu') := hcy 4 (by omega)
        have u5 : w0.cell? ⟨blk', off' + k * 16 + 5, none⟩ = some (.string en') := hcy 5 (by omega)
        have u6 : w0.cell? ⟨blk', off' + k * 16 + 6, none⟩ = some (.slice eA' ek' ec') := hcy 6 (by omega)
        have u7 : w0.cell? ⟨blk', off' + k * 16 + 7, none⟩ = some (.int .i64 ao') := hcy 7 (by omega)
        have u8 : w0.cell? ⟨blk', off' + k * 16 + 8, none⟩ = some (.int .u64 au') := hcy 8 (by omega)
        have u9 : w0.cell? ⟨blk', off' + k * 16 + 9, none⟩ = some (.string an') := hcy 9 (by omega)
        have u10 : w0.cell? ⟨blk', off' + k * 16 + 10, none⟩ = some (.slice aA' ak' ac') := hcy 10 (by omega)
        have u11 : w0.cell? ⟨blk', off' + k * 16 + 11, none⟩ = some (.slice gA' gn' gc') := hcy 11 (by omega)
        have u12 : w0.cell? ⟨blk', off' + k * 16 + 12, none⟩ = some (.int .u64 lo') := hcy 12 (by omega)
        have u13 : w0.cell? ⟨blk', off' + k * 16 + 13, none⟩ = some (.int .u64 hi') := hcy 13 (by omega)
        have u14 : w0.cell? ⟨blk', off' + k * 16 + 14, none⟩ = some (.slice bA' bn' bc') := hcy 14 (by omega)
        have u15 : w0.cell? ⟨blk', off' + k * 16 + 15, none⟩ = some (.slice lA' ln' lc') := hcy 15 (by omega)
        obtain ⟨w1, hw1⟩ : ∃ w1, wr.alloc (.cells #[.int .i64 kd, .string nm, .slice nA nn nc, .int .i64 eo, .int .u64 eu, .string en, .slice eA ek ec, .int .i64 ao, .int .u64 au, .string an, .slice aA ak ac, .slice gA gn gc, .int .u64 lo, .int .u64 hi, .slice bA bn bc, .slice lA ln lc] 50) = w1 := ⟨_, rfl⟩
        obtain ⟨wB, hwB⟩ : ∃ wB, w1.alloc (.cells #[.int .i64 kd', .string nm', .slice nA' nn' nc', .int .i64 eo', .int .u64 eu', .string en', .slice eA' ek' ec', .int .i64 ao', .int .u64 au', .string an', .slice aA' ak' ac', .slice gA' gn' gc', .int .u64 lo', .int .u64 hi', .slice bA' bn' bc', .slice lA' ln' lc'] 50) = wB := ⟨_, rfl⟩
        have hbA := hbr'.out.alloc hbr'.out.size (.cells #[.int .i64 kd, .string nm, .slice nA nn nc, .int .i64 eo, .int .u64 eu, .string en, .slice eA ek ec, .int .i64 ao, .int .u64 au, .string an, .slice aA ak ac, .slice gA gn gc, .int .u64 lo, .int .u64 hi, .slice bA bn bc, .slice lA ln lc] 50)
        rw [hw1] at hbA
        have hbB := hbA.alloc hbA.size (.cells #[.int .i64 kd', .string nm', .slice nA' nn' nc', .int .i64 eo', .int .u64 eu', .string en', .slice eA' ek' ec', .int .i64 ao', .int .u64 au', .string an', .slice aA' ak' ac', .slice gA' gn' gc', .int .u64 lo', .int .u64 hi', .slice bA' bn' bc', .slice lA' ln' lc'] 50)
        rw [hwB] at hbB
        have hbB := Lib.hid hbB
        have hs1 : w1.heap.size = wr.heap.size + 1 := by rw [← hw1]; simp
        have hx1 : w1.heap[wr.heap.size]? = some (.cells #[.int .i64 kd, .string nm, .slice nA nn nc, .int .i64 eo, .int .u64 eu, .string en, .slice eA ek ec, .int .i64 ao, .int .u64 au, .string an, .slice aA ak ac, .slice gA gn gc, .int .u64 lo, .int .u64 hi, .slice bA bn bc, .slice lA ln lc] 50 (0, 0)) := by rw [← hw1]; exact heap_alloc_new _ _
        have hy1 : wB.heap[w1.heap.size]? = some (.cells #[.int .i64 kd', .string nm', .slice nA' nn' nc', .int .i64 eo', .int .u64 eu', .string en', .slice eA' ek' ec', .int .i64 ao', .int .u64 au', .string an', .slice aA' ak' ac', .slice gA' gn' gc', .int .u64 lo', .int .u64 hi', .slice bA' bn' bc', .slice lA' ln' lc'] 50 (0, 0)) := by rw [← hwB]; exact heap_alloc_new _ _
        have hx2 : wB.heap[wr.heap.size]? = some (.cells #[.int .i64 kd, .string nm, .slice nA nn nc, .int .i64 eo, .int .u64 eu, .string en, .slice eA ek ec, .int .i64 ao, .int .u64 au, .string an, .slice aA ak ac, .slice gA gn gc, .int .u64 lo, .int .u64 hi, .slice bA bn bc, .slice lA ln lc] 50 (0, 0)) := by rw [← hwB, heap_alloc_old _ _ (by omega)]; exact hx1
        have p0 : wB.cell? ⟨wr.heap.size, 0, none⟩ = some (.int .i64 kd) := by rw [blk_cell hx2]; rfl
        have p1 : wB.cell? ⟨wr.heap.size, 1, none⟩ = some (.string nm) := by rw [blk_cell hx2]; rfl
        have p2 : wB.cell? ⟨wr.heap.size, 2, none⟩ = some (.slice nA nn nc) := by rw [blk_cell hx2]; rfl
        have p3 : wB.cell? ⟨wr.heap.size, 3, none⟩ = some (.int .i64 eo) := by rw [blk_cell hx2]; rfl
        have p4 : wB.cell? ⟨wr.heap.size, 4, none⟩ = some (.int .u64 eu) := by rw [blk_cell hx2]; rfl
        have p5 : wB.cell? ⟨wr.heap.size, 5, none⟩ = some (.string en) := by rw [blk_cell hx2]; rfl
        have p6 : wB.cell? ⟨wr.heap.size, 6, none⟩ = some (.slice eA ek ec) := by rw [blk_cell hx2]; rfl
        have p7 : wB.cell? ⟨wr.heap.size, 7, none⟩ = some (.int .i64 ao) := by rw [blk_cell hx2]; rfl
        have p8 : wB.cell? ⟨wr.heap.size, 8, none⟩ = some (.int .u64 au) := by rw [blk_cell hx2]; rfl
        have p9 : wB.cell? ⟨wr.heap.size, 9, none⟩ = some (.string an) := by rw [blk_cell hx2]; rfl
        have p10 : wB.cell? ⟨wr.heap.size, 10, none⟩ = some (.slice aA ak ac) := by rw [blk_cell hx2]; rfl
        have p11 : wB.cell? ⟨wr.heap.size, 11, none⟩ = some (.slice gA gn gc) := by rw [blk_cell hx2]; rfl
        have p12 : wB.cell? ⟨wr.heap.size, 12, none⟩ = some (.int .u64 lo) := by rw [blk_cell hx2]; rfl
        have p13 : wB.cell? ⟨wr.heap.size, 13, none⟩ = some (.int .u64 hi) := by rw [blk_cell hx2]; rfl
        have p14 : wB.cell? ⟨wr.heap.size, 14, none⟩ = some (.slice bA bn bc) := by rw [blk_cell hx2]; rfl
        have p15 : wB.cell? ⟨wr.heap.size, 15, none⟩ = some (.slice lA ln lc) := by rw [blk_cell hx2]; rfl
        have q0 : wB.cell? ⟨w1.heap.size, 0, none⟩ = some (.int .i64 kd') := by rw [blk_cell hy1]; rfl
        have q1 : wB.cell? ⟨w1.heap.size, 1, none⟩ = some (.string nm') := by rw [blk_cell hy1]; rfl
        have q2 : wB.cell? ⟨w1.heap.size, 2, none⟩ = some (.slice nA' nn' nc') := by rw [blk_cell hy1]; rfl
        have q3 : wB.cell? ⟨w1.heap.size, 3, none⟩ = some (.int .i64 eo') := by rw [blk_cell hy1]; rfl
        have q4 : wB.cell? ⟨w1.heap.size, 4, none⟩ = some (.int .u64 eu') := by rw [blk_cell hy1]; rfl
        have q5 : wB.cell? ⟨w1.heap.size, 5, none⟩ = some (.string en') := by rw [blk_cell hy1]; rfl
        have q6 : wB.cell? ⟨w1.heap.size, 6, none⟩ = some (.slice eA' ek' ec') := by rw [blk_cell hy1]; rfl
        have q7 : wB.cell? ⟨w1.heap.size, 7, none⟩ = some (.int .i64 ao') := by rw [blk_cell hy1]; rfl
        have q8 : wB.cell? ⟨w1.heap.size, 8, none⟩ = some (.int .u64 au') := by rw [blk_cell hy1]; rfl
        have q9 : wB.cell? ⟨w1.heap.size, 9, none⟩ = some (.string an') := by rw [blk_cell hy1]; rfl
        have q10 : wB.cell? ⟨w1.heap.size, 10, none⟩ = some (.slice aA' ak' ac') := by rw [blk_cell hy1]; rfl
        have q11 : wB.cell? ⟨w1.heap.size, 11, none⟩ = some (.slice gA' gn' gc') := by rw [blk_cell hy1]; rfl
        have q12 : wB.cell? ⟨w1.heap.size, 12, none⟩ = some (.int .u64 lo') := by rw [blk_cell hy1]; rfl
        have q13 : wB.cell? ⟨w1.heap.size, 13, none⟩ = some (.int .u64 hi') := by rw [blk_cell hy1]; rfl
        have q14 : wB.cell? ⟨w1.heap.size, 14, none⟩ = some (.slice bA' bn' bc') := by rw [blk_cell hy1]; rfl
        have q15 : wB.cell? ⟨w1.heap.size, 15, none⟩ = some (.slice lA' ln' lc') := by rw [blk_cell hy1]; rfl
        have u0 : w1.cell? ⟨blk', off' + k * 16, none⟩ = _ := ((hW'.out.trans (hbA.mono hW'.out.size)).cell (p := ⟨blk', off' + k * 16, none⟩) (cell_some_lt u0)).trans u0
        have u1 : w1.cell? ⟨blk', off' + k * 16 + 1, none⟩ = _ := ((hW'.out.trans (hbA.mono hW'.out.size)).cell (p := ⟨blk', off' + k * 16 + 1, none⟩) (cell_some_lt u1)).trans u1
        have u2 : w1.cell? ⟨blk', off' + k * 16 + 2, none⟩ = _ := ((hW'.out.trans (hbA.mono hW'.out.size)).cell (p := ⟨blk', off' + k * 16 + 2, none⟩) (cell_some_lt u2)).trans u2
        have u3 : w1.cell? ⟨blk', off' + k * 16 + 3, none⟩ = _ := ((hW'.out.trans (hbA.mono hW'.out.size)).cell (p := ⟨blk', off' + k * 16 + 3, none⟩) (cell_some_lt u3)).trans u3
        have u4 : w1.cell? ⟨blk', off' + k * 16 + 4, none⟩ = _ := ((hW'.out.trans (hbA.mono hW'.out.size)).cell (p := ⟨blk', off' + k * 16 + 4, none⟩) (cell_some_lt u4)).trans u4
        have u5 : w1.cell? ⟨blk', off' + k * 16 + 5, none⟩ = _ := ((hW'.out.trans (hbA.mono hW'.out.size)).cell (p := ⟨blk', off' + k * 16 + 5, none⟩) (cell_some_lt u5)).trans u5
        have u6 : w1.cell? ⟨blk', off' + k * 16 + 6, none⟩ = _ := ((hW'.out.trans (hbA.mono hW'.out.size)).cell (p := ⟨blk', off' + k * 16 + 6, none⟩) (cell_some_lt u6)).trans u6
        have u7 : w1.cell? ⟨blk', off' + k * 16 + 7, none⟩ = _ := ((hW'.out.trans (hbA.mono hW'.out.size)).cell (p := ⟨blk', off' + k * 16 + 7, none⟩) (cell_some_lt u7)).trans u7
        have u8 : w1.cell? ⟨blk', off' + k * 16 + 8, none⟩ = _ := ((hW'.out.trans (hbA.mono hW'.out.size)).cell (p := ⟨blk', off' + k * 16 + 8, none⟩) (cell_some_lt u8)).trans u8
        have u9 : w1.cell? ⟨blk', off' + k * 16 + 9, none⟩ = _ := ((hW'.out.trans (hbA.mono hW'.out.size)).cell (p := ⟨blk', off' + k * 16 + 9, none⟩) (cell_some_lt u9)).trans u9
        have u10 : w1.cell? ⟨blk', off' + k * 16 + 10, none⟩ = _ := ((hW'.out.trans (hbA.mono hW'.out.size)).cell (p := ⟨blk', off' + k * 16 + 10, none⟩) (cell_some_lt u10)).trans u10
        have u11 : w1.cell? ⟨blk', off' + k * 16 + 11, none⟩ = _ := ((hW'.out.trans (hbA.mono hW'.out.size)).cell (p := ⟨blk', off' + k * 16 + 11, none⟩) (cell_some_lt u11)).trans u11
        have u12 : w1.cell? ⟨blk', off' + k * 16 + 12, none⟩ = _ := ((hW'.out.trans (hbA.mono hW'.out.size)).cell (p := ⟨blk', off' + k * 16 + 12, none⟩) (cell_some_lt u12)).trans u12
        have u13 : w1.cell? ⟨blk', off' + k * 16 + 13, none⟩ = _ := ((hW'.out.trans (hbA.mono hW'.out.size)).cell (p := ⟨blk', off' + k * 16 + 13, none⟩) (cell_some_lt u13)).trans u13
        have u14 : w1.cell? ⟨blk', off' + k * 16 + 14, none⟩ = _ := ((hW'.out.trans (hbA.mono hW'.out.size)).cell (p := ⟨blk', off' + k * 16 + 14, none⟩) (cell_some_lt u14)).trans u14
        have u15 : w1.cell? ⟨blk', off' + k * 16 + 15, none⟩ = _ := ((hW'.out.trans (hbA.mono hW'.out.size)).cell (p := ⟨blk', off' + k * 16 + 15, none⟩) (cell_some_lt u15)).trans u15
        have hk2 := hc'.out k x y (⟨kd, nm, ⟨nA, nn, nc⟩, ⟨eo, eu, en, ⟨eA, ek, ec⟩⟩, ⟨ao, au, an, ⟨aA, ak, ac⟩⟩, ⟨gA, gn, gc⟩, lo, hi, ⟨bA, bn, bc⟩, ⟨lA, ln, lc⟩⟩ : StC) (⟨kd', nm', ⟨nA', nn', nc'⟩, ⟨eo', eu', en', ⟨eA', ek', ec'⟩⟩, ⟨ao', au', an', ⟨aA', ak', ac'⟩⟩, ⟨gA', gn', gc'⟩, lo', hi', ⟨bA', bn', bc'⟩, ⟨lA', ln', lc'⟩⟩ : StC) hx hy hxe hye hxb hxl hyb hyl wB (hW'.out.trans (hbB.out.mono hW'.out.size))
        obtain ⟨t, ht⟩ : ∃ t, same x y = t := ⟨_, rfl⟩
        rw [ht] at hk2
        unfold vlT at hk2
        dsimp only at hk2
        have hk2 := Lib.hid hk2
        have hx' := Lib.hid hx
        have hy' := Lib.hid hy
        have ht' := Lib.hid ht
        clear hs1 hx1 hx2 hy1 ht hx hy hbA hxe hye hxb hxl hyb hyl hcx hcy
        go_upto_region 6 with fail
        as_aux_lemma =>
          go_upto_region 7 with fail
          as_aux_lemma =>
            go_wp2_with fail
            refine hk2.out.mono ?_
            rintro e w2 ⟨rfl, hb2⟩
            have hb2' := Lib.hid (Below.next hbB.out hb2)
            clear hb2
            cases t
            · have hs := Lib.hid (show same L M = false from same_false.2 (by
                rintro rfl
                have h := hx'.out.symm.trans hy'.out
                injection h with h
                exact same_false.1 ht'.out h))
              go_wp2
              go_ret
              exact ⟨by rw [hs.out]; rfl, hb2'.out⟩
            · have hxy := Lib.hid (same_true.1 ht'.out)
              go_wp2
              go_roundg g2
              case measure => omega
              case rel => exact ⟨k + 1, by omega, by go_num, fun i hi => by
                  rcases Nat.lt_or_ge i k with h | h
                  · exact hall'.out i h
                  · obtain rfl : i = k := by omega
                    rw [hx'.out, hy'.out, hxy.out], hb2'.out⟩
  · have e1 : ¬ ((n : Int) = (m : Int)) := by omega
    have hs := Lib.hid (show same L M = false from same_false.2 (by
      rintro rfl
      exact hnm (hLn.out.symm.trans hMn.out)))
    go_enter Tryz.func90, Tryz.ntmps90
    go_wp2
    go_ret
    exact ⟨by rw [hs.out]; rfl, Below.refl _ _⟩

set_option maxRecDepth 100000 in
set_option maxHeartbeats 4000000 in
theorem sameSts_any (w0 : World) (L : List St) (A : Option Addr) (h : StsAt w0 L A) : ∀ (M : List St) (B : Option Addr) (c d : Nat) (W : World), cntSs L ≤ 1000000 → cntSs M ≤ 1000000 → StsAt w0 M B → Below w0.heap.size w0 W →
    Calls Tryz.prog 35 #[.slice A L.length c, .slice B M.length d] W (BoolPost (same L M) W) := by
  refine StsAt.all (M := fun L A => ∀ (M : List St) (B : Option Addr) (c d : Nat) (W : World), cntSs L ≤ 1000000 → cntSs M ≤ 1000000 → StsAt w0 M B → Below w0.heap.size w0 W → Calls Tryz.prog 35 #[.slice A L.length c, .slice B M.length d] W (BoolPost (same L M) W)) ?_ L A h
  intro L A hL ih M B c d W hcL hcM hM hW
  have l1 := len_cntSs L
  have l2 := len_cntSs M
  have h90 := Lib.hid (equalT_any 91 (enters_of Tryz.func91 (by kernel_rfl) rfl) w0 L M A B hL hM c d W hW (by omega) (by omega) (fun i x y r s hx hy hxr hys hxb hxl hyb hyl W' hW' => by
    have c1 := cntS_mem hx
    have c2 := cntS_mem hy
    have c3 := cntS_bd x
    have c4 := cntS_bd y
    exact sameSt_any w0 x y r s hxr hys W' hW' (by omega) (by omega) (fun W2 hW2 => (ih i x _ hx).1 hxb y.bd _ _ _ W2 (by omega) (by omega) hyb hW2) (fun W2 hW2 => (ih i x _ hx).2 hxl y.el _ _ _ W2 (by omega) (by omega) hyl hW2)))
  obtain ⟨t, ht⟩ : ∃ t, same L M = t := ⟨_, rfl⟩
  rw [ht] at h90 ⊢
  obtain ⟨n, hn⟩ : ∃ n, L.length = n := ⟨_, rfl⟩
  obtain ⟨m, hm⟩ : ∃ m, M.length = m := ⟨_, rfl⟩
  rw [hn, hm] at h90 ⊢
  clear ih hM hL hW ht hn hm
  go_enter Tryz.func35, Tryz.ntmps35
  go_wp2_with fail
  refine h90.out.mono ?_
  rintro e w1 ⟨rfl, hb⟩
  have hb := Lib.hid hb
  go_wp2
  go_ret
  exact ⟨rfl, hb.out⟩
end Go.Proofs.YtnahgfdoiflacaaGreatDoor
