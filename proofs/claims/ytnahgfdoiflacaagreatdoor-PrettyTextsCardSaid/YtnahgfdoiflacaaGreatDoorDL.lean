/- Which statements can be told: the reference's way. -/
import Derived.Test.YtnahgfdoiflacaaGreatDoorDK
set_option linter.unusedSimpArgs false
set_option linter.unusedVariables false
namespace Go.Proofs.YtnahgfdoiflacaaGreatDoor
open Go.RowKit Go.Lib Go.Shelf

/-- the expressions that a kind names -/
def exprsL (x : St) : List Ex := if x.kd = 1 ∨ x.kd = 3 ∨ x.kd = 4 then [x.e] else if x.kd = 2 then [x.a, x.e] else if x.kd = 6 then x.ars else []
def ExprsPost (L : List Ex) (w : World) (e : Ending) (w' : World) : Prop := ∃ A c, e = .returned (.slice A L.length c) ∧ ExsAt w' L A ∧ Below w.heap.size w w'
theorem exs_nil (w : World) (A : Option Addr) : ExsAt w [] A := ⟨0, 0, fun _ => none, fun _ => 0, fun h => absurd h (by simp), fun i x h => by simp at h, fun i x h => by simp at h, fun i x h => by simp at h⟩
theorem exs_one {w : World} {b : Nat} {x : Ex} {A : Option Addr} {c : Nat} (h : w.heap[b]? = some (.cells #[.int .i64 x.op, .int .u64 x.u, .string x.nm, .slice A x.ars.length c] 26 (0, 0))) (hx : ExAt w x A) (hu : x.u < 18446744073709551616) : ExsAt w [x] (some ⟨b, 0, none⟩) := by
  obtain ⟨p0, p1, p2, p3, _⟩ := box4 h
  refine ⟨b, 0, fun _ => A, fun _ => c, fun _ => rfl, ?_, ?_, ?_⟩
  all_goals
    intro i y hy
    match i, hy with
    | 0, hy => cases hy; first | exact ⟨p0, p1, p2, p3⟩ | exact hu | exact hx
theorem exs_two {w : World} {b : Nat} {x y : Ex} {A B : Option Addr} {c d : Nat} (h : w.heap[b]? = some (.cells #[.int .i64 x.op, .int .u64 x.u, .string x.nm, .slice A x.ars.length c, .int .i64 y.op, .int .u64 y.u, .string y.nm, .slice B y.ars.length d] 26 (0, 0))) (hx : ExAt w x A) (hu : x.u < 18446744073709551616) (hy : ExAt w y B) (hv : y.u < 18446744073709551616) : ExsAt w [x, y] (some ⟨b, 0, none⟩) := by
  obtain ⟨p0, p1, p2, p3, p4, p5, p6, p7⟩ := box8 h
  refine ⟨b, 0, fun i => if i = 0 then A else B, fun i => if i = 0 then c else d, fun _ => rfl, ?_, ?_, ?_⟩
  all_goals
    intro i z hz
    match i, hz with
    | 0, hz => cases hz; first | exact ⟨p0, p1, p2, p3⟩ | exact hu | exact hx
    | 1, hz => cases hz; first | exact ⟨p4, p5, p6, p7⟩ | exact hv | exact hy

set_option maxRecDepth 100000 in
set_option maxHeartbeats 16000000 in
theorem exprs1_any (w0 : World) (x : St) (r : StC) (hx : SNow w0 x r) (hk : x.kd = 1 ∨ x.kd = 3 ∨ x.kd = 4) (W : World) (hW : Below w0.heap.size w0 W) : Calls Tryz.prog 172 #[vlT r] W (ExprsPost (exprsL x) W) := by
  have hL : exprsL x = [x.e] := by
    unfold exprsL
    rw [if_pos hk]
  rw [hL]
  have hkr : r.kd = x.kd := hx.kd
  rw [← hkr] at hk
  clear hL
  obtain ⟨kd, nm, ⟨nA, nn, nc⟩, ⟨eo, eu, en, ⟨eA, ek, ec⟩⟩, ⟨ao, au, an, ⟨aA, ak, ac⟩⟩, ⟨gA, gn, gc⟩, lo, hi, ⟨bA, bn, bc⟩, ⟨lA, ln, lc⟩⟩ := r
  obtain ⟨kx, mx, nx, nxA, ⟨ex1, ex2, ex3, ex4, exA, exu⟩, ⟨ax1, ax2, ax3, ax4, axA, axu⟩, gx, gxA, lx, hx', _, _, bx, elx⟩ := hx
  dsimp only at kx mx nx nxA ex1 ex2 ex3 ex4 exA ax1 ax2 ax3 ax4 axA gx gxA lx hx' bx elx hkr hk
  unfold vlT
  dsimp only
  have hpe := Lib.hid exA
  have hpa := Lib.hid axA
  have hue := Lib.hid exu
  have hua := Lib.hid axu
  have hga := Lib.hid gxA
  obtain ⟨W1, hW1⟩ : ∃ W1, W.alloc (.cells #[.int .i64 kd, .string nm, .slice nA nn nc, .int .i64 eo, .int .u64 eu, .string en, .slice eA ek ec, .int .i64 ao, .int .u64 au, .string an, .slice aA ak ac, .slice gA gn gc, .int .u64 lo, .int .u64 hi, .slice bA bn bc, .slice lA ln lc] 50) = W1 := ⟨_, rfl⟩
  have hb1 : Below W.heap.size W W1 := by rw [← hW1]; exact (Below.refl _ W).alloc (Nat.le_refl _) _
  have hX : W1.heap[W.heap.size]? = some (.cells #[.int .i64 kd, .string nm, .slice nA nn nc, .int .i64 eo, .int .u64 eu, .string en, .slice eA ek ec, .int .i64 ao, .int .u64 au, .string an, .slice aA ak ac, .slice gA gn gc, .int .u64 lo, .int .u64 hi, .slice bA bn bc, .slice lA ln lc] 50 (0, 0)) := by rw [← hW1]; exact heap_alloc_new _ _
  have hW01 := Lib.hid (hW.trans (hb1.mono hW.size))
  have hs1 := Lib.hid (show W1.heap.size = W.heap.size + 1 by rw [← hW1]; simp)
  obtain ⟨p0, p1, p2, p3, p4, p5, p6, p7, p8, p9, p10, p11, p12, p13, p14, p15⟩ := box16 hX
  have hb1 := Lib.hid hb1
  have hW1' := Lib.hid hW1
  have q1 := Lib.hid ex1
  have q2 := Lib.hid ex2
  have q3 := Lib.hid ex3
  have q4 := Lib.hid ex4
  have r1 := Lib.hid ax1
  have r2 := Lib.hid ax2
  have r3 := Lib.hid ax3
  have r4 := Lib.hid ax4
  have g1 := Lib.hid gx
  clear hW1 hX hW kx mx nx nxA ex1 ex2 ex3 ex4 exA exu ax1 ax2 ax3 ax4 axA axu gx gxA lx hx' bx elx hkr
  rcases hk with rfl | rfl | rfl
  all_goals
    go_enter Tryz.func172, Tryz.ntmps172
    go_wp2_with fail
    rw [hW1'.out]
    go_wp2
    go_ret
    have hn := heap_alloc_new W1 (.cells #[.int .i64 eo, .int .u64 eu, .string en, .slice eA ek ec] 26)
    have hba := hb1.out.alloc hb1.out.size (.cells #[.int .i64 eo, .int .u64 eu, .string en, .slice eA ek ec] 26)
    have hb0 := hW01.out.alloc hW01.out.size (.cells #[.int .i64 eo, .int .u64 eu, .string en, .slice eA ek ec] 26)
    rw [hs1.out] at hn
    refine ⟨some ⟨W.heap.size + 1, 0, none⟩, 1, rfl, exs_one (c := ec) (A := eA) ?_ (hpe.out.keep hb0) hue.out, hba⟩
    rw [← q1.out, ← q2.out, ← q3.out, ← q4.out]
    exact hn

set_option maxRecDepth 100000 in
set_option maxHeartbeats 16000000 in
theorem exprs2_any (w0 : World) (x : St) (r : StC) (hx : SNow w0 x r) (hk : x.kd = 2) (W : World) (hW : Below w0.heap.size w0 W) : Calls Tryz.prog 172 #[vlT r] W (ExprsPost (exprsL x) W) := by
  have hL : exprsL x = [x.a, x.e] := by
    unfold exprsL
    rw [if_neg (by omega), if_pos hk]
  rw [hL]
  have hkr : r.kd = x.kd := hx.kd
  rw [← hkr] at hk
  clear hL
  obtain ⟨kd, nm, ⟨nA, nn, nc⟩, ⟨eo, eu, en, ⟨eA, ek, ec⟩⟩, ⟨ao, au, an, ⟨aA, ak, ac⟩⟩, ⟨gA, gn, gc⟩, lo, hi, ⟨bA, bn, bc⟩, ⟨lA, ln, lc⟩⟩ := r
  obtain ⟨kx, mx, nx, nxA, ⟨ex1, ex2, ex3, ex4, exA, exu⟩, ⟨ax1, ax2, ax3, ax4, axA, axu⟩, gx, gxA, lx, hx', _, _, bx, elx⟩ := hx
  dsimp only at kx mx nx nxA ex1 ex2 ex3 ex4 exA ax1 ax2 ax3 ax4 axA gx gxA lx hx' bx elx hkr hk
  unfold vlT
  dsimp only
  have hpe := Lib.hid exA
  have hpa := Lib.hid axA
  have hue := Lib.hid exu
  have hua := Lib.hid axu
  have hga := Lib.hid gxA
  obtain ⟨W1, hW1⟩ : ∃ W1, W.alloc (.cells #[.int .i64 kd, .string nm, .slice nA nn nc, .int .i64 eo, .int .u64 eu, .string en, .slice eA ek ec, .int .i64 ao, .int .u64 au, .string an, .slice aA ak ac, .slice gA gn gc, .int .u64 lo, .int .u64 hi, .slice bA bn bc, .slice lA ln lc] 50) = W1 := ⟨_, rfl⟩
  have hb1 : Below W.heap.size W W1 := by rw [← hW1]; exact (Below.refl _ W).alloc (Nat.le_refl _) _
  have hX : W1.heap[W.heap.size]? = some (.cells #[.int .i64 kd, .string nm, .slice nA nn nc, .int .i64 eo, .int .u64 eu, .string en, .slice eA ek ec, .int .i64 ao, .int .u64 au, .string an, .slice aA ak ac, .slice gA gn gc, .int .u64 lo, .int .u64 hi, .slice bA bn bc, .slice lA ln lc] 50 (0, 0)) := by rw [← hW1]; exact heap_alloc_new _ _
  have hW01 := Lib.hid (hW.trans (hb1.mono hW.size))
  have hs1 := Lib.hid (show W1.heap.size = W.heap.size + 1 by rw [← hW1]; simp)
  obtain ⟨p0, p1, p2, p3, p4, p5, p6, p7, p8, p9, p10, p11, p12, p13, p14, p15⟩ := box16 hX
  have hb1 := Lib.hid hb1
  have hW1' := Lib.hid hW1
  have q1 := Lib.hid ex1
  have q2 := Lib.hid ex2
  have q3 := Lib.hid ex3
  have q4 := Lib.hid ex4
  have r1 := Lib.hid ax1
  have r2 := Lib.hid ax2
  have r3 := Lib.hid ax3
  have r4 := Lib.hid ax4
  have g1 := Lib.hid gx
  clear hW1 hX hW kx mx nx nxA ex1 ex2 ex3 ex4 exA exu ax1 ax2 ax3 ax4 axA axu gx gxA lx hx' bx elx hkr
  subst hk
  go_enter Tryz.func172, Tryz.ntmps172
  go_wp2_with fail
  rw [hW1'.out]
  go_wp2
  go_ret
  have hn := heap_alloc_new W1 (.cells #[.int .i64 ao, .int .u64 au, .string an, .slice aA ak ac, .int .i64 eo, .int .u64 eu, .string en, .slice eA ek ec] 26)
  have hba := hb1.out.alloc hb1.out.size (.cells #[.int .i64 ao, .int .u64 au, .string an, .slice aA ak ac, .int .i64 eo, .int .u64 eu, .string en, .slice eA ek ec] 26)
  have hb0 := hW01.out.alloc hW01.out.size (.cells #[.int .i64 ao, .int .u64 au, .string an, .slice aA ak ac, .int .i64 eo, .int .u64 eu, .string en, .slice eA ek ec] 26)
  rw [hs1.out] at hn
  refine ⟨some ⟨W.heap.size + 1, 0, none⟩, 2, rfl, exs_two (c := ac) (d := ec) (A := aA) (B := eA) ?_ (hpa.out.keep hb0) hua.out (hpe.out.keep hb0) hue.out, hba⟩
  rw [← q1.out, ← q2.out, ← q3.out, ← q4.out, ← r1.out, ← r2.out, ← r3.out, ← r4.out]
  exact hn

set_option maxRecDepth 100000 in
set_option maxHeartbeats 16000000 in
theorem exprs6_any (w0 : World) (x : St) (r : StC) (hx : SNow w0 x r) (hk : x.kd = 6) (W : World) (hW : Below w0.heap.size w0 W) : Calls Tryz.prog 172 #[vlT r] W (ExprsPost (exprsL x) W) := by
  have hL : exprsL x = x.ars := by
    unfold exprsL
    rw [if_neg (by omega), if_neg (by omega), if_pos hk]
  rw [hL]
  have hkr : r.kd = x.kd := hx.kd
  rw [← hkr] at hk
  clear hL
  obtain ⟨kd, nm, ⟨nA, nn, nc⟩, ⟨eo, eu, en, ⟨eA, ek, ec⟩⟩, ⟨ao, au, an, ⟨aA, ak, ac⟩⟩, ⟨gA, gn, gc⟩, lo, hi, ⟨bA, bn, bc⟩, ⟨lA, ln, lc⟩⟩ := r
  obtain ⟨kx, mx, nx, nxA, ⟨ex1, ex2, ex3, ex4, exA, exu⟩, ⟨ax1, ax2, ax3, ax4, axA, axu⟩, gx, gxA, lx, hx', _, _, bx, elx⟩ := hx
  dsimp only at kx mx nx nxA ex1 ex2 ex3 ex4 exA ax1 ax2 ax3 ax4 axA gx gxA lx hx' bx elx hkr hk
  unfold vlT
  dsimp only
  have hpe := Lib.hid exA
  have hpa := Lib.hid axA
  have hue := Lib.hid exu
  have hua := Lib.hid axu
  have hga := Lib.hid gxA
  obtain ⟨W1, hW1⟩ : ∃ W1, W.alloc (.cells #[.int .i64 kd, .string nm, .slice nA nn nc, .int .i64 eo, .int .u64 eu, .string en, .slice eA ek ec, .int .i64 ao, .int .u64 au, .string an, .slice aA ak ac, .slice gA gn gc, .int .u64 lo, .int .u64 hi, .slice bA bn bc, .slice lA ln lc] 50) = W1 := ⟨_, rfl⟩
  have hb1 : Below W.heap.size W W1 := by rw [← hW1]; exact (Below.refl _ W).alloc (Nat.le_refl _) _
  have hX : W1.heap[W.heap.size]? = some (.cells #[.int .i64 kd, .string nm, .slice nA nn nc, .int .i64 eo, .int .u64 eu, .string en, .slice eA ek ec, .int .i64 ao, .int .u64 au, .string an, .slice aA ak ac, .slice gA gn gc, .int .u64 lo, .int .u64 hi, .slice bA bn bc, .slice lA ln lc] 50 (0, 0)) := by rw [← hW1]; exact heap_alloc_new _ _
  have hW01 := Lib.hid (hW.trans (hb1.mono hW.size))
  have hs1 := Lib.hid (show W1.heap.size = W.heap.size + 1 by rw [← hW1]; simp)
  obtain ⟨p0, p1, p2, p3, p4, p5, p6, p7, p8, p9, p10, p11, p12, p13, p14, p15⟩ := box16 hX
  have hb1 := Lib.hid hb1
  have hW1' := Lib.hid hW1
  have q1 := Lib.hid ex1
  have q2 := Lib.hid ex2
  have q3 := Lib.hid ex3
  have q4 := Lib.hid ex4
  have r1 := Lib.hid ax1
  have r2 := Lib.hid ax2
  have r3 := Lib.hid ax3
  have r4 := Lib.hid ax4
  have g1 := Lib.hid gx
  clear hW1 hX hW kx mx nx nxA ex1 ex2 ex3 ex4 exA exu ax1 ax2 ax3 ax4 axA axu gx gxA lx hx' bx elx hkr
  subst hk
  go_enter Tryz.func172, Tryz.ntmps172
  go_wp2_with fail
  rw [hW1'.out]
  go_wp2
  go_ret
  exact ⟨gA, gc, by rw [← g1.out]; rfl, hga.out.below hW01.out, hb1.out⟩

set_option maxRecDepth 100000 in
set_option maxHeartbeats 16000000 in
theorem exprs0_any (w0 : World) (x : St) (r : StC) (hx : SNow w0 x r) (hk : x.kd ≠ 1 ∧ x.kd ≠ 2 ∧ x.kd ≠ 3 ∧ x.kd ≠ 4 ∧ x.kd ≠ 6) (W : World) (hW : Below w0.heap.size w0 W) : Calls Tryz.prog 172 #[vlT r] W (ExprsPost (exprsL x) W) := by
  have hL : exprsL x = [] := by
    unfold exprsL
    rw [if_neg (by omega), if_neg (by omega), if_neg (by omega)]
  rw [hL]
  have hkr : r.kd = x.kd := hx.kd
  rw [← hkr] at hk
  clear hL
  obtain ⟨kd, nm, ⟨nA, nn, nc⟩, ⟨eo, eu, en, ⟨eA, ek, ec⟩⟩, ⟨ao, au, an, ⟨aA, ak, ac⟩⟩, ⟨gA, gn, gc⟩, lo, hi, ⟨bA, bn, bc⟩, ⟨lA, ln, lc⟩⟩ := r
  obtain ⟨kx, mx, nx, nxA, ⟨ex1, ex2, ex3, ex4, exA, exu⟩, ⟨ax1, ax2, ax3, ax4, axA, axu⟩, gx, gxA, lx, hx', _, _, bx, elx⟩ := hx
  dsimp only at kx mx nx nxA ex1 ex2 ex3 ex4 exA ax1 ax2 ax3 ax4 axA gx gxA lx hx' bx elx hkr hk
  unfold vlT
  dsimp only
  have hpe := Lib.hid exA
  have hpa := Lib.hid axA
  have hue := Lib.hid exu
  have hua := Lib.hid axu
  have hga := Lib.hid gxA
  obtain ⟨W1, hW1⟩ : ∃ W1, W.alloc (.cells #[.int .i64 kd, .string nm, .slice nA nn nc, .int .i64 eo, .int .u64 eu, .string en, .slice eA ek ec, .int .i64 ao, .int .u64 au, .string an, .slice aA ak ac, .slice gA gn gc, .int .u64 lo, .int .u64 hi, .slice bA bn bc, .slice lA ln lc] 50) = W1 := ⟨_, rfl⟩
  have hb1 : Below W.heap.size W W1 := by rw [← hW1]; exact (Below.refl _ W).alloc (Nat.le_refl _) _
  have hX : W1.heap[W.heap.size]? = some (.cells #[.int .i64 kd, .string nm, .slice nA nn nc, .int .i64 eo, .int .u64 eu, .string en, .slice eA ek ec, .int .i64 ao, .int .u64 au, .string an, .slice aA ak ac, .slice gA gn gc, .int .u64 lo, .int .u64 hi, .slice bA bn bc, .slice lA ln lc] 50 (0, 0)) := by rw [← hW1]; exact heap_alloc_new _ _
  have hW01 := Lib.hid (hW.trans (hb1.mono hW.size))
  have hs1 := Lib.hid (show W1.heap.size = W.heap.size + 1 by rw [← hW1]; simp)
  obtain ⟨p0, p1, p2, p3, p4, p5, p6, p7, p8, p9, p10, p11, p12, p13, p14, p15⟩ := box16 hX
  have hb1 := Lib.hid hb1
  have hW1' := Lib.hid hW1
  have q1 := Lib.hid ex1
  have q2 := Lib.hid ex2
  have q3 := Lib.hid ex3
  have q4 := Lib.hid ex4
  have r1 := Lib.hid ax1
  have r2 := Lib.hid ax2
  have r3 := Lib.hid ax3
  have r4 := Lib.hid ax4
  have g1 := Lib.hid gx
  clear hW1 hX hW kx mx nx nxA ex1 ex2 ex3 ex4 exA exu ax1 ax2 ax3 ax4 axA axu gx gxA lx hx' bx elx hkr
  obtain ⟨k1, k2, k3, k4, k6⟩ := hk
  have k1 : (kd == 1) = false := int_ne k1
  have k2 : (kd == 2) = false := int_ne k2
  have k3 : (kd == 3) = false := int_ne k3
  have k4 : (kd == 4) = false := int_ne k4
  have k6 : (kd == 6) = false := int_ne k6
  go_enter Tryz.func172, Tryz.ntmps172
  go_wp2_with fail
  rw [hW1'.out]
  go_wp2
  go_ret
  exact ⟨none, 0, rfl, exs_nil _ _, hb1.out⟩

theorem exprs_any (w0 : World) (x : St) (r : StC) (hx : SNow w0 x r) (W : World) (hW : Below w0.heap.size w0 W) : Calls Tryz.prog 172 #[vlT r] W (ExprsPost (exprsL x) W) := by
  by_cases h1 : x.kd = 1 ∨ x.kd = 3 ∨ x.kd = 4
  · exact exprs1_any w0 x r hx h1 W hW
  · by_cases h2 : x.kd = 2
    · exact exprs2_any w0 x r hx h2 W hW
    · by_cases h6 : x.kd = 6
      · exact exprs6_any w0 x r hx h6 W hW
      · exact exprs0_any w0 x r hx ⟨by omega, by omega, by omega, by omega, by omega⟩ W hW
theorem exprs_len (x : St) (h : cntS x ≤ 30000) : (exprsL x).length ≤ 30000 ∧ ∀ y ∈ exprsL x, cntE y ≤ 30000 := by
  have h0 := cntS_bd x
  have h1 := len_cnt x.ars
  unfold exprsL
  split
  · exact ⟨by simp, fun y hy => by simp at hy; subst hy; omega⟩
  · split
    · exact ⟨by simp, fun y hy => by simp at hy; rcases hy with rfl | rfl <;> omega⟩
    · split
      · exact ⟨by omega, fun y hy => by
          obtain ⟨i, hi⟩ := List.getElem?_of_mem hy
          have := cnt_mem hi
          omega⟩
      · exact ⟨by simp, fun y hy => by simp at hy⟩
theorem nameB_pos {s : ByteArray} (h : nameB s = true) : 0 < s.size := by
  unfold nameB at h
  simp only [Bool.and_eq_true, decide_eq_true_eq] at h
  exact h.1.1.1.1
/-- the reference's tests, together -/
def refH (x : St) : Bool := (exprsL x).all (mayE nameB) && ((x.nm.toList.isEmpty || nameB x.nm) && (x.ns.all nameB && (maySs x.bd && maySs x.el)))
theorem refH_eq (x : St) (hk : kindOk x.kd = true) : mayS x = (refH x && restX x) := by
  have hb : 1 ≤ x.kd ∧ x.kd ≤ 6 := by simpa [kindOk] using hk
  have hn := @nameB_pos x.nm
  have hcases : x.kd = 1 ∨ x.kd = 2 ∨ x.kd = 3 ∨ x.kd = 4 ∨ x.kd = 5 ∨ x.kd = 6 := by omega
  have hars : x.ars.length = 0 → x.ars.all (mayE nameB) = true := fun h => by rw [List.length_eq_zero_iff.1 h]; rfl
  have hbd : x.bd.length = 0 → maySs x.bd = true := fun h => by rw [List.length_eq_zero_iff.1 h, maySs]
  have hem : x.nm.toList.isEmpty = decide (x.nm.size = 0) := empty_iff x.nm
  have hmn : maySs [] = true := by rw [maySs]
  have hne : 0 < x.nm.size → ¬ x.nm = ByteArray.empty := fun h e => by rw [e] at h; simp at h
  rw [mayS_eq, hk, Bool.true_and]
  unfold mayH refH restX bareX exprsL usesN usesE
  rw [hem]
  rcases hcases with k | k | k | k | k | k
  all_goals
    rw [Bool.eq_iff_iff]
    simp only [k, Bool.and_eq_true, Bool.or_eq_true, decide_eq_true_eq, beq_iff_eq, List.all_cons, List.all_nil, if_true, if_false, Bool.true_or, Bool.or_true]
    simp
    constructor
    · intro h
      have h1 : ∀ a b : Nat, a + b = 0 ↔ a = 0 ∧ b = 0 := fun a b => by omega
      simp_all
      try omega
    · intro h
      have h1 : ∀ a b : Nat, a + b = 0 ↔ a = 0 ∧ b = 0 := fun a b => by omega
      simp_all
      try omega
end Go.Proofs.YtnahgfdoiflacaaGreatDoor
