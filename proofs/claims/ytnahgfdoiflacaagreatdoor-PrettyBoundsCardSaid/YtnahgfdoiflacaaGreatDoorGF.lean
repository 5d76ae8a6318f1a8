/- PrettyBounds: the law's lines, where one comes. -/
import Derived.Test.YtnahgfdoiflacaaGreatDoorGE
set_option linter.unusedSimpArgs false
set_option linter.unusedVariables false
namespace Go.Proofs.YtnahgfdoiflacaaGreatDoor
open Go.RowKit Go.Lib Go.Shelf
attribute [local go_sem] Oper.semAt_some
/-- what was made since C stays (but rows of bytes) -/
def Kp1 (C : Nat) (W W' : World) : Prop := ∀ (k : Nat) (o : Obj), C ≤ k → W.heap[k]? = some o → (∀ cs fr, o ≠ .cells cs 5 fr) → W'.heap[k]? = some o
theorem Kp1.refl (C : Nat) (W : World) : Kp1 C W W := fun _ _ _ h _ => h
theorem Kp1.trans {C : Nat} {W W1 W2 : World} (h : Kp1 C W W1) (g : Kp1 C W1 W2) : Kp1 C W W2 := fun k o hk ho hn => g k o hk (h k o hk ho hn) hn
theorem Kp1.of_below {C : Nat} {W W' : World} (h : Below W.heap.size W W') : Kp1 C W W' := fun k o _ ho _ => (h.block k (blk_lt ho)).trans ho
def LinePost1 (J1 : World → Prop) (C : Nat) (W : World) (e : Ending) (W' : World) : Prop := e = .returned (.bool true) ∧ J1 W' ∧ Kp1 C W W'
def Yields1 (l : Nat) (y : Ln) (J0 J1 : World → Prop) (C : Nat) : Prop := ∀ W1, J0 W1 → YieldAt Fence.wide 7 Tryz.prog l #[.int .i64 (y.1 : Int), .string y.2] W1 (LinePost1 J1 C W1)
def Grows1 (J : World → Prop) : Prop := ∀ W W', J W → Below W.heap.size W W' → J W'
set_option maxRecDepth 100000 in
set_option maxHeartbeats 32000000 in
theorem tell1_any (W : World) (hE : Env W) (l p q C : Nat) (hC0 : C ≤ W.heap.size) (t : Nat) (x0 : St) (J0 J1 : World → Prop) (hJ : Grows1 J0) (hY : Yields1 l (t, headB x0) J0 J1 C) (A : Option Addr) (h : StsAt W [x0] A)
    (c : Nat) (hc : cntSs [x0] ≤ 30000) (hm : mayS x0 = true) (hf : flatK x0.kd = true) (ht : t ≤ 1000) (hT : TellBox l p q W) (hJ0 : J0 W) : Calls Tryz.prog 82 #[.slice A 1 c, .int .i64 t, .pointer (some ⟨p, 0, none⟩), .pointer (some ⟨q, 0, none⟩)] W (LinePost1 J1 C W) := by
  have hs := Lib.hid h
  have hc' := Lib.hid hc
  have hm' := Lib.hid hm
  have hE' := Lib.hid hE
  have hJ' := Lib.hid hJ
  have hY' := Lib.hid hY
  have hT' := Lib.hid hT
  have hJ0' := Lib.hid hJ0
  have hC := Lib.hid hC0
  have hf' := Lib.hid hf
  obtain ⟨n, hnn⟩ : ∃ n, 1 = n := ⟨_, rfl⟩
  rw [show ((1 : Nat)) = n from hnn]
  have hn' := Lib.hid hnn
  have hn : n ≤ 30000 := by omega
  clear hnn hc h hm hE hJ hY hT hJ0 hC0 hf
  refine (callsIn_wide (n := 8)).1 ?_
  refine callsIn_of_wp Tryz.func82 rfl trivial ?_ rfl
  simp only [Tryz.ntmps82, List.size_toArray, List.length_cons, List.length_nil, Nat.reduceAdd, Nat.reduceSub, Array.replicate_succ, Array.replicate_zero, List.push_toArray, List.append_toArray, List.nil_append, List.cons_append]
  gi_wp2_with fail
  gi_loopg [11] n (fun g s11 wr => ∃ k : Nat, k + g = n ∧ s11 = .int .i64 k ∧ (g ≠ 0 → W = wr) ∧ (g = 0 → J1 wr ∧ Kp1 C W wr))
  case atStart => exact ⟨0, by omega, rfl, fun _ => rfl, fun h => by have := hn'.out; omega⟩
  case round =>
    obtain ⟨k, hkg, rfl, hwr, hJr⟩ := hrel
    have hJr := Lib.hid hJr
    cases gk with
    | zero =>
      have e0 : ¬ (k : Int) < (n : Int) := by omega
      clear hwr
      gi_wp2
      go_ret
      exact ⟨rfl, (hJr.out trivial).1, (hJr.out trivial).2⟩
    | succ g2 =>
      have e0 : (k : Int) < (n : Int) := by omega
      have hwr := hwr (by omega)
      subst hwr
      obtain ⟨blk, off, x, r, rfl, hx, hcx, hnow, -, -⟩ := (hs.out).at_ (k := k) (by have := hn'.out; simp; omega)
      obtain rfl : x = x0 := by
        have hk0 : k = 0 := by have := hn'.out; omega
        subst hk0
        simpa using hx.symm
      have hmx := hm'.out
      have c2 : cntS x ≤ 30000 := by have := hc'.out; rw [cntSs, cntSs] at this; omega
      have hhead := fun (W' : World) (hb : Below W.heap.size W W') => head_any W hE'.out x r hnow hmx W' hb c2
      obtain ⟨kd, nm, ⟨nA, nn, nc⟩, ⟨eo, eu, en, ⟨eA, ek, ec⟩⟩, ⟨ao, au, an, ⟨aA, ak, ac⟩⟩, ⟨gA, gn, gc⟩, lo, hi, ⟨bA, bn, bc⟩, ⟨lA, ln, lc⟩⟩ := r
      obtain ⟨kx, mx, nx, nxA, ⟨ex1, ex2, ex3, ex4, exA, exu⟩, ⟨ax1, ax2, ax3, ax4, axA, axu⟩, gx, gxA, lx, hx', loh, hih, bx, elx⟩ := hnow
      dsimp only at kx mx nx nxA ex1 ex2 ex3 ex4 exA ax1 ax2 ax3 ax4 axA gx gxA lx hx' bx elx
      have hfl : kd < 3 ∨ kd = 6 := by
        have := hf'.out
        rw [← kx] at this
        unfold flatK at this
        simpa using this
      have hfl := Lib.hid hfl
      have v0 : W.cell? ⟨blk, off + k * 16, none⟩ = some (.int .i64 kd) := hcx 0 (by omega)
      have v1 : W.cell? ⟨blk, off + k * 16 + 1, none⟩ = some (.string nm) := hcx 1 (by omega)
      have v2 : W.cell? ⟨blk, off + k * 16 + 2, none⟩ = some (.slice nA nn nc) := hcx 2 (by omega)
      have v3 : W.cell? ⟨blk, off + k * 16 + 3, none⟩ = some (.int .i64 eo) := hcx 3 (by omega)
      have v4 : W.cell? ⟨blk, off + k * 16 + 4, none⟩ = some (.int .u64 eu) := hcx 4 (by omega)
      have v5 : W.cell? ⟨blk, off + k * 16 + 5, none⟩ = some (.string en) := hcx 5 (by omega)
      have v6 : W.cell? ⟨blk, off + k * 16 + 6, none⟩ = some (.slice eA ek ec) := hcx 6 (by omega)
      have v7 : W.cell? ⟨blk, off + k * 16 + 7, none⟩ = some (.int .i64 ao) := hcx 7 (by omega)
      have v8 : W.cell? ⟨blk, off + k * 16 + 8, none⟩ = some (.int .u64 au) := hcx 8 (by omega)
      have v9 : W.cell? ⟨blk, off + k * 16 + 9, none⟩ = some (.string an) := hcx 9 (by omega)
      have v10 : W.cell? ⟨blk, off + k * 16 + 10, none⟩ = some (.slice aA ak ac) := hcx 10 (by omega)
      have v11 : W.cell? ⟨blk, off + k * 16 + 11, none⟩ = some (.slice gA gn gc) := hcx 11 (by omega)
      have v12 : W.cell? ⟨blk, off + k * 16 + 12, none⟩ = some (.int .u64 lo) := hcx 12 (by omega)
      have v13 : W.cell? ⟨blk, off + k * 16 + 13, none⟩ = some (.int .u64 hi) := hcx 13 (by omega)
      have v14 : W.cell? ⟨blk, off + k * 16 + 14, none⟩ = some (.slice bA bn bc) := hcx 14 (by omega)
      have v15 : W.cell? ⟨blk, off + k * 16 + 15, none⟩ = some (.slice lA ln lc) := hcx 15 (by omega)
      obtain ⟨w1, hw1⟩ : ∃ w1, W.alloc (.cells #[.int .i64 kd, .string nm, .slice nA nn nc, .int .i64 eo, .int .u64 eu, .string en, .slice eA ek ec, .int .i64 ao, .int .u64 au, .string an, .slice aA ak ac, .slice gA gn gc, .int .u64 lo, .int .u64 hi, .slice bA bn bc, .slice lA ln lc] 50) = w1 := ⟨_, rfl⟩
      have hb1 : Below W.heap.size W w1 := by rw [← hw1]; exact (Below.refl _ W).alloc (Nat.le_refl _) _
      have hX : w1.heap[W.heap.size]? = some (.cells #[.int .i64 kd, .string nm, .slice nA nn nc, .int .i64 eo, .int .u64 eu, .string en, .slice eA ek ec, .int .i64 ao, .int .u64 au, .string an, .slice aA ak ac, .slice gA gn gc, .int .u64 lo, .int .u64 hi, .slice bA bn bc, .slice lA ln lc] 50 (0, 0)) := by rw [← hw1]; exact heap_alloc_new _ _
      have hJ1 := hJ'.out _ _ hJ0'.out hb1
      obtain ⟨p0, p1, p2, p3, p4, p5, p6, p7, p8, p9, p10, p11, p12, p13, p14, p15⟩ := box16 hX
      have y0 : w1.cell? ⟨p, 0, none⟩ = some (.func (.yield l) #[] #[]) := by rw [blk_cell ((hb1.block _ (blk_lt hT'.out.y)).trans hT'.out.y)]; rfl
      have hh83 := Lib.hid (fun s : Sub w1 => hhead s.val (hb1.trans (s.property.mono hb1.size)))
      unfold vlT at hh83
      dsimp only at hh83
      have hX := Lib.hid hX
      have hJ1 := Lib.hid hJ1
      have hw1' := Lib.hid hw1
      have hb1 := Lib.hid hb1
      clear hcx hx kx mx nx nxA ex1 ex2 ex3 ex4 exA exu ax1 ax2 ax3 ax4 axA axu gx gxA lx hx' bx elx hw1 c2 hmx loh hih hhead
      obtain ⟨T, hTT⟩ : ∃ T, headB x = T := ⟨_, rfl⟩
      have hY1 := hY'.out
      rw [hTT] at hh83 hY1
      have hY1 := Lib.hid hY1
      clear hTT hY'
      gi_wp2_with fail
      clear v0 v1 v2 v3 v4 v5 v6 v7 v8 v9 v10 v11 v12 v13 v14 v15
      first | rw [hw1'.out] | skip
      have c0 := Sub.cell p0
      have c1 := Sub.cell p1
      have c2 := Sub.cell p2
      have c3 := Sub.cell p3
      have c4 := Sub.cell p4
      have c5 := Sub.cell p5
      have c6 := Sub.cell p6
      have c7 := Sub.cell p7
      have c8 := Sub.cell p8
      have c9 := Sub.cell p9
      have c10 := Sub.cell p10
      have c11 := Sub.cell p11
      have c12 := Sub.cell p12
      have c13 := Sub.cell p13
      have c14 := Sub.cell p14
      have c15 := Sub.cell p15
      have d0 := Sub.cell y0
      refine wpIn_region_below_tail 4 (by kernel_rfl) (by kernel_rfl) ?_
      simp only [List.take_succ_cons, List.take_zero, List.drop_succ_cons, List.drop_zero]
      repeat (go_big_quiet_step ((go_at_call 83; with_reducible exact Sub.call (hh83.out _))))
      refine wpQuiet_nil ?_
      rintro w4 ⟨s4, hs4⟩
      have hb4 := hs4 ▸ s4.property
      clear hs4 s4 p0 p1 p2 p3 p4 p5 p6 p7 p8 p9 p10 p11 p12 p13 p14 p15 c0 c1 c2 c3 c4 c5 c6 c7 c8 c9 c10 c11 c12 c13 c14 c15 d0 y0
      have hJ4 := hJ'.out _ _ hJ1.out hb4
      have hX4 := (hb4.block _ (blk_lt hX.out)).trans hX.out
      have hk4 : Kp1 C W w4 := Kp1.of_below (Below.next hb1.out hb4)
      have hk4 := Lib.hid hk4
      have hX4 := Lib.hid hX4
      obtain ⟨fn, tmps, assign, body, hy, hRo⟩ := hY1.out w4 hJ4
      have hRo := Lib.hid hRo
      clear hJ4
      gi_wp2_with fail
      refine hRo.out.mono ?_
      rintro e w5 ⟨rfl, hJ5, hk5⟩
      have hX5 := hk5 _ _ hC.out hX4.out (fun _ _ e => by cases e)
      have hk5 := Lib.hid (hk4.out.trans hk5)
      have hJ5 := Lib.hid hJ5
      obtain ⟨p0, p1, p2, p3, p4, p5, p6, p7, p8, p9, p10, p11, p12, p13, p14, p15⟩ := box16 hX5
      clear hRo hy hX5
      have hg0 : g2 = 0 := by have := hn'.out; omega
      have hg0 := Lib.hid hg0
      have hfl := hfl.out
      rcases hfl with hlt | rfl
      · gi_wp2
        go_roundg g2
        case measure => omega
        case rel => exact ⟨k + 1, by omega, by go_num, fun h => absurd hg0.out h, fun _ => ⟨hJ5.out, hk5.out⟩⟩
      · gi_wp2
        go_roundg g2
        case measure => omega
        case rel => exact ⟨k + 1, by omega, by go_num, fun h => absurd hg0.out h, fun _ => ⟨hJ5.out, hk5.out⟩⟩

set_option maxRecDepth 100000 in
set_option maxHeartbeats 8000000 in
theorem iter1_any (W : World) (hE : Env W) (x : St) (A : Option Addr) (c : Nat) (hL : StsAt W [x] A) (hcn : cntSs [x] ≤ 30000) (hm : mayT [x] = true) (hf : flatK x.kd = true) (C l b : Nat) (hC : C ≤ W.heap.size) (hbx : W.heap[b]? = some (.cells #[.slice A 1 c] 48 (0, 0)))
    (J0 J1 : World → Prop) (hJ : Grows1 J0) (hY : Yields1 l (0, headB x) J0 J1 C) (hJ0 : J0 W) :
    Calls Tryz.prog 81 #[.func (.yield l) #[] #[], .pointer (some ⟨b, 0, none⟩)] W fun e W' => e = .returned (.tuple #[]) ∧ J1 W' ∧ Kp1 C W W' := by
  have hlt := blk_lt hbx
  obtain ⟨W1, hW1⟩ : ∃ W1, W.alloc (.cells #[.func (.yield l) #[] #[]] 71) = W1 := ⟨_, rfl⟩
  have hb1 : Below W.heap.size W W1 := by rw [← hW1]; exact (Below.refl _ W).alloc (Nat.le_refl _) _
  have hy1 : W1.heap[W.heap.size]? = some (.cells #[.func (.yield l) #[] #[]] 71 (0, 0)) := by rw [← hW1]; exact heap_alloc_new _ _
  have hx1 : W1.heap[b]? = some (.cells #[.slice A 1 c] 48 (0, 0)) := (hb1.block _ hlt).trans hbx
  have g0 : W1.cell? ⟨b, 0, none⟩ = some (.slice A 1 c) := by rw [blk_cell hx1]; rfl
  have hm2 := mayStmts_any W [x] A hL c W1 hcn hb1
  rw [hm] at hm2
  have hm2 := Lib.hid hm2
  have hmy : mayS x = true := by
    unfold mayT at hm
    rw [Bool.and_eq_true, maySs_all, List.all_eq_true] at hm
    exact hm.2 x (by simp)
  have hW1' := Lib.hid hW1
  have hJ1 := Lib.hid (hJ _ _ hJ0 hb1)
  have hb1 := Lib.hid hb1
  have hy1 := Lib.hid hy1
  have hx1 := Lib.hid hx1
  have hL := Lib.hid hL
  have hJ := Lib.hid hJ
  have hY := Lib.hid hY
  have hE := Lib.hid hE
  have hmy := Lib.hid hmy
  have hf := Lib.hid hf
  have hcn := Lib.hid hcn
  have hC := Lib.hid hC
  clear hW1 hJ0 hbx hm
  obtain rfl := hW1'.out
  go_enter Tryz.func81, Tryz.ntmps81
  go_wp2_with fail
  refine hm2.out.mono ?_
  rintro e w1 ⟨rfl, hb2⟩
  obtain ⟨w2, hw2⟩ : ∃ w2, w1.alloc (.cells #[.func (.func 82) #[] #[.pointer (some ⟨W.heap.size, 0, none⟩), .pointer (some ⟨w1.heap.size, 0, none⟩)]] 61) = w2 := ⟨_, rfl⟩
  have hb3 : Below w1.heap.size w1 w2 := by rw [← hw2]; exact (Below.refl _ w1).alloc (Nat.le_refl _) _
  have hBw : Below W.heap.size W w2 := Below.next (Below.next hb1.out hb2) hb3
  have hx2 := (hb3.block _ (blk_lt ((hb2.block _ (blk_lt hx1.out)).trans hx1.out))).trans ((hb2.block _ (blk_lt hx1.out)).trans hx1.out)
  have hy2 := (hb3.block _ (blk_lt ((hb2.block _ (blk_lt hy1.out)).trans hy1.out))).trans ((hb2.block _ (blk_lt hy1.out)).trans hy1.out)
  have ht2 : w2.heap[w1.heap.size]? = some (.cells #[.func (.func 82) #[] #[.pointer (some ⟨W.heap.size, 0, none⟩), .pointer (some ⟨w1.heap.size, 0, none⟩)]] 61 (0, 0)) := by rw [← hw2]; exact heap_alloc_new _ _
  have hJ2 := hJ.out _ _ hJ1.out (Below.next hb2 hb3)
  have htl := tell1_any w2 (hE.out.below hBw) l W.heap.size w1.heap.size C (Nat.le_trans hC.out hBw.size) 0 x J0 J1 hJ.out hY.out A (hL.out.keep hBw) c hcn.out hmy.out hf.out (by omega) ⟨hy2, ht2⟩ hJ2
  have htl := Lib.hid htl
  have g1 : w2.cell? ⟨b, 0, none⟩ = some (.slice A 1 c) := by rw [blk_cell hx2]; rfl
  have g2 : w2.cell? ⟨w1.heap.size, 0, none⟩ = some (.func (.func 82) #[] #[.pointer (some ⟨W.heap.size, 0, none⟩), .pointer (some ⟨w1.heap.size, 0, none⟩)]) := by rw [blk_cell ht2]; rfl
  have hBw := Lib.hid hBw
  have hw2' := Lib.hid hw2
  clear hb2 hb3 hx2 hy2 ht2 hJ2 g0 hw2
  obtain rfl := hw2'.out
  go_wp2_with fail
  refine htl.out.mono ?_
  rintro e w3 ⟨rfl, hJ3, hk3⟩
  have hJ3 := Lib.hid hJ3
  have hk3 := Lib.hid hk3
  clear g1 g2
  go_wp2
  go_end0
  exact ⟨rfl, hJ3.out, (Kp1.of_below hBw.out).trans hk3.out⟩

/-- how a round's body is left: the loop's own blocks stay, and all that the iterator made -/
def round1 (C : Nat) (I : World → Prop) (W : World) : Exit → Act → World → Prop
  | .normal, _, W' => Kp1 C W W' ∧ I W'
  | _, _, _ => False
theorem kp1_put {C l : Nat} {W : World} (hC : l < C) (o : Obj) : Kp1 C W (W.putObj l o) :=
  fun k o' hk ho _ => (World.putObj_heap_other (by omega)).trans ho
theorem wpIn_range_line1 {g : Operand} {p q : Tmp} {assign body : Code} {Q : Exit → Act → World → Prop} {a : Act} {w : World} (hE : Env w) (x : St) (A : Option Addr) (c b : Nat) (hL : StsAt w [x] A) (hcn : cntSs [x] ≤ 30000) (hm : mayT [x] = true) (hf : flatK x.kd = true)
    (hbx : w.heap[b]? = some (.cells #[.slice A 1 c] 48 (0, 0)))
    (hg : a.eval g = .func (.func 81) #[] #[.pointer (some ⟨b, 0, none⟩)]) (I0 I1 : World → Prop)
    (hIg : ∀ W W', I0 W → Below W.heap.size W W' → I0 W') (hI0p : ∀ W l o o', I0 W → w.heap.size ≤ l → W.heap[l]? = some o → o.isCells = false → I0 (W.putObj l o')) (hI1p : ∀ W l o o', I1 W → w.heap.size ≤ l → W.heap[l]? = some o → o.isCells = false → I1 (W.putObj l o')) (h0 : I0 w) (T : Ln → Array Value)
    (hassign : ∀ (l : Nat) (x : Ln) (W : World) (K : Act → World → Prop), K { tmps := T x, defers := [] } W →
      assign.wpIn (Fence.wide.inRound l) 7 Tryz.prog (Exit.then K (fun _ _ _ => False)) { tmps := (a.tmps.setIfInBounds p (.int .i64 (x.1 : Int))).setIfInBounds q (.string x.2), defers := [] } W)
    (hbody : ∀ (l : Nat) (W : World), w.heap.size ≤ l → w.heap.size + 2 ≤ W.heap.size → I0 W → body.wpIn (Fence.wide.inRound l) 7 Tryz.prog (round1 w.heap.size I1 W) { tmps := T (0, headB x), defers := [] } W)
    (hdone : ∀ (D : Nat) (W : World), w.heap.size ≤ D → I1 W → W.heap[D]? = some (.deferred (some [])) → Q .normal { a with defers := { target := .collected D, args := #[] } :: a.defers } W) :
    (Code.rangeFunc g #[p, q] assign body).wpIn Fence.wide 8 Tryz.prog Q a w := by
  refine wpIn_rangeFunc fun fn hfn => ?_
  have hlp : ∃ R : LoopState → Option Code → Loop, ∀ st pe, R st pe = { state := st, pending := pe, fn := fn, tmps := a.tmps, params := #[p, q], assign := assign, body := body, defers := w.heap.size } := ⟨_, fun _ _ => rfl⟩
  obtain ⟨R, hR⟩ := hlp
  have hS1 : ((w.alloc (.deferred (some []))).alloc (.loop (R .ready none))).heap.size = w.heap.size + 2 := by simp
  have hD1 : ((w.alloc (.deferred (some []))).alloc (.loop (R .ready none))).heap[w.heap.size]? = some (.deferred (some [])) :=
    (heap_alloc_old _ _ (by simp)).trans (heap_alloc_new w _)
  have hL1 : ((w.alloc (.deferred (some []))).alloc (.loop (R .ready none))).heap[w.heap.size + 1]? = some (.loop (R .ready none)) := by
    have h := heap_alloc_new (w.alloc (.deferred (some []))) (.loop (R .ready none))
    have e : (w.alloc (.deferred (some []))).heap.size = w.heap.size + 1 := by simp
    rwa [e] at h
  have hB1 : Below w.heap.size w ((w.alloc (.deferred (some []))).alloc (.loop (R .ready none))) := ((Below.refl _ w).alloc (Nat.le_refl _) _).alloc (by simp) _
  have hI1 : I0 ((w.alloc (.deferred (some []))).alloc (.loop (R .ready none))) := hIg _ _ h0 hB1
  generalize hW1 : (w.alloc (.deferred (some []))).alloc (.loop (R .ready none)) = W1 at hS1 hD1 hL1 hI1 hB1
  refine ⟨w.heap.size + 1, [{ target := .collected w.heap.size, args := #[] }], W1, { target := .fn (.func 81) #[.pointer (some ⟨b, 0, none⟩)], args := #[.func (.yield (w.heap.size + 1)) #[] #[]] }, W1, 81, #[.func (.yield (w.heap.size + 1)) #[] #[]] ++ #[.pointer (some ⟨b, 0, none⟩)], W1, ?_, ?_, ?_, ?_, fun _ => by decide, ?_⟩
  · rw [← hW1, hR]
    exact run_enterLoop_outer _ _ _ _ _
  · simp only [resolve, hg]
    simp [go_sem]
  · intro f' _
    exact trivial
  · simp [invoke, go_sem, enters_of Tryz.func81 (by kernel_rfl) rfl]
  · have hcall := iter1_any W1 (hE.below hB1) x A c (hL.keep hB1) hcn hm hf (w.heap.size + 2) (w.heap.size + 1) b (by omega) ((hB1.block _ (blk_lt hbx)).trans hbx)
      (fun W => I0 W ∧ W.heap[w.heap.size + 1]? = some (.loop (R .ready none)) ∧ W.heap[w.heap.size]? = some (.deferred (some [])))
      (fun W => I1 W ∧ W.heap[w.heap.size + 1]? = some (.loop (R .ready none)) ∧ W.heap[w.heap.size]? = some (.deferred (some [])))
      (fun W W' h hb => ⟨hIg _ _ h.1 hb, (hb.block _ (blk_lt h.2.1)).trans h.2.1, (hb.block _ (blk_lt h.2.2)).trans h.2.2⟩)
      ?round ⟨hI1, hL1, hD1⟩
    · refine (callsIn_wide.2 hcall).mono ?_
      rintro e W2 ⟨rfl, ⟨hi, hl, hd⟩, _⟩
      have hrun := run_endLoop (P := Tryz.prog) hl (by rw [hR]; simp)
      rw [show (R .ready none).pending = none by rw [hR]] at hrun
      exact ⟨none, _, hrun, hdone _ _ (Nat.le_refl _) (hI1p _ _ _ _ hi (by omega) hl rfl) ((World.putObj_heap_other (by omega)).trans hd)⟩
    case round =>
      rintro W ⟨hi, hl, hd⟩
      have hy := run_yield (P := Tryz.prog) (args := #[.int .i64 (((0, headB x) : Ln).1 : Int), .string (headB x)]) hl (by rw [hR]; rfl)
      rw [hR] at hy
      have hzip : ∀ (f : Array Value → Tmp × Value → Array Value), (#[p, q].zip #[Value.int .i64 (((0, headB x) : Ln).1 : Int), .string (headB x)]).foldl f a.tmps = f (f a.tmps (p, .int .i64 (((0, headB x) : Ln).1 : Int))) (q, .string (headB x)) := fun f => by simp
      dsimp only at hy hzip
      rw [hzip] at hy
      refine ⟨fn, _, assign, body, hy, roundIn_of_wpIn hfn ?_⟩
      have hll : w.heap.size + 1 < W.heap.size := blk_lt hl
      refine hassign (w.heap.size + 1) (0, headB x) W _ ?_
      have hbeg := run_beginRound (P := Tryz.prog) hl (by rw [hR])
      refine ⟨_, hbeg, ?_⟩
      have hl2 : (W.putObj (w.heap.size + 1) (.loop { R .ready none with state := .busy })).heap[w.heap.size + 1]? = some (.loop { R .ready none with state := .busy }) := World.putObj_heap_same hll
      have hd2 : (W.putObj (w.heap.size + 1) (.loop { R .ready none with state := .busy })).heap[w.heap.size]? = some (.deferred (some [])) := (World.putObj_heap_other (by omega)).trans hd
      have hsz2 : (W.putObj (w.heap.size + 1) (.loop { R .ready none with state := .busy })).heap.size = W.heap.size := by simp [World.putObj]
      refine wpIn_mono (hbody (w.heap.size + 1) _ (by omega) (by rw [hsz2]; omega) (hI0p _ _ _ _ hi (by omega) hl rfl)) fun e a3 W3 hp => ?_
      cases e with
      | normal =>
        obtain ⟨hk, hi3⟩ := hp
        have hl3 := hk _ _ (by omega) hl2 (fun _ _ e => by cases e)
        have hd3 := hk _ _ (Nat.le_refl _) hd2 (fun _ _ e => by cases e)
        have hend := run_endRound (P := Tryz.prog) none hl3
        refine ⟨_, _, hend, rfl, ⟨hI1p _ _ _ _ hi3 (by omega) hl3 rfl, ?_, (World.putObj_heap_other (by omega)).trans hd3⟩, ?_⟩
        · rw [World.putObj_heap_same (blk_lt hl3)]
          simp only [hR]
          rfl
        · exact ((kp1_put (by omega) _).trans (fun k o hk2 ho hn => hk k o (by omega) ho hn)).trans (kp1_put (by omega) _)
      | ret => exact hp.elim
      | exit id => exact hp.elim
      | goto t => exact hp.elim
      | panic ch => exact hp.elim
      | outgrown => exact hp.elim
end Go.Proofs.YtnahgfdoiflacaaGreatDoor
