/- The reference's lines of statements. -/
import Derived.Test.YtnahgfdoiflacaaGreatDoorDW
import Derived.Test.YtnahgfdoiflacaaGreatDoorCJ
import Derived.Laws.AppendOwnNone
import Derived.Deep.CutBlock
set_option linter.unusedSimpArgs false
set_option linter.unusedVariables false
namespace Go.Proofs.YtnahgfdoiflacaaGreatDoor
open Go.RowKit Go.Lib Go.Shelf

theorem und109 : Tryz.prog.underlying 109 = some (.slice 112) := by kernel_rfl
theorem info112 : (Tryz.prog.info? 112).map (fun i => (i.zero, i.size, i.bytes)) = some (some (.agg #[.int .i64 0, .string ⟨#[]⟩]), 2, 24) := by kernel_rfl
def lnCells (l : List Ln) : List Value := l.flatMap fun x => [.int .i64 (x.1 : Int), .string x.2]
theorem lnCells_app (l m : List Ln) : lnCells (l ++ m) = lnCells l ++ lnCells m := by simp [lnCells]
theorem lnCells_one (t : Nat) (s : ByteArray) : lnCells [(t, s)] = [.int .i64 (t : Int), .string s] := rfl
theorem lnCells_len (l : List Ln) : (lnCells l).length = l.length * 2 := by
  induction l with
  | nil => rfl
  | cons x r ih =>
    have e : lnCells (x :: r) = [.int .i64 (x.1 : Int), .string x.2] ++ lnCells r := by simp [lnCells]
    rw [e, List.length_append, ih, List.length_cons]
    simp only [List.length_cons, List.length_nil]
    omega
theorem lnCells_ones (l : List Ln) : ∀ u ∈ lnCells l, u.oneCell' = true := by
  intro u hu
  simp only [lnCells, List.mem_flatMap, List.mem_cons, List.not_mem_nil, or_false] at hu
  obtain ⟨x, _, rfl | rfl⟩ := hu <;> rfl
/-- lines came out -/
def LinesPost (l : List Ln) (W : World) (e : Ending) (w' : World) : Prop := ∃ v, e = .returned v ∧ w'.ownsRow W.heap.size 112 2 v l.length (lnCells l) ∧ Below W.heap.size W w'
theorem two_cells (w : World) (x y : Value) (t : TypeId) : ∀ j u, [x, y][j]? = some u → (w.alloc (.cells #[x, y] t)).cell? ((⟨w.heap.size, 0, none⟩ : Addr).add j) = some u := by
  intro j u hj
  have h := heap_alloc_new w (.cells #[x, y] t)
  have e : ((⟨w.heap.size, 0, none⟩ : Addr).add j) = ⟨w.heap.size, j, none⟩ := by
    simp [Addr.add]
    try omega
  rw [e, blk_cell h]
  simpa using hj
section
variable {ops : Array Oper} {Q : Exit → Act → World → Prop} {i : Nat} {K : Act → World → Prop} {a : Act} {w : World} {o : Oper}
theorem wpOp_call {f : FuncId} {args : Array Value} {R : Ending → World → Prop} (hi : ops[i]? = some o) (hw : Region.wanted o (yielded ops a.tmps) = true) (hr : (execOp a.eval o).run Tryz.prog w = .ok (.enter f args) w)
    (hc : Calls Tryz.prog f args w R) (h : ∀ e w', R e w' → ∃ v, e = .returned v ∧ K (a.put o.dst v) w') : wpOp Tryz.prog ops Q i K a w :=
  wpOp_wp hi hw (by
    unfold Oper.wp
    rw [hr, Oper.upon_enter]
    refine hc.mono fun e w' hR => ?_
    obtain ⟨v, rfl, hK⟩ := h e w' hR
    exact hK)
theorem wpOp_append {s x : Operand} {base n m c : Nat} {v : Value} {xs news : List Value} {ad : Addr} (hi : ops[i]? = some o) (hw : Region.wanted o (yielded ops a.tmps) = true)
    (ho : o.op = .call { callee := .builtin .append, args := #[s, x], argTypes := #[109, 109] }) (hs : a.eval s = v) (hown : w.ownsRow base 112 2 v n xs) (hx : a.eval x = .slice (some ad) m c) (hl : news.length = m * 2)
    (hnews : ∀ j u, news[j]? = some u → w.cell? (ad.add j) = some u) (h1 : ∀ u ∈ news, u.oneCell' = true) (hb : n + m ≤ 1000000000) (hbase : base ≤ w.heap.size)
    (h : ∀ v' w', w'.ownsRow base 112 2 v' (n + m) (xs ++ news) → w.grownBy w' v.ownBlock → K (a.put o.dst v') w') : wpOp Tryz.prog ops Q i K a w := by
  obtain ⟨i0, hi0, hz0, hz1, hz2⟩ := info_parts info112
  obtain ⟨v', w', hr, h2, h3, _, _⟩ := run_append_own_at (P := Tryz.prog) w base 109 o.type 112 i0 _ 2 24 und109 hi0 hz0 hz1 hz2 rfl (by decide) v n xs hown ad m c news hl hnews h1 (by unfold maxLen; omega) (by omega) hbase
  refine wpOp_wp hi hw ?_
  unfold Oper.wp execOp
  simp only [ho, resolve, invoke, builtin, Sem.run_bind, Sem.run_pure, Result.andThen_ok, List.map_toArray, List.map_cons, List.map_nil, hs, hx, hr]
  exact h v' w' h2 h3
theorem wpOp_rows {s x : Operand} {base base2 n : Nat} {v v2 : Value} {xs : List Value} {l2 : List Ln} (hi : ops[i]? = some o) (hw : Region.wanted o (yielded ops a.tmps) = true)
    (ho : o.op = .call { callee := .builtin .append, args := #[s, x], argTypes := #[109, 109] }) (hs : a.eval s = v) (hown : w.ownsRow base 112 2 v n xs) (hx : a.eval x = v2) (h2 : w.ownsRow base2 112 2 v2 l2.length (lnCells l2)) (hb : n + l2.length ≤ 1000000000) (hbase : base ≤ w.heap.size)
    (h : ∀ v' w', w'.ownsRow base 112 2 v' (n + l2.length) (xs ++ lnCells l2) → w.grownBy w' v.ownBlock → K (a.put o.dst v') w') : wpOp Tryz.prog ops Q i K a w := by
  obtain ⟨hlen, hcase⟩ := h2
  rcases hcase with ⟨rfl, h0⟩ | ⟨g, cap, cur, rfl, hg, hh, hcap, hm, hs2, ht⟩
  · have hl : lnCells l2 = [] := List.length_eq_zero_iff.1 (by omega)
    obtain ⟨i0, hi0, hz0, hz1, hz2⟩ := info_parts info112
    have hrun := run_append_owned_none (P := Tryz.prog) (w := w) base 109 o.type 112 i0 2 und109 hi0 v n xs hown
    refine wpOp_wp hi hw ?_
    unfold Oper.wp execOp
    simp only [ho, resolve, invoke, builtin, Sem.run_bind, Sem.run_pure, Result.andThen_ok, List.map_toArray, List.map_cons, List.map_nil, hs, hx, hrun]
    refine h v w ?_ (World.grownBy.refl _ _)
    rw [hl, h0, Nat.add_zero, List.append_nil]
    exact hown
  · have h2' : w.ownsRow base2 112 2 (.slice (some ⟨g, 0, none⟩) l2.length cap) l2.length (lnCells l2) := ⟨hlen, .inr ⟨g, cap, cur, rfl, hg, hh, hcap, hm, hs2, ht⟩⟩
    exact wpOp_append hi hw ho hs hown hx (lnCells_len l2) (h2'.cells (g := g) rfl) (lnCells_ones l2) hb hbase h
end
theorem own_more {w : World} {b : Nat} {v : Value} {P L : List Ln} {t : Nat} {T : ByteArray} (h : w.ownsRow b 112 2 v (P.length + 1 + L.length) (lnCells P ++ [.int .i64 (t : Int), .string T] ++ lnCells L)) : w.ownsRow b 112 2 v (P ++ ((t, T) :: L)).length (lnCells (P ++ ((t, T) :: L))) := by
  have e1 : (P ++ ((t, T) :: L)).length = P.length + 1 + L.length := by simp; omega
  have e2 : lnCells (P ++ ((t, T) :: L)) = lnCells P ++ [.int .i64 (t : Int), .string T] ++ lnCells L := by
    rw [show P ++ ((t, T) :: L) = P ++ ([(t, T)] ++ L) from rfl, lnCells_app, lnCells_app, lnCells_one, List.append_assoc]
  rw [e1, e2]
  exact h
theorem own_last {w : World} {b : Nat} {v : Value} {P : List Ln} {t : Nat} {T : ByteArray} (h : w.ownsRow b 112 2 v (P.length + 1) (lnCells P ++ [.int .i64 (t : Int), .string T])) : w.ownsRow b 112 2 v (P ++ [(t, T)]).length (lnCells (P ++ [(t, T)])) := by
  rw [lnCells_app, lnCells_one, List.length_append]
  exact h
theorem cntN_txS : ∀ L : List Ex, cntN (L.map txS) ≤ 24 * cntL L
  | [] => by simp [cntN]
  | x :: L => by
    have h1 := cntN_txS L
    have h2 := txS_size x
    rw [List.map_cons, cntN, cntL]
    omega
theorem linesL_take_len (t : Nat) {L : List St} {k : Nat} {x : St} (h : L[k]? = some x) : (linesL t (L.take k)).length + (linesS t x).length ≤ (linesL t L).length := by
  rw [linesL_split t h, List.length_append, List.length_append]
  omega
theorem own_go {w w' : World} {b0 : Nat} {v : Value} {n : Nat} {xs : List Value} (h : w.ownsRow b0 112 2 v n xs) (hb : Below w.heap.size w w') : w'.ownsRow b0 112 2 v n xs :=
  own_keep h fun g hg => hb.block g (own_at h hg).2
theorem grown_below {w w' : World} {b0 : Nat} {v : Value} {n : Nat} {xs : List Value} {B : Nat} {W : World} (h : w.ownsRow b0 112 2 v n xs) (hg : w.grownBy w' v.ownBlock) (hB : Below B W w) (hbs : B ≤ b0) (hbw : B ≤ w.heap.size) : Below B W w' :=
  hB.grown hg hbw (fun g e => Nat.le_trans hbs (own_at h e).1)
theorem grown_keep {w w' : World} {b0 : Nat} {v : Value} {n : Nat} {xs : List Value} {x : Nat} {ob : Obj} (h : w.ownsRow b0 112 2 v n xs) (hg : w.grownBy w' v.ownBlock) (hx : w.heap[x]? = some ob) (hob : ∀ cs fr, ob ≠ .cells cs 112 fr) : w'.heap[x]? = some ob := by
  refine (hg.block x (blk_lt hx) fun e => ?_).trans hx
  rcases h.2 with ⟨rfl, _⟩ | ⟨g, cap, cur, rfl, _, hh, _⟩
  · simp [Value.ownBlock] at e
  · simp only [Value.ownBlock, Option.some.injEq] at e
    subst e
    rw [hh] at hx
    cases hx
    exact hob _ _ rfl
theorem grown_own {w w' : World} {b0 b1 : Nat} {v v1 : Value} {n n1 : Nat} {xs xs1 : List Value} (h : w.ownsRow b0 112 2 v n xs) (hg : w.grownBy w' v.ownBlock) (h1 : w.ownsRow b1 112 2 v1 n1 xs1) (hne : ∀ g, v.ownBlock = some g → g < b1) : w'.ownsRow b1 112 2 v1 n1 xs1 :=
  own_keep h1 fun g hgb => by
    refine hg.block g (own_at h1 hgb).2 fun e => ?_
    have := hne g e.symm
    have := (own_at h1 hgb).1
    omega

set_option maxRecDepth 100000 in
set_option maxHeartbeats 32000000 in
theorem refLines_any (w0 : World) (hE : Env w0) (L : List St) (A : Option Addr) (h : StsAt w0 L A) : ∀ (t c : Nat) (W : World), cntSs L ≤ 30000 → maySs L = true → t + cntSs L ≤ 100000 → Below w0.heap.size w0 W → Calls Tryz.prog 76 #[.slice A L.length c, .int .i64 t] W (LinesPost (linesL t L) W) := by
  refine StsAt.all (M := fun L A => ∀ (t c : Nat) (W : World), cntSs L ≤ 30000 → maySs L = true → t + cntSs L ≤ 100000 → Below w0.heap.size w0 W → Calls Tryz.prog 76 #[.slice A L.length c, .int .i64 t] W (LinesPost (linesL t L) W)) ?_ L A h
  intro L A hL ih t c W hc hm ht hW
  have l1 := len_cntSs L
  have hok := (linesL_ok hL t).1
  have hs := Lib.hid hL
  have hW' := Lib.hid hW
  have ih' := Lib.hid ih
  have hc' := Lib.hid hc
  have hm' := Lib.hid (show ∀ x ∈ L, mayS x = true by rw [maySs_all, List.all_eq_true] at hm; exact hm)
  have ht' := Lib.hid ht
  have hE' := Lib.hid hE
  have hok' := Lib.hid (show (linesL t L).length ≤ 90000 by omega)
  have htb : t ≤ 100000 := by omega
  obtain ⟨n, hnn⟩ : ∃ n, L.length = n := ⟨_, rfl⟩
  rw [hnn] at l1 ⊢
  have hn' := Lib.hid hnn
  have hn : n ≤ 30000 := by omega
  clear hL hW ih hnn l1 hc h hm ht hok hE
  go_enter Tryz.func76, Tryz.ntmps76
  go_wp2_with fail
  go_loopg [5, 6] n (fun g s5 s6 wr => ∃ k : Nat, k + g = n ∧ s6 = .int .i64 k ∧ wr.ownsRow W.heap.size 112 2 s5 (linesL t (L.take k)).length (lnCells (linesL t (L.take k))) ∧ Below W.heap.size W wr)
  case atStart => exact ⟨0, by omega, rfl, by rw [List.take_zero, linesL_nil]; exact ⟨rfl, .inl ⟨rfl, rfl⟩⟩, Below.refl _ _⟩
  case round =>
    obtain ⟨k, hkg, rfl, ho, hb⟩ := hrel
    have ho := Lib.hid ho
    have hb := Lib.hid hb
    cases gk with
    | zero =>
      have e0 : ¬ (k : Int) < (n : Int) := by omega
      have hfin := Lib.hid (show L.take k = L by rw [List.take_of_length_le (by rw [hn'.out]; omega)])
      go_wp2
      go_ret
      exact ⟨_, rfl, by have := ho.out; rw [hfin.out] at this; exact this, hb.out⟩
    | succ g2 =>
      have e0 : (k : Int) < (n : Int) := by omega
      have hbw := Lib.hid (hW'.out.trans (hb.out.mono hW'.out.size))
      obtain ⟨blk, off, x, r, rfl, hx, hcx, hnow, hbd, hel⟩ := (hs.out).at_ (k := k) (by rw [hn'.out]; omega)
      have hmx := hm'.out x (List.mem_of_getElem? hx)
      have c1 := cntS_mem hx
      have c2 := cntS_bd x
      have c3 := hc'.out
      have c4 := ht'.out
      have hlen := linesL_take_len t hx
      have hokx := hok'.out
      have hnext := linesL_take t hx
      obtain ⟨hkk, hme, hma, hmr⟩ := mayS_parts hmx
      have hkd : 1 ≤ x.kd ∧ x.kd ≤ 6 := by simpa [kindOk] using hkk
      have hmb : maySs x.bd = true ∧ maySs x.el = true := by
        rw [mayS_eq, Bool.and_eq_true, Bool.and_eq_true, Bool.and_eq_true] at hmx
        exact hmx.2.2
      have z1 := txS_size x.e
      have z2 := txS_size x.a
      obtain ⟨kd, nm, ⟨nA, nn, nc⟩, ⟨eo, eu, en, ⟨eA, ek, ec⟩⟩, ⟨ao, au, an, ⟨aA, ak, ac⟩⟩, ⟨gA, gn, gc⟩, lo, hi, ⟨bA, bn, bc⟩, ⟨lA, ln, lc⟩⟩ := r
      obtain ⟨kx, mx, nx, nxA, ⟨ex1, ex2, ex3, ex4, exA, exu⟩, ⟨ax1, ax2, ax3, ax4, axA, axu⟩, gx, gxA, lx, hx', loh, hih, bx, elx⟩ := hnow
      dsimp only at kx mx nx nxA ex1 ex2 ex3 ex4 exA ax1 ax2 ax3 ax4 axA gx gxA lx hx' bx elx hbd hel
      have v0 : w0.cell? ⟨blk, off + k * 16, none⟩ = some (.int .i64 kd) := hcx 0 (by omega)
      have v0 := (hbw.out.cell (p := ⟨blk, off + k * 16, none⟩) (cell_some_lt v0)).trans v0
      have v1 : w0.cell? ⟨blk, off + k * 16 + 1, none⟩ = some (.string nm) := hcx 1 (by omega)
      have v1 := (hbw.out.cell (p := ⟨blk, off + k * 16 + 1, none⟩) (cell_some_lt v1)).trans v1
      have v2 : w0.cell? ⟨blk, off + k * 16 + 2, none⟩ = some (.slice nA nn nc) := hcx 2 (by omega)
      have v2 := (hbw.out.cell (p := ⟨blk, off + k * 16 + 2, none⟩) (cell_some_lt v2)).trans v2
      have v3 : w0.cell? ⟨blk, off + k * 16 + 3, none⟩ = some (.int .i64 eo) := hcx 3 (by omega)
      have v3 := (hbw.out.cell (p := ⟨blk, off + k * 16 + 3, none⟩) (cell_some_lt v3)).trans v3
      have v4 : w0.cell? ⟨blk, off + k * 16 + 4, none⟩ = some (.int .u64 eu) := hcx 4 (by omega)
      have v4 := (hbw.out.cell (p := ⟨blk, off + k * 16 + 4, none⟩) (cell_some_lt v4)).trans v4
      have v5 : w0.cell? ⟨blk, off + k * 16 + 5, none⟩ = some (.string en) := hcx 5 (by omega)
      have v5 := (hbw.out.cell (p := ⟨blk, off + k * 16 + 5, none⟩) (cell_some_lt v5)).trans v5
      have v6 : w0.cell? ⟨blk, off + k * 16 + 6, none⟩ = some (.slice eA ek ec) := hcx 6 (by omega)
      have v6 := (hbw.out.cell (p := ⟨blk, off + k * 16 + 6, none⟩) (cell_some_lt v6)).trans v6
      have v7 : w0.cell? ⟨blk, off + k * 16 + 7, none⟩ = some (.int .i64 ao) := hcx 7 (by omega)
      have v7 := (hbw.out.cell (p := ⟨blk, off + k * 16 + 7, none⟩) (cell_some_lt v7)).trans v7
      have v8 : w0.cell? ⟨blk, off + k * 16 + 8, none⟩ = some (.int .u64 au) := hcx 8 (by omega)
      have v8 := (hbw.out.cell (p := ⟨blk, off + k * 16 + 8, none⟩) (cell_some_lt v8)).trans v8
      have v9 : w0.cell? ⟨blk, off + k * 16 + 9, none⟩ = some (.string an) := hcx 9 (by omega)
      have v9 := (hbw.out.cell (p := ⟨blk, off + k * 16 + 9, none⟩) (cell_some_lt v9)).trans v9
      have v10 : w0.cell? ⟨blk, off + k * 16 + 10, none⟩ = some (.slice aA ak ac) := hcx 10 (by omega)
      have v10 := (hbw.out.cell (p := ⟨blk, off + k * 16 + 10, none⟩) (cell_some_lt v10)).trans v10
      have v11 : w0.cell? ⟨blk, off + k * 16 + 11, none⟩ = some (.slice gA gn gc) := hcx 11 (by omega)
      have v11 := (hbw.out.cell (p := ⟨blk, off + k * 16 + 11, none⟩) (cell_some_lt v11)).trans v11
      have v12 : w0.cell? ⟨blk, off + k * 16 + 12, none⟩ = some (.int .u64 lo) := hcx 12 (by omega)
      have v12 := (hbw.out.cell (p := ⟨blk, off + k * 16 + 12, none⟩) (cell_some_lt v12)).trans v12
      have v13 : w0.cell? ⟨blk, off + k * 16 + 13, none⟩ = some (.int .u64 hi) := hcx 13 (by omega)
      have v13 := (hbw.out.cell (p := ⟨blk, off + k * 16 + 13, none⟩) (cell_some_lt v13)).trans v13
      have v14 : w0.cell? ⟨blk, off + k * 16 + 14, none⟩ = some (.slice bA bn bc) := hcx 14 (by omega)
      have v14 := (hbw.out.cell (p := ⟨blk, off + k * 16 + 14, none⟩) (cell_some_lt v14)).trans v14
      have v15 : w0.cell? ⟨blk, off + k * 16 + 15, none⟩ = some (.slice lA ln lc) := hcx 15 (by omega)
      have v15 := (hbw.out.cell (p := ⟨blk, off + k * 16 + 15, none⟩) (cell_some_lt v15)).trans v15
      obtain ⟨w1, hw1⟩ : ∃ w1, wr.alloc (.cells #[.int .i64 kd, .string nm, .slice nA nn nc, .int .i64 eo, .int .u64 eu, .string en, .slice eA ek ec, .int .i64 ao, .int .u64 au, .string an, .slice aA ak ac, .slice gA gn gc, .int .u64 lo, .int .u64 hi, .slice bA bn bc, .slice lA ln lc] 50) = w1 := ⟨_, rfl⟩
      have hb1 : Below wr.heap.size wr w1 := by rw [← hw1]; exact (Below.refl _ wr).alloc (Nat.le_refl _) _
      have hX : w1.heap[wr.heap.size]? = some (.cells #[.int .i64 kd, .string nm, .slice nA nn nc, .int .i64 eo, .int .u64 eu, .string en, .slice eA ek ec, .int .i64 ao, .int .u64 au, .string an, .slice aA ak ac, .slice gA gn gc, .int .u64 lo, .int .u64 hi, .slice bA bn bc, .slice lA ln lc] 50 (0, 0)) := by rw [← hw1]; exact heap_alloc_new _ _
      have hbW : Below W.heap.size W w1 := Below.next hb.out hb1
      have ho1 : w1.ownsRow W.heap.size 112 2 u5 (linesL t (L.take k)).length (lnCells (linesL t (L.take k))) := own_go ho.out hb1
      have up : ∀ W', Below W.heap.size W W' → Below w0.heap.size w0 W' := fun W' h => hW'.out.trans (h.mono hW'.out.size)
      obtain ⟨p0, p1, p2, p3, p4, p5, p6, p7, p8, p9, p10, p11, p12, p13, p14, p15⟩ := box16 hX
      have h17e : usesE kd = true → ∀ (W' : World), Below W.heap.size W W' → Calls Tryz.prog 17 #[.agg #[.int .i64 eo, .int .u64 eu, .string en, .slice eA ek ec]] W' (StrPost (txS x.e) W') := fun hu W' hW2 => by
        rw [ex1, ex2, ex3, ex4]
        exact refExpr_any w0 hE'.out x.e eA exA (by omega) (hme (by rw [← kx]; exact hu)) exu ec W' (up _ hW2)
      have h17a : kd = 2 → ∀ (W' : World), Below W.heap.size W W' → Calls Tryz.prog 17 #[.agg #[.int .i64 ao, .int .u64 au, .string an, .slice aA ak ac]] W' (StrPost (txS x.a) W') := fun hu W' hW2 => by
        rw [ax1, ax2, ax3, ax4]
        exact refExpr_any w0 hE'.out x.a aA axA (by omega) (hma (by rw [← kx]; exact hu)) axu ac W' (up _ hW2)
      have h126 : ∀ (W' : World), Below W.heap.size W W' → Calls Tryz.prog 126 #[.slice gA gn gc] W' (ArgsPost (x.ars.map txS) W') := fun W' hW2 => by
        rw [gx]
        exact refArgsT_any w0 hE'.out x.ars gA gxA gc W' (up _ hW2) (by have := len_cnt x.ars; omega) (fun y hy => ⟨by obtain ⟨i, hi⟩ := List.getElem?_of_mem hy; have := cnt_mem hi; omega, by rw [List.all_eq_true] at hmr; exact hmr y hy⟩)
      have h74 : ∀ (W' : World), Below W.heap.size W W' → Calls Tryz.prog 74 #[.slice nA nn nc] W' (StrPost (listT x.ns) W') := fun W' hW2 => by
        rw [nx]
        exact refList_any w0 x.ns nA nxA nc W' (up _ hW2) (by omega)
      have h47 : ∀ (u : Nat) (W' : World), u < 18446744073709551616 → Below W.heap.size W W' → Calls Tryz.prog 47 #[.int .u64 u, .int .i64 10] W' (StrPost (numT u) W') := fun u W' hu hW2 => fmtU u hu W' (hE'.out.below (up _ hW2)).tab
      have h76b : ∀ (W' : World), Below W.heap.size W W' → Calls Tryz.prog 76 #[.slice bA bn bc, .int .i64 ((t + 1 : Nat) : Int)] W' (LinesPost (linesL (t + 1) x.bd) W') := fun W' hW2 => by
        rw [bx]
        exact (ih'.out k x bA hx).1 hbd (t + 1) bc W' (by omega) hmb.1 (by omega) (up _ hW2)
      have h76e : ∀ (W' : World), Below W.heap.size W W' → Calls Tryz.prog 76 #[.slice lA ln lc, .int .i64 ((t + 1 : Nat) : Int)] W' (LinesPost (linesL (t + 1) x.el) W') := fun W' hW2 => by
        rw [elx]
        exact (ih'.out k x lA hx).2 hel (t + 1) lc W' (by omega) hmb.2 (by omega) (up _ hW2)
      have hnmz : nm.size ≤ 30000 := by rw [mx]; omega
      have h17e := Lib.hid h17e
      have h17a := Lib.hid h17a
      have h126 := Lib.hid h126
      have h74 := Lib.hid h74
      have h47 := Lib.hid h47
      have h76b := Lib.hid h76b
      have h76e := Lib.hid h76e
      have hX := Lib.hid hX
      have hb1 := Lib.hid hb1
      have hbW := Lib.hid hbW
      have ho1 := Lib.hid ho1
      have hnext := Lib.hid hnext
      have hlen := Lib.hid hlen
      have hokx := Lib.hid hokx
      have hw1' := Lib.hid hw1
      have z1 := Lib.hid z1
      have z2 := Lib.hid z2
      have c12 := Lib.hid (And.intro c1 (And.intro c2 c3))
      have eqs := Lib.hid (And.intro kx (And.intro mx (And.intro nx (And.intro lx (And.intro hx' (And.intro loh (And.intro hih elx)))))))
      have hars := Lib.hid hmr
      clear hcx hx kx mx nx nxA ex1 ex2 ex3 ex4 exA exu ax1 ax2 ax3 ax4 axA axu gx gxA lx hx' bx elx hbd hel up hw1 c1 c2 c3 c4 hme hma hmr hmx hkk hmb loh hih
      obtain ⟨P0, hP0⟩ : ∃ P0, linesL t (L.take k) = P0 := ⟨_, rfl⟩
      rw [hP0] at ho1 hnext hlen
      clear hP0
      have hkd1 : 1 ≤ kd ∧ kd ≤ 6 := by rw [eqs.out.1]; exact hkd
      clear hkd
      rcases (show kd = 1 ∨ kd = 2 ∨ kd = 6 ∨ (kd ≠ 1 ∧ kd ≠ 2 ∧ kd ≠ 6) by omega) with rfl | rfl | rfl | ⟨n1, n2, n6⟩
      · as_aux_lemma => -- kind 1
          have hT : nm ++ ⟨#[32, 61, 32]⟩ ++ txS x.e ++ ⟨#[59]⟩ = headB x := by
            obtain ⟨e1, e2, _⟩ := eqs.out
            unfold headB
            rw [← e1, ← e2]
            simp
          have hS := Lib.hid (show linesS t x = [(t, headB x)] by rw [linesS_eq, ← eqs.out.1]; rfl)
          have hz1 : (txS x.e).size ≤ 720000 := by have := z1.out; have := c12.out; omega
          have hz2 : (txS x.a).size ≤ 720000 := by have := z2.out; have := c12.out; omega
          have h17 := h17e.out rfl
          generalize txS x.e = SE at h17 hz1 hT
          generalize txS x.a = SA at hz2 hT
          generalize headB x = T at hT hS
          have h17 := Lib.hid h17
          skip
          go_upto_region 10 with fail
          clear v0 v1 v2 v3 v4 v5 v6 v7 v8 v9 v10 v11 v12 v13 v14 v15 p0 p1 p2 p3 p4 p5 p6 p7 p8 p9 p10 p11 p12 p13 p14 p15
          first | rw [hw1'.out] | skip
          go_cut [5] (fun s5 wx => wx.ownsRow W.heap.size 112 2 s5 (P0 ++ [(t, T)]).length (lnCells (P0 ++ [(t, T)])) ∧ Below W.heap.size W wx)
          case first =>
            as_aux_lemma =>
              skip
              have hS0 : ({ w1 with drawn := w1.drawn + 1 } : World).heap[wr.heap.size]? = some (.cells #[.int .i64 1, .string nm, .slice nA nn nc, .int .i64 eo, .int .u64 eu, .string en, .slice eA ek ec, .int .i64 ao, .int .u64 au, .string an, .slice aA ak ac, .slice gA gn gc, .int .u64 lo, .int .u64 hi, .slice bA bn bc, .slice lA ln lc] 50 (0, 0)) := hX.out
              have hB0 : Below W.heap.size W ({ w1 with drawn := w1.drawn + 1 } : World) := below_drew1 hbW.out
              have hO0 : ({ w1 with drawn := w1.drawn + 1 } : World).ownsRow W.heap.size 112 2 u5 P0.length (lnCells P0) := ho1.out
              refine wp_region_held (S := fun w' => w'.heap[wr.heap.size]? = some (.cells #[.int .i64 1, .string nm, .slice nA nn nc, .int .i64 eo, .int .u64 eu, .string en, .slice eA ek ec, .int .i64 ao, .int .u64 au, .string an, .slice aA ak ac, .slice gA gn gc, .int .u64 lo, .int .u64 hi, .slice bA bn bc, .slice lA ln lc] 50 (0, 0))) (by kernel_rfl) ?_
              generalize ({ w1 with drawn := w1.drawn + 1 } : World) = wd at hS0 hB0 hO0 ⊢
              refine wpAnyH_take (i := 0) (v := u5) rfl (by kernel_rfl) (by kernel_rfl) (by kernel_rfl) (fun _ _ _ h => h) (Or.inl ⟨by rfl, fun w hw => by go_simp; try omega⟩) hS0 ?_
              simp only [Act.put, List.getElem_toArray, List.getElem_cons_zero, List.getElem_cons_succ, List.setIfInBounds_toArray, List.set_cons_zero, List.set_cons_succ]
              refine wpAnyH_take (i := 1) (v := .int .i64 t) rfl (by kernel_rfl) (by kernel_rfl) (by kernel_rfl) (fun _ _ _ h => h) (Or.inl ⟨by rfl, fun w hw => by go_simp; try omega⟩) hS0 ?_
              simp only [Act.put, List.getElem_toArray, List.getElem_cons_zero, List.getElem_cons_succ, List.setIfInBounds_toArray, List.set_cons_zero, List.set_cons_succ]
              refine wpAnyH_take (i := 2) (v := .pointer (some ⟨wr.heap.size, 1, none⟩)) rfl (by kernel_rfl) (by kernel_rfl) (by kernel_rfl) (fun _ _ _ h => h) (Or.inl ⟨by rfl, fun w hw => by go_simp; try omega⟩) hS0 ?_
              simp only [Act.put, List.getElem_toArray, List.getElem_cons_zero, List.getElem_cons_succ, List.setIfInBounds_toArray, List.set_cons_zero, List.set_cons_succ]
              refine wpAnyH_take (i := 3) (v := .string nm) rfl (by kernel_rfl) (by kernel_rfl) (by kernel_rfl) (fun _ _ _ h => h) (Or.inl ⟨by rfl, fun w hw => by obtain ⟨p0, p1, p2, p3, p4, p5, p6, p7, p8, p9, p10, p11, p12, p13, p14, p15⟩ := box16 hw; go_simp; try omega⟩) hS0 ?_
              simp only [Act.put, List.getElem_toArray, List.getElem_cons_zero, List.getElem_cons_succ, List.setIfInBounds_toArray, List.set_cons_zero, List.set_cons_succ]
              have hSwd := hS0
              have hBwd := hB0
              have hOwd := hO0
              clear hS0 hB0 hO0
              refine wpAnyH_take (i := 4) (v := .string (nm ++ ⟨#[32, 61, 32]⟩)) rfl (by kernel_rfl) (by kernel_rfl) (by kernel_rfl) (fun _ _ _ h => h) (Or.inl ⟨by rfl, fun w hw => by go_simp; try omega⟩) hSwd ?_
              simp only [Act.put, List.getElem_toArray, List.getElem_cons_zero, List.getElem_cons_succ, List.setIfInBounds_toArray, List.set_cons_zero, List.set_cons_succ]
              refine wpAnyH_take (i := 5) (v := .pointer (some ⟨wr.heap.size, 3, none⟩)) rfl (by kernel_rfl) (by kernel_rfl) (by kernel_rfl) (fun _ _ _ h => h) (Or.inl ⟨by rfl, fun w hw => by go_simp; try omega⟩) hSwd ?_
              simp only [Act.put, List.getElem_toArray, List.getElem_cons_zero, List.getElem_cons_succ, List.setIfInBounds_toArray, List.set_cons_zero, List.set_cons_succ]
              refine wpAnyH_take (i := 6) (v := .agg #[.int .i64 eo, .int .u64 eu, .string en, .slice eA ek ec]) rfl (by kernel_rfl) (by kernel_rfl) (by kernel_rfl) (fun _ _ _ h => h) (Or.inl ⟨by rfl, fun w hw => by obtain ⟨p0, p1, p2, p3, p4, p5, p6, p7, p8, p9, p10, p11, p12, p13, p14, p15⟩ := box16 hw; go_simp; try omega⟩) hSwd ?_
              simp only [Act.put, List.getElem_toArray, List.getElem_cons_zero, List.getElem_cons_succ, List.setIfInBounds_toArray, List.set_cons_zero, List.set_cons_succ]
              refine wpAnyH_all (rs := [7]) (by kernel_rfl) (by simp) ?_
              intro io hio
              rcases (by simpa using hio : io = 7) with rfl
              refine wpOp_call rfl (by rfl) (f := 17) (args := #[.agg #[.int .i64 eo, .int .u64 eu, .string en, .slice eA ek ec]]) (by first | rfl | go_simp) (h17.out wd hBwd) ?_
              rintro e wa ⟨rfl, hbwa⟩
              have hSwa : wa.heap[wr.heap.size]? = some (.cells #[.int .i64 1, .string nm, .slice nA nn nc, .int .i64 eo, .int .u64 eu, .string en, .slice eA ek ec, .int .i64 ao, .int .u64 au, .string an, .slice aA ak ac, .slice gA gn gc, .int .u64 lo, .int .u64 hi, .slice bA bn bc, .slice lA ln lc] 50 (0, 0)) := (hbwa.block _ (blk_lt hSwd)).trans hSwd
              have hBwa := Below.next hBwd hbwa
              have hOwa := own_go hOwd hbwa
              refine ⟨_, rfl, hSwa, ?_⟩
              simp only [Act.put, List.getElem_toArray, List.getElem_cons_zero, List.getElem_cons_succ, List.setIfInBounds_toArray, List.set_cons_zero, List.set_cons_succ]
              refine wpAnyH_take (i := 8) (v := .string (nm ++ ⟨#[32, 61, 32]⟩ ++ SE)) rfl (by kernel_rfl) (by kernel_rfl) (by kernel_rfl) (fun _ _ _ h => h) (Or.inl ⟨by rfl, fun w hw => by go_simp; try omega⟩) hSwa ?_
              simp only [Act.put, List.getElem_toArray, List.getElem_cons_zero, List.getElem_cons_succ, List.setIfInBounds_toArray, List.set_cons_zero, List.set_cons_succ]
              refine wpAnyH_take (i := 9) (v := .string T) rfl (by kernel_rfl) (by kernel_rfl) (by kernel_rfl) (fun _ _ _ h => h) (Or.inl ⟨by rfl, fun w hw => by go_simp; try omega⟩) hSwa ?_
              simp only [Act.put, List.getElem_toArray, List.getElem_cons_zero, List.getElem_cons_succ, List.setIfInBounds_toArray, List.set_cons_zero, List.set_cons_succ]
              refine wpAnyH_take (i := 10) (v := .agg #[.int .i64 t, .string T]) rfl (by kernel_rfl) (by kernel_rfl) (by kernel_rfl) (fun _ _ _ h => h) (Or.inl ⟨by rfl, fun w hw => by go_simp; try omega⟩) hSwa ?_
              simp only [Act.put, List.getElem_toArray, List.getElem_cons_zero, List.getElem_cons_succ, List.setIfInBounds_toArray, List.set_cons_zero, List.set_cons_succ]
              refine wpAnyH_all (rs := [11]) (by kernel_rfl) (by simp) ?_
              intro io hio
              rcases (by simpa using hio : io = 11) with rfl
              obtain ⟨wy, hwy⟩ : ∃ wy, wa.alloc (.cells #[.int .i64 (t : Int), .string T] 112) = wy := ⟨_, rfl⟩
              have hSwy : wy.heap[wr.heap.size]? = some (.cells #[.int .i64 1, .string nm, .slice nA nn nc, .int .i64 eo, .int .u64 eu, .string en, .slice eA ek ec, .int .i64 ao, .int .u64 au, .string an, .slice aA ak ac, .slice gA gn gc, .int .u64 lo, .int .u64 hi, .slice bA bn bc, .slice lA ln lc] 50 (0, 0)) := by rw [← hwy]; exact (heap_alloc_old _ _ (blk_lt hSwa)).trans hSwa
              have hBwy : Below W.heap.size W wy := by rw [← hwy]; exact hBwa.alloc hBwa.size _
              have hNwy : ∀ j u, [Value.int .i64 (t : Int), .string T][j]? = some u → wy.cell? ((⟨wa.heap.size, 0, none⟩ : Addr).add j) = some u := by rw [← hwy]; exact two_cells _ _ _ _
              have hOwy : wy.ownsRow W.heap.size 112 2 u5 P0.length (lnCells P0) := by rw [← hwy]; exact World.ownsRow.alloc hOwa _
              refine wpOp_ran (w' := wy) (v := .slice (some ⟨wa.heap.size, 0, none⟩) 1 1) rfl (by rfl) (by rw [← hwy]; first | rfl | (unfold execOp; go_simp; rfl) | go_simp) ⟨hSwy, ?_⟩
              simp only [Act.put, List.getElem_toArray, List.getElem_cons_zero, List.getElem_cons_succ, List.setIfInBounds_toArray, List.set_cons_zero, List.set_cons_succ]
              refine wpAnyH_all (rs := [12]) (by kernel_rfl) (by simp) ?_
              intro io hio
              rcases (by simpa using hio : io = 12) with rfl
              refine wpOp_append (ad := ⟨wa.heap.size, 0, none⟩) (m := 1) (c := 1) (news := [.int .i64 (t : Int), .string T]) rfl (by rfl) rfl rfl hOwy rfl rfl hNwy (lnCells_ones [(t, T)]) (by have := hlen.out; have := hokx.out; omega) hBwy.size ?_
              intro v1 wz hPwz hgwz
              have hSwz := grown_keep hOwy hgwz hSwy (by intro cs fr e; cases e)
              have hBwz := grown_below hOwy hgwz hBwy (Nat.le_refl _) hBwy.size
              refine ⟨hSwz, ?_⟩
              simp only [Act.put, List.getElem_toArray, List.getElem_cons_zero, List.getElem_cons_succ, List.setIfInBounds_toArray, List.set_cons_zero, List.set_cons_succ]
              refine wpAnyH_take (i := 13) (v := v1) rfl (by kernel_rfl) (by kernel_rfl) (by kernel_rfl) (fun _ _ _ h => h) (Or.inl ⟨by rfl, fun w hw => by go_simp; try omega⟩) hSwz ?_
              simp only [Act.put, List.getElem_toArray, List.getElem_cons_zero, List.getElem_cons_succ, List.setIfInBounds_toArray, List.set_cons_zero, List.set_cons_succ]
              refine wpAnyH_done (by kernel_rfl) ?_ _
              go_wp2_with fail
              go_meet
              case rel => exact ⟨own_last hPwz, hBwz⟩
          case rest =>
            obtain ⟨hO1, hB1⟩ := hcut
            have hO1 := Lib.hid hO1
            have hB1 := Lib.hid hB1
            go_wp2
            go_roundg g2
            case measure => omega
            case rel => exact ⟨k + 1, by omega, by go_num, by rw [hnext.out, hS.out]; exact hO1.out, hB1.out⟩
      · as_aux_lemma => -- kind 2
          have hT : nm ++ ⟨#[91]⟩ ++ txS x.a ++ ⟨#[93, 32, 61, 32]⟩ ++ txS x.e ++ ⟨#[59]⟩ = headB x := by
            obtain ⟨e1, e2, _⟩ := eqs.out
            unfold headB
            rw [← e1, ← e2]
            simp
          have hS := Lib.hid (show linesS t x = [(t, headB x)] by rw [linesS_eq, ← eqs.out.1]; rfl)
          have hz1 : (txS x.e).size ≤ 720000 := by have := z1.out; have := c12.out; omega
          have hz2 : (txS x.a).size ≤ 720000 := by have := z2.out; have := c12.out; omega
          have h17 := h17e.out rfl
          have h17b := h17a.out rfl
          generalize txS x.e = SE at h17 hz1 hT
          generalize txS x.a = SA at h17b hz2 hT
          generalize headB x = T at hT hS
          have h17 := Lib.hid h17
          have h17b := Lib.hid h17b
          go_upto_region 12 with fail
          clear v0 v1 v2 v3 v4 v5 v6 v7 v8 v9 v10 v11 v12 v13 v14 v15 p0 p1 p2 p3 p4 p5 p6 p7 p8 p9 p10 p11 p12 p13 p14 p15
          first | rw [hw1'.out] | skip
          go_cut [5] (fun s5 wx => wx.ownsRow W.heap.size 112 2 s5 (P0 ++ [(t, T)]).length (lnCells (P0 ++ [(t, T)])) ∧ Below W.heap.size W wx)
          case first =>
            as_aux_lemma =>
              skip
              have hS0 : ({ w1 with drawn := w1.drawn + 1 } : World).heap[wr.heap.size]? = some (.cells #[.int .i64 2, .string nm, .slice nA nn nc, .int .i64 eo, .int .u64 eu, .string en, .slice eA ek ec, .int .i64 ao, .int .u64 au, .string an, .slice aA ak ac, .slice gA gn gc, .int .u64 lo, .int .u64 hi, .slice bA bn bc, .slice lA ln lc] 50 (0, 0)) := hX.out
              have hB0 : Below W.heap.size W ({ w1 with drawn := w1.drawn + 1 } : World) := below_drew1 hbW.out
              have hO0 : ({ w1 with drawn := w1.drawn + 1 } : World).ownsRow W.heap.size 112 2 u5 P0.length (lnCells P0) := ho1.out
              refine wp_region_held (S := fun w' => w'.heap[wr.heap.size]? = some (.cells #[.int .i64 2, .string nm, .slice nA nn nc, .int .i64 eo, .int .u64 eu, .string en, .slice eA ek ec, .int .i64 ao, .int .u64 au, .string an, .slice aA ak ac, .slice gA gn gc, .int .u64 lo, .int .u64 hi, .slice bA bn bc, .slice lA ln lc] 50 (0, 0))) (by kernel_rfl) ?_
              generalize ({ w1 with drawn := w1.drawn + 1 } : World) = wd at hS0 hB0 hO0 ⊢
              refine wpAnyH_take (i := 0) (v := u5) rfl (by kernel_rfl) (by kernel_rfl) (by kernel_rfl) (fun _ _ _ h => h) (Or.inl ⟨by rfl, fun w hw => by go_simp; try omega⟩) hS0 ?_
              simp only [Act.put, List.getElem_toArray, List.getElem_cons_zero, List.getElem_cons_succ, List.setIfInBounds_toArray, List.set_cons_zero, List.set_cons_succ]
              refine wpAnyH_take (i := 1) (v := .int .i64 t) rfl (by kernel_rfl) (by kernel_rfl) (by kernel_rfl) (fun _ _ _ h => h) (Or.inl ⟨by rfl, fun w hw => by go_simp; try omega⟩) hS0 ?_
              simp only [Act.put, List.getElem_toArray, List.getElem_cons_zero, List.getElem_cons_succ, List.setIfInBounds_toArray, List.set_cons_zero, List.set_cons_succ]
              refine wpAnyH_take (i := 2) (v := .pointer (some ⟨wr.heap.size, 1, none⟩)) rfl (by kernel_rfl) (by kernel_rfl) (by kernel_rfl) (fun _ _ _ h => h) (Or.inl ⟨by rfl, fun w hw => by go_simp; try omega⟩) hS0 ?_
              simp only [Act.put, List.getElem_toArray, List.getElem_cons_zero, List.getElem_cons_succ, List.setIfInBounds_toArray, List.set_cons_zero, List.set_cons_succ]
              refine wpAnyH_take (i := 3) (v := .string nm) rfl (by kernel_rfl) (by kernel_rfl) (by kernel_rfl) (fun _ _ _ h => h) (Or.inl ⟨by rfl, fun w hw => by obtain ⟨p0, p1, p2, p3, p4, p5, p6, p7, p8, p9, p10, p11, p12, p13, p14, p15⟩ := box16 hw; go_simp; try omega⟩) hS0 ?_
              simp only [Act.put, List.getElem_toArray, List.getElem_cons_zero, List.getElem_cons_succ, List.setIfInBounds_toArray, List.set_cons_zero, List.set_cons_succ]
              have hSwd := hS0
              have hBwd := hB0
              have hOwd := hO0
              clear hS0 hB0 hO0
              refine wpAnyH_take (i := 4) (v := .string (nm ++ ⟨#[91]⟩)) rfl (by kernel_rfl) (by kernel_rfl) (by kernel_rfl) (fun _ _ _ h => h) (Or.inl ⟨by rfl, fun w hw => by go_simp; try omega⟩) hSwd ?_
              simp only [Act.put, List.getElem_toArray, List.getElem_cons_zero, List.getElem_cons_succ, List.setIfInBounds_toArray, List.set_cons_zero, List.set_cons_succ]
              refine wpAnyH_take (i := 5) (v := .pointer (some ⟨wr.heap.size, 7, none⟩)) rfl (by kernel_rfl) (by kernel_rfl) (by kernel_rfl) (fun _ _ _ h => h) (Or.inl ⟨by rfl, fun w hw => by go_simp; try omega⟩) hSwd ?_
              simp only [Act.put, List.getElem_toArray, List.getElem_cons_zero, List.getElem_cons_succ, List.setIfInBounds_toArray, List.set_cons_zero, List.set_cons_succ]
              refine wpAnyH_take (i := 6) (v := .agg #[.int .i64 ao, .int .u64 au, .string an, .slice aA ak ac]) rfl (by kernel_rfl) (by kernel_rfl) (by kernel_rfl) (fun _ _ _ h => h) (Or.inl ⟨by rfl, fun w hw => by obtain ⟨p0, p1, p2, p3, p4, p5, p6, p7, p8, p9, p10, p11, p12, p13, p14, p15⟩ := box16 hw; go_simp; try omega⟩) hSwd ?_
              simp only [Act.put, List.getElem_toArray, List.getElem_cons_zero, List.getElem_cons_succ, List.setIfInBounds_toArray, List.set_cons_zero, List.set_cons_succ]
              refine wpAnyH_take (i := 10) (v := .pointer (some ⟨wr.heap.size, 3, none⟩)) rfl (by kernel_rfl) (by kernel_rfl) (by kernel_rfl) (fun _ _ _ h => h) (Or.inl ⟨by rfl, fun w hw => by go_simp; try omega⟩) hSwd ?_
              simp only [Act.put, List.getElem_toArray, List.getElem_cons_zero, List.getElem_cons_succ, List.setIfInBounds_toArray, List.set_cons_zero, List.set_cons_succ]
              refine wpAnyH_take (i := 11) (v := .agg #[.int .i64 eo, .int .u64 eu, .string en, .slice eA ek ec]) rfl (by kernel_rfl) (by kernel_rfl) (by kernel_rfl) (fun _ _ _ h => h) (Or.inl ⟨by rfl, fun w hw => by obtain ⟨p0, p1, p2, p3, p4, p5, p6, p7, p8, p9, p10, p11, p12, p13, p14, p15⟩ := box16 hw; go_simp; try omega⟩) hSwd ?_
              simp only [Act.put, List.getElem_toArray, List.getElem_cons_zero, List.getElem_cons_succ, List.setIfInBounds_toArray, List.set_cons_zero, List.set_cons_succ]
              refine wpAnyH_all (rs := [7]) (by kernel_rfl) (by simp) ?_
              intro io hio
              rcases (by simpa using hio : io = 7) with rfl
              refine wpOp_call rfl (by rfl) (f := 17) (args := #[.agg #[.int .i64 ao, .int .u64 au, .string an, .slice aA ak ac]]) (by first | rfl | go_simp) (h17b.out wd hBwd) ?_
              rintro e wa ⟨rfl, hbwa⟩
              have hSwa : wa.heap[wr.heap.size]? = some (.cells #[.int .i64 2, .string nm, .slice nA nn nc, .int .i64 eo, .int .u64 eu, .string en, .slice eA ek ec, .int .i64 ao, .int .u64 au, .string an, .slice aA ak ac, .slice gA gn gc, .int .u64 lo, .int .u64 hi, .slice bA bn bc, .slice lA ln lc] 50 (0, 0)) := (hbwa.block _ (blk_lt hSwd)).trans hSwd
              have hBwa := Below.next hBwd hbwa
              have hOwa := own_go hOwd hbwa
              refine ⟨_, rfl, hSwa, ?_⟩
              simp only [Act.put, List.getElem_toArray, List.getElem_cons_zero, List.getElem_cons_succ, List.setIfInBounds_toArray, List.set_cons_zero, List.set_cons_succ]
              refine wpAnyH_take (i := 8) (v := .string (nm ++ ⟨#[91]⟩ ++ SA)) rfl (by kernel_rfl) (by kernel_rfl) (by kernel_rfl) (fun _ _ _ h => h) (Or.inl ⟨by rfl, fun w hw => by go_simp; try omega⟩) hSwa ?_
              simp only [Act.put, List.getElem_toArray, List.getElem_cons_zero, List.getElem_cons_succ, List.setIfInBounds_toArray, List.set_cons_zero, List.set_cons_succ]
              refine wpAnyH_take (i := 9) (v := .string (nm ++ ⟨#[91]⟩ ++ SA ++ ⟨#[93, 32, 61, 32]⟩)) rfl (by kernel_rfl) (by kernel_rfl) (by kernel_rfl) (fun _ _ _ h => h) (Or.inl ⟨by rfl, fun w hw => by go_simp; try omega⟩) hSwa ?_
              simp only [Act.put, List.getElem_toArray, List.getElem_cons_zero, List.getElem_cons_succ, List.setIfInBounds_toArray, List.set_cons_zero, List.set_cons_succ]
              refine wpAnyH_all (rs := [12]) (by kernel_rfl) (by simp) ?_
              intro io hio
              rcases (by simpa using hio : io = 12) with rfl
              refine wpOp_call rfl (by rfl) (f := 17) (args := #[.agg #[.int .i64 eo, .int .u64 eu, .string en, .slice eA ek ec]]) (by first | rfl | go_simp) (h17.out wa hBwa) ?_
              rintro e wb ⟨rfl, hbwb⟩
              have hSwb : wb.heap[wr.heap.size]? = some (.cells #[.int .i64 2, .string nm, .slice nA nn nc, .int .i64 eo, .int .u64 eu, .string en, .slice eA ek ec, .int .i64 ao, .int .u64 au, .string an, .slice aA ak ac, .slice gA gn gc, .int .u64 lo, .int .u64 hi, .slice bA bn bc, .slice lA ln lc] 50 (0, 0)) := (hbwb.block _ (blk_lt hSwa)).trans hSwa
              have hBwb := Below.next hBwa hbwb
              have hOwb := own_go hOwa hbwb
              refine ⟨_, rfl, hSwb, ?_⟩
              simp only [Act.put, List.getElem_toArray, List.getElem_cons_zero, List.getElem_cons_succ, List.setIfInBounds_toArray, List.set_cons_zero, List.set_cons_succ]
              refine wpAnyH_take (i := 13) (v := .string (nm ++ ⟨#[91]⟩ ++ SA ++ ⟨#[93, 32, 61, 32]⟩ ++ SE)) rfl (by kernel_rfl) (by kernel_rfl) (by kernel_rfl) (fun _ _ _ h => h) (Or.inl ⟨by rfl, fun w hw => by go_simp; try omega⟩) hSwb ?_
              simp only [Act.put, List.getElem_toArray, List.getElem_cons_zero, List.getElem_cons_succ, List.setIfInBounds_toArray, List.set_cons_zero, List.set_cons_succ]
              refine wpAnyH_take (i := 14) (v := .string T) rfl (by kernel_rfl) (by kernel_rfl) (by kernel_rfl) (fun _ _ _ h => h) (Or.inl ⟨by rfl, fun w hw => by go_simp; try omega⟩) hSwb ?_
              simp only [Act.put, List.getElem_toArray, List.getElem_cons_zero, List.getElem_cons_succ, List.setIfInBounds_toArray, List.set_cons_zero, List.set_cons_succ]
              refine wpAnyH_take (i := 15) (v := .agg #[.int .i64 t, .string T]) rfl (by kernel_rfl) (by kernel_rfl) (by kernel_rfl) (fun _ _ _ h => h) (Or.inl ⟨by rfl, fun w hw => by go_simp; try omega⟩) hSwb ?_
              simp only [Act.put, List.getElem_toArray, List.getElem_cons_zero, List.getElem_cons_succ, List.setIfInBounds_toArray, List.set_cons_zero, List.set_cons_succ]
              refine wpAnyH_all (rs := [16]) (by kernel_rfl) (by simp) ?_
              intro io hio
              rcases (by simpa using hio : io = 16) with rfl
              obtain ⟨wy, hwy⟩ : ∃ wy, wb.alloc (.cells #[.int .i64 (t : Int), .string T] 112) = wy := ⟨_, rfl⟩
              have hSwy : wy.heap[wr.heap.size]? = some (.cells #[.int .i64 2, .string nm, .slice nA nn nc, .int .i64 eo, .int .u64 eu, .string en, .slice eA ek ec, .int .i64 ao, .int .u64 au, .string an, .slice aA ak ac, .slice gA gn gc, .int .u64 lo, .int .u64 hi, .slice bA bn bc, .slice lA ln lc] 50 (0, 0)) := by rw [← hwy]; exact (heap_alloc_old _ _ (blk_lt hSwb)).trans hSwb
              have hBwy : Below W.heap.size W wy := by rw [← hwy]; exact hBwb.alloc hBwb.size _
              have hNwy : ∀ j u, [Value.int .i64 (t : Int), .string T][j]? = some u → wy.cell? ((⟨wb.heap.size, 0, none⟩ : Addr).add j) = some u := by rw [← hwy]; exact two_cells _ _ _ _
              have hOwy : wy.ownsRow W.heap.size 112 2 u5 P0.length (lnCells P0) := by rw [← hwy]; exact World.ownsRow.alloc hOwb _
              refine wpOp_ran (w' := wy) (v := .slice (some ⟨wb.heap.size, 0, none⟩) 1 1) rfl (by rfl) (by rw [← hwy]; first | rfl | (unfold execOp; go_simp; rfl) | go_simp) ⟨hSwy, ?_⟩
              simp only [Act.put, List.getElem_toArray, List.getElem_cons_zero, List.getElem_cons_succ, List.setIfInBounds_toArray, List.set_cons_zero, List.set_cons_succ]
              refine wpAnyH_all (rs := [17]) (by kernel_rfl) (by simp) ?_
              intro io hio
              rcases (by simpa using hio : io = 17) with rfl
              refine wpOp_append (ad := ⟨wb.heap.size, 0, none⟩) (m := 1) (c := 1) (news := [.int .i64 (t : Int), .string T]) rfl (by rfl) rfl rfl hOwy rfl rfl hNwy (lnCells_ones [(t, T)]) (by have := hlen.out; have := hokx.out; omega) hBwy.size ?_
              intro v1 wz hPwz hgwz
              have hSwz := grown_keep hOwy hgwz hSwy (by intro cs fr e; cases e)
              have hBwz := grown_below hOwy hgwz hBwy (Nat.le_refl _) hBwy.size
              refine ⟨hSwz, ?_⟩
              simp only [Act.put, List.getElem_toArray, List.getElem_cons_zero, List.getElem_cons_succ, List.setIfInBounds_toArray, List.set_cons_zero, List.set_cons_succ]
              refine wpAnyH_take (i := 18) (v := v1) rfl (by kernel_rfl) (by kernel_rfl) (by kernel_rfl) (fun _ _ _ h => h) (Or.inl ⟨by rfl, fun w hw => by go_simp; try omega⟩) hSwz ?_
              simp only [Act.put, List.getElem_toArray, List.getElem_cons_zero, List.getElem_cons_succ, List.setIfInBounds_toArray, List.set_cons_zero, List.set_cons_succ]
              refine wpAnyH_done (by kernel_rfl) ?_ _
              go_wp2_with fail
              go_meet
              case rel => exact ⟨own_last hPwz, hBwz⟩
          case rest =>
            obtain ⟨hO1, hB1⟩ := hcut
            have hO1 := Lib.hid hO1
            have hB1 := Lib.hid hB1
            go_wp2
            go_roundg g2
            case measure => omega
            case rel => exact ⟨k + 1, by omega, by go_num, by rw [hnext.out, hS.out]; exact hO1.out, hB1.out⟩
      · as_aux_lemma => -- kind 6
          have hS := Lib.hid (show linesS t x = [(t, headB x)] by rw [linesS_eq, ← eqs.out.1]; rfl)
          have s5 := join_len (x.ars.map fun x => (txS x).data.toList)
          have s6 := sum_txS x.ars
          rw [List.length_map] at s5
          have t5 : (listT (x.ars.map txS)).size = (Lib.join (x.ars.map fun x => (txS x).data.toList) [44, 32]).length := by rw [listT_size, List.map_map]; rfl
          have t7 := listT_le x.ns
          have hz1 : (listT (x.ars.map txS)).size ≤ 720000 := by have := c12.out; omega
          have hz2 : (listT x.ns).size ≤ 90000 := by have := c12.out; omega
          have hcn : cntN (x.ars.map txS) ≤ 100000000 := by have := cntN_txS x.ars; have := c12.out; omega
          clear s5 s6 t5 t7
          have hT : (if nn = 0 then nm ++ ⟨#[40]⟩ ++ listT (x.ars.map txS) ++ ⟨#[41, 59]⟩ else listT x.ns ++ ⟨#[32, 61, 32]⟩ ++ (nm ++ ⟨#[40]⟩ ++ listT (x.ars.map txS) ++ ⟨#[41, 59]⟩)) = headB x := by
            obtain ⟨e1, e2, e3, _⟩ := eqs.out
            unfold headB callB
            rw [← e1, ← e2, ← e3]
            simp
          have h74n := h74.out
          have hcn := Lib.hid hcn
          generalize hLS : listT (x.ars.map txS) = LS at hz1 hT
          generalize listT x.ns = LR at hz2 hT h74n
          generalize headB x = T at hT hS
          have hT := Lib.hid hT
          have h74n := Lib.hid h74n
          have hLS := Lib.hid hLS
          have f1 := fun (w : World) (hw : w.heap[wr.heap.size]? = some (.cells #[.int .i64 6, .string nm, .slice nA nn nc, .int .i64 eo, .int .u64 eu, .string en, .slice eA ek ec, .int .i64 ao, .int .u64 au, .string an, .slice aA ak ac, .slice gA gn gc, .int .u64 lo, .int .u64 hi, .slice bA bn bc, .slice lA ln lc] 50 (0, 0))) => (box16 hw).2.1
          have f11 := fun (w : World) (hw : w.heap[wr.heap.size]? = some (.cells #[.int .i64 6, .string nm, .slice nA nn nc, .int .i64 eo, .int .u64 eu, .string en, .slice eA ek ec, .int .i64 ao, .int .u64 au, .string an, .slice aA ak ac, .slice gA gn gc, .int .u64 lo, .int .u64 hi, .slice bA bn bc, .slice lA ln lc] 50 (0, 0))) => (box16 hw).2.2.2.2.2.2.2.2.2.2.2.1
          have f1 := Lib.hid f1
          have f11 := Lib.hid f11
          go_upto_region 14 with fail
          clear v0 v1 v2 v3 v4 v5 v6 v7 v8 v9 v10 v11 v12 v13 v14 v15 p0 p1 p2 p3 p4 p5 p6 p7 p8 p9 p10 p11 p12 p13 p14 p15
          first | rw [hw1'.out] | skip
          go_cut [9] (fun s9 wx => s9 = .string (nm ++ ⟨#[40]⟩ ++ LS ++ ⟨#[41, 59]⟩) ∧ Below w1.heap.size w1 wx)
          case first =>
            as_aux_lemma =>
              have hS0 : ({ w1 with drawn := w1.drawn + 1 } : World).heap[wr.heap.size]? = some (.cells #[.int .i64 6, .string nm, .slice nA nn nc, .int .i64 eo, .int .u64 eu, .string en, .slice eA ek ec, .int .i64 ao, .int .u64 au, .string an, .slice aA ak ac, .slice gA gn gc, .int .u64 lo, .int .u64 hi, .slice bA bn bc, .slice lA ln lc] 50 (0, 0)) := hX.out
              have hB0 : Below w1.heap.size w1 ({ w1 with drawn := w1.drawn + 1 } : World) := below_drew1 (Below.refl _ _)
              refine wp_region_held (S := fun w' => w'.heap[wr.heap.size]? = some (.cells #[.int .i64 6, .string nm, .slice nA nn nc, .int .i64 eo, .int .u64 eu, .string en, .slice eA ek ec, .int .i64 ao, .int .u64 au, .string an, .slice aA ak ac, .slice gA gn gc, .int .u64 lo, .int .u64 hi, .slice bA bn bc, .slice lA ln lc] 50 (0, 0))) (by kernel_rfl) ?_
              generalize ({ w1 with drawn := w1.drawn + 1 } : World) = wd at hS0 hB0 ⊢
              refine wpAnyH_take (i := 0) (v := .pointer (some ⟨wr.heap.size, 1, none⟩)) rfl (by kernel_rfl) (by kernel_rfl) (by kernel_rfl) (fun _ _ _ h => h) (Or.inl ⟨by rfl, fun w hw => by go_simp; try omega⟩) hS0 ?_
              simp only [Act.put, List.getElem_toArray, List.getElem_cons_zero, List.getElem_cons_succ, List.setIfInBounds_toArray, List.set_cons_zero, List.set_cons_succ]
              refine wpAnyH_take (i := 1) (v := .string nm) rfl (by kernel_rfl) (by kernel_rfl) (by kernel_rfl) (fun _ _ _ h => h) (Or.inl ⟨by rfl, fun w hw => by have c := f1.out w hw; go_simp; try omega⟩) hS0 ?_
              simp only [Act.put, List.getElem_toArray, List.getElem_cons_zero, List.getElem_cons_succ, List.setIfInBounds_toArray, List.set_cons_zero, List.set_cons_succ]
              refine wpAnyH_take (i := 2) (v := .string (nm ++ ⟨#[40]⟩)) rfl (by kernel_rfl) (by kernel_rfl) (by kernel_rfl) (fun _ _ _ h => h) (Or.inl ⟨by rfl, fun w hw => by go_simp; try omega⟩) hS0 ?_
              simp only [Act.put, List.getElem_toArray, List.getElem_cons_zero, List.getElem_cons_succ, List.setIfInBounds_toArray, List.set_cons_zero, List.set_cons_succ]
              refine wpAnyH_take (i := 3) (v := .pointer (some ⟨wr.heap.size, 11, none⟩)) rfl (by kernel_rfl) (by kernel_rfl) (by kernel_rfl) (fun _ _ _ h => h) (Or.inl ⟨by rfl, fun w hw => by go_simp; try omega⟩) hS0 ?_
              simp only [Act.put, List.getElem_toArray, List.getElem_cons_zero, List.getElem_cons_succ, List.setIfInBounds_toArray, List.set_cons_zero, List.set_cons_succ]
              refine wpAnyH_take (i := 4) (v := .slice gA gn gc) rfl (by kernel_rfl) (by kernel_rfl) (by kernel_rfl) (fun _ _ _ h => h) (Or.inl ⟨by rfl, fun w hw => by have c := f11.out w hw; go_simp; try omega⟩) hS0 ?_
              simp only [Act.put, List.getElem_toArray, List.getElem_cons_zero, List.getElem_cons_succ, List.setIfInBounds_toArray, List.set_cons_zero, List.set_cons_succ]
              refine wpAnyH_all (rs := [5]) (by kernel_rfl) (by simp) ?_
              intro io hio
              rcases (by simpa using hio : io = 5) with rfl
              refine wpOp_call rfl (by rfl) (f := 126) (args := #[.slice gA gn gc]) (by first | rfl | go_simp) (h126.out wd (Below.next hbW.out hB0)) ?_
              rintro e w5 ⟨A5, c5, rfl, hcl5, hb5⟩
              have hS5 : w5.heap[wr.heap.size]? = _ := (hb5.block _ (blk_lt hS0)).trans hS0
              refine ⟨_, rfl, hS5, ?_⟩
              simp only [Act.put, List.getElem_toArray, List.getElem_cons_zero, List.getElem_cons_succ, List.setIfInBounds_toArray, List.set_cons_zero, List.set_cons_succ]
              refine wpAnyH_all (rs := [6]) (by kernel_rfl) (by simp) ?_
              intro io hio
              rcases (by simpa using hio : io = 6) with rfl
              refine wpOp_call rfl (by rfl) (f := 74) (args := #[.slice A5 (x.ars.map txS).length c5]) (by first | rfl | go_simp) (refList_any w5 (x.ars.map txS) A5 hcl5 c5 w5 (Below.refl _ _) hcn.out) ?_
              rintro e w6 ⟨rfl, hb6⟩
              have hS6 : w6.heap[wr.heap.size]? = _ := (hb6.block _ (blk_lt hS5)).trans hS5
              rw [hLS.out]
              refine ⟨_, rfl, hS6, ?_⟩
              simp only [Act.put, List.getElem_toArray, List.getElem_cons_zero, List.getElem_cons_succ, List.setIfInBounds_toArray, List.set_cons_zero, List.set_cons_succ]
              refine wpAnyH_take (i := 7) (v := .string (nm ++ ⟨#[40]⟩ ++ LS)) rfl (by kernel_rfl) (by kernel_rfl) (by kernel_rfl) (fun _ _ _ h => h) (Or.inl ⟨by rfl, fun w hw => by go_simp; try omega⟩) hS6 ?_
              simp only [Act.put, List.getElem_toArray, List.getElem_cons_zero, List.getElem_cons_succ, List.setIfInBounds_toArray, List.set_cons_zero, List.set_cons_succ]
              refine wpAnyH_take (i := 8) (v := .string (nm ++ ⟨#[40]⟩ ++ LS ++ ⟨#[41, 59]⟩)) rfl (by kernel_rfl) (by kernel_rfl) (by kernel_rfl) (fun _ _ _ h => h) (Or.inl ⟨by rfl, fun w hw => by go_simp; try omega⟩) hS6 ?_
              simp only [Act.put, List.getElem_toArray, List.getElem_cons_zero, List.getElem_cons_succ, List.setIfInBounds_toArray, List.set_cons_zero, List.set_cons_succ]
              refine wpAnyH_take (i := 9) (v := .string (nm ++ ⟨#[40]⟩ ++ LS ++ ⟨#[41, 59]⟩)) rfl (by kernel_rfl) (by kernel_rfl) (by kernel_rfl) (fun _ _ _ h => h) (Or.inl ⟨by rfl, fun w hw => by go_simp; try omega⟩) hS6 ?_
              simp only [Act.put, List.getElem_toArray, List.getElem_cons_zero, List.getElem_cons_succ, List.setIfInBounds_toArray, List.set_cons_zero, List.set_cons_succ]
              refine wpAnyH_done (by kernel_rfl) ?_ _
              go_wp2_with fail
              go_meet
              case rel => exact ⟨rfl, Below.next (Below.next hB0 hb5) hb6⟩
          case rest =>
            obtain ⟨rfl, hbc⟩ := hcut
            have hbc := Lib.hid hbc
            obtain ⟨C, hC⟩ : ∃ C, nm ++ ⟨#[40]⟩ ++ LS ++ ⟨#[41, 59]⟩ = C := ⟨_, rfl⟩
            have hCz : C.size ≤ 800000 := by
              have w1 : (⟨#[40]⟩ : ByteArray).size = 1 := rfl
              have w2 : (⟨#[41, 59]⟩ : ByteArray).size = 2 := rfl
              rw [← hC, ByteArray.size_append, ByteArray.size_append, ByteArray.size_append]
              omega
            have hT := hT.out
            rw [hC] at hT ⊢
            have hT := Lib.hid hT
            clear hC
            obtain ⟨p0, p1, p2, p3, p4, p5, p6, p7, p8, p9, p10, p11, p12, p13, p14, p15⟩ := box16 ((hbc.out.block _ (blk_lt hX.out)).trans hX.out)
            have hoc := Lib.hid (own_go ho1.out hbc.out)
            have hBc := Lib.hid (Below.next hbW.out hbc.out)
            by_cases hn0 : nn = 0
            · have e1 : ¬ (0 : Int) < (nn : Int) := by omega
              have hT : C = T := by have := hT.out; rw [if_pos hn0] at this; exact this
              subst hT
              clear hn0
              have hown := Lib.hid (World.ownsRow.alloc hoc.out (.cells #[.int .i64 t, .string C] 112))
              have hnew := Lib.hid (two_cells wc (.int .i64 t) (.string C) 112)
              have hbA := Lib.hid ((hBc.out).alloc (hBc.out).size (.cells #[.int .i64 t, .string C] 112))
              have hone := Lib.hid (lnCells_ones [(t, C)])
              have hbs := Lib.hid hbA.out.size
              have hk1 := Lib.hid (show P0.length + 1 ≤ maxLen by have := hlen.out; have := hokx.out; unfold maxLen; omega)
              have hk2 := Lib.hid (show (P0.length + 1) * 24 ≤ 140737488355328 by have := hlen.out; have := hokx.out; omega)
              obtain ⟨i0, hj1, hj2, hj3, hj4⟩ := info_parts info112
              go_wp2_with ((at_builtin; refine wpList_append_own_at _ rfl _ _ 109 rfl W.heap.size 112 i0 _ 2 24 und109 hj1 hj2 hj3 hj4 rfl (by decide) u5 P0.length (lnCells P0) rfl hown.out ⟨wc.heap.size, 0, none⟩ 1 1 [.int .i64 t, .string C] rfl rfl hnew.out hone.out hk1.out hk2.out hbs.out ?_; intro v' w9 hown9 hg9 hnil9 hat9))
              have hB9 := Lib.hid (grown_below hown.out hg9 hbA.out (Nat.le_refl _) hbs.out)
              have hown9 := Lib.hid hown9
              clear hg9 hnil9 hat9
              go_wp2
              go_roundg g2
              case measure => omega
              case rel =>
                refine ⟨k + 1, by omega, by go_num, ?_, hB9.out⟩
                rw [hnext.out, hS.out, lnCells_app, lnCells_one, List.length_append]
                exact hown9.out
            · have e1 : (0 : Int) < (nn : Int) := by omega
              have hT : LR ++ ⟨#[32, 61, 32]⟩ ++ C = T := by have := hT.out; rw [if_neg hn0] at this; exact this
              have hT := Lib.hid hT
              clear hn0
              go_wp2_with fail
              refine (h74n.out _ hBc.out).mono ?_
              rintro e w5 ⟨rfl, hb5⟩
              have hb5 := Lib.hid hb5
              clear p0 p1 p2 p3 p4 p5 p6 p7 p8 p9 p10 p11 p12 p13 p14 p15
              have hown := Lib.hid (World.ownsRow.alloc (own_go hoc.out hb5.out) (.cells #[.int .i64 t, .string T] 112))
              have hnew := Lib.hid (two_cells w5 (.int .i64 t) (.string T) 112)
              have hbA := Lib.hid ((Below.next hBc.out hb5.out).alloc (Below.next hBc.out hb5.out).size (.cells #[.int .i64 t, .string T] 112))
              have hone := Lib.hid (lnCells_ones [(t, T)])
              have hbs := Lib.hid hbA.out.size
              have hk1 := Lib.hid (show P0.length + 1 ≤ maxLen by have := hlen.out; have := hokx.out; unfold maxLen; omega)
              have hk2 := Lib.hid (show (P0.length + 1) * 24 ≤ 140737488355328 by have := hlen.out; have := hokx.out; omega)
              obtain ⟨i0, hj1, hj2, hj3, hj4⟩ := info_parts info112
              go_wp2_with ((at_builtin; refine wpList_append_own_at _ rfl _ _ 109 rfl W.heap.size 112 i0 _ 2 24 und109 hj1 hj2 hj3 hj4 rfl (by decide) u5 P0.length (lnCells P0) rfl hown.out ⟨w5.heap.size, 0, none⟩ 1 1 [.int .i64 t, .string T] rfl rfl hnew.out hone.out hk1.out hk2.out hbs.out ?_; intro v' w9 hown9 hg9 hnil9 hat9))
              have hB9 := Lib.hid (grown_below hown.out hg9 hbA.out (Nat.le_refl _) hbs.out)
              have hown9 := Lib.hid hown9
              clear hg9 hnil9 hat9
              go_wp2
              go_roundg g2
              case measure => omega
              case rel =>
                refine ⟨k + 1, by omega, by go_num, ?_, hB9.out⟩
                rw [hnext.out, hS.out, lnCells_app, lnCells_one, List.length_append]
                exact hown9.out
      · as_aux_lemma => -- kinds 3, 4, 5
          have hk3 : kd = 3 ∨ kd = 4 ∨ kd = 5 := by omega
          have b1 : (kd == 1) = false := by simp [n1]
          have b2 : (kd == 2) = false := by simp [n2]
          have b6 : (kd == 6) = false := by simp [n6]
          have hfl : flatK x.kd = false := by
            rw [← eqs.out.1]
            unfold flatK
            rw [b6, decide_eq_false (by omega)]
            rfl
          have hS := linesS_eq t x
          rw [hfl] at hS
          simp only [Bool.false_eq_true, if_false] at hS
          have hS := Lib.hid hS
          have hz1 : (txS x.e).size ≤ 720000 := by have := z1.out; have := c12.out; omega
          clear hfl
          obtain ⟨T, hTT⟩ : ∃ T, headB x = T := ⟨_, rfl⟩
          have hS := hS.out
          rw [hTT] at hS
          have hS := Lib.hid hS
          have hTT := Lib.hid hTT
          go_upto_block 2 with fail
          clear v0 v1 v2 v3 v4 v5 v6 v7 v8 v9 v10 v11 v12 v13 v14 v15
          first | rw [hw1'.out] | skip
          go_cut [5, 8] (fun s5 s8 wx => s8 = .string T ∧ Below w1.heap.size w1 wx ∧ wx.ownsRow W.heap.size 112 2 s5 P0.length (lnCells P0))
          case first =>
            as_aux_lemma =>
              rcases hk3 with rfl | rfl | rfl
              · have hT : (⟨#[105, 102, 32]⟩ : ByteArray) ++ txS x.e ++ ⟨#[32, 123]⟩ = T := by
                  rw [← hTT.out]
                  unfold headB
                  rw [← eqs.out.1]
                  simp
                have h17 := h17e.out rfl
                generalize txS x.e = SE at h17 hz1 hT
                have h17 := Lib.hid h17
                have hT := Lib.hid hT
                go_wp2_with fail
                refine (h17.out _ hbW.out).mono ?_
                rintro e w5 ⟨rfl, hb5⟩
                have hb5 := Lib.hid hb5
                clear p0 p1 p2 p3 p4 p5 p6 p7 p8 p9 p10 p11 p12 p13 p14 p15
                go_wp2_with fail
                go_meet
                case rel => exact ⟨by first | rfl | rw [← hT.out], hb5.out, own_go ho1.out hb5.out⟩
              · have hT : (⟨#[119, 104, 105, 108, 101, 32]⟩ : ByteArray) ++ txS x.e ++ ⟨#[32, 123]⟩ = T := by
                  rw [← hTT.out]
                  unfold headB
                  rw [← eqs.out.1]
                  simp
                have h17 := h17e.out rfl
                generalize txS x.e = SE at h17 hz1 hT
                have h17 := Lib.hid h17
                have hT := Lib.hid hT
                go_wp2_with fail
                refine (h17.out _ hbW.out).mono ?_
                rintro e w5 ⟨rfl, hb5⟩
                have hb5 := Lib.hid hb5
                clear p0 p1 p2 p3 p4 p5 p6 p7 p8 p9 p10 p11 p12 p13 p14 p15
                go_wp2_with fail
                go_meet
                case rel => exact ⟨by first | rfl | rw [← hT.out], hb5.out, own_go ho1.out hb5.out⟩
              · have hT : (⟨#[102, 111, 114, 32]⟩ : ByteArray) ++ nm ++ ⟨#[32]⟩ ++ numT lo ++ ⟨#[32]⟩ ++ numT hi ++ ⟨#[32, 123]⟩ = T := by
                  obtain ⟨q1, q2, q3, q4, q5, _⟩ := eqs.out
                  rw [← hTT.out]
                  unfold headB
                  rw [← q1, ← q2, ← q4, ← q5]
                  simp
                obtain ⟨q1, q2, q3, q4, q5, q6, q7, _⟩ := eqs.out
                have y3 := numT_len lo (by rw [q4]; exact q6)
                have y4 := numT_len hi (by rw [q5]; exact q7)
                rw [size_list] at y3 y4
                have sh47a := Lib.hid (fun s : Sub w1 => h47.out lo s.val (by rw [q4]; exact q6) (Below.next hbW.out s.property))
                have sh47b := Lib.hid (fun s : Sub w1 => h47.out hi s.val (by rw [q5]; exact q7) (Below.next hbW.out s.property))
                clear q1 q2 q3 q4 q5 q6 q7
                have hT := Lib.hid hT
                have c1 := Sub.cell p1
                have c12b := Sub.cell p12
                have c13 := Sub.cell p13
                go_wp2_with fail
                refine wp_region_below (by kernel_rfl) (by kernel_rfl) ?_
                repeat (go_big_quiet_step ((first | (go_at_call 47; with_reducible exact Sub.call (sh47a.out _)) | (go_at_call 47; with_reducible exact Sub.call (sh47b.out _)))))
                refine wpQuiet_nil ?_
                rintro w4 ⟨s4, hs4⟩
                have hb4 := hs4 ▸ s4.property
                clear hs4 s4
                have hb4 := Lib.hid hb4
                clear p0 p1 p2 p3 p4 p5 p6 p7 p8 p9 p10 p11 p12 p13 p14 p15 c1 c12b c13
                go_wp2_with fail
                go_meet
                case rel => exact ⟨by first | rfl | rw [← hT.out], hb4.out, own_go ho1.out hb4.out⟩
          case rest =>
            obtain ⟨rfl, hbc, hoc⟩ := hcut
            have hXc := (hbc.block _ (blk_lt hX.out)).trans hX.out
            have hoc := Lib.hid hoc
            have hBc := Lib.hid (Below.next hbW.out hbc)
            have hXc := Lib.hid hXc
            have lS := hlen.out
            rw [hS.out] at lS
            simp only [List.length_cons, List.length_append, List.length_nil] at lS
            have lS := Lib.hid lS
            clear hbc hbW ho1 hX hk3 n1 n2 n6 b1 b2 b6 p0 p1 p2 p3 p4 p5 p6 p7 p8 p9 p10 p11 p12 p13 p14 p15
            obtain ⟨LB, hLB⟩ : ∃ LB, linesL (t + 1) x.bd = LB := ⟨_, rfl⟩
            obtain ⟨LE, hLE⟩ : ∃ LE, linesL (t + 1) x.el = LE := ⟨_, rfl⟩
            have hSS := hS.out
            have h76b := h76b.out
            have h76e := h76e.out
            have lS := lS.out
            rw [hLB] at hSS h76b lS
            rw [hLE] at hSS h76e lS
            have lB : P0.length + 1 + LB.length ≤ 100000 := by have := hokx.out; omega
            have lE : x.el.isEmpty = false → P0.length + 1 + LB.length + 1 + LE.length + 1 ≤ 100000 := fun he => by
              rw [he] at lS
              simp only [Bool.false_eq_true, if_false, List.length_cons] at lS
              have := hokx.out
              omega
            have h76b := Lib.hid h76b
            have h76e := Lib.hid h76e
            have hSS := Lib.hid hSS
            have lE := Lib.hid lE
            have f14 := Lib.hid (fun (w : World) (hw : w.heap[wr.heap.size]? = some (.cells #[.int .i64 kd, .string nm, .slice nA nn nc, .int .i64 eo, .int .u64 eu, .string en, .slice eA ek ec, .int .i64 ao, .int .u64 au, .string an, .slice aA ak ac, .slice gA gn gc, .int .u64 lo, .int .u64 hi, .slice bA bn bc, .slice lA ln lc] 50 (0, 0))) => (box16 hw).2.2.2.2.2.2.2.2.2.2.2.2.2.2.1)
            have f15 := Lib.hid (fun (w : World) (hw : w.heap[wr.heap.size]? = some (.cells #[.int .i64 kd, .string nm, .slice nA nn nc, .int .i64 eo, .int .u64 eu, .string en, .slice eA ek ec, .int .i64 ao, .int .u64 au, .string an, .slice aA ak ac, .slice gA gn gc, .int .u64 lo, .int .u64 hi, .slice bA bn bc, .slice lA ln lc] 50 (0, 0))) => (box16 hw).2.2.2.2.2.2.2.2.2.2.2.2.2.2.2)
            clear lS hS hLB hLE hlen
            obtain ⟨P1, hP1⟩ : ∃ P1, P0 ++ ((t, T) :: LB) = P1 := ⟨_, rfl⟩
            have hP1 := Lib.hid hP1
            go_upto_region 22 with fail
            go_cut [5] (fun s5 wx => wx.ownsRow W.heap.size 112 2 s5 P1.length (lnCells P1) ∧ wx.heap[wr.heap.size]? = some (.cells #[.int .i64 kd, .string nm, .slice nA nn nc, .int .i64 eo, .int .u64 eu, .string en, .slice eA ek ec, .int .i64 ao, .int .u64 au, .string an, .slice aA ak ac, .slice gA gn gc, .int .u64 lo, .int .u64 hi, .slice bA bn bc, .slice lA ln lc] 50 (0, 0)) ∧ Below W.heap.size W wx)
            case first =>
              as_aux_lemma =>
                have hS0 : ({ wc with drawn := wc.drawn + 1 } : World).heap[wr.heap.size]? = some (.cells #[.int .i64 kd, .string nm, .slice nA nn nc, .int .i64 eo, .int .u64 eu, .string en, .slice eA ek ec, .int .i64 ao, .int .u64 au, .string an, .slice aA ak ac, .slice gA gn gc, .int .u64 lo, .int .u64 hi, .slice bA bn bc, .slice lA ln lc] 50 (0, 0)) := hXc.out
                have hB0 : Below W.heap.size W ({ wc with drawn := wc.drawn + 1 } : World) := below_drew1 hBc.out
                have hO0 : ({ wc with drawn := wc.drawn + 1 } : World).ownsRow W.heap.size 112 2 u5 P0.length (lnCells P0) := hoc.out
                refine wp_region_held (S := fun w' => w'.heap[wr.heap.size]? = some (.cells #[.int .i64 kd, .string nm, .slice nA nn nc, .int .i64 eo, .int .u64 eu, .string en, .slice eA ek ec, .int .i64 ao, .int .u64 au, .string an, .slice aA ak ac, .slice gA gn gc, .int .u64 lo, .int .u64 hi, .slice bA bn bc, .slice lA ln lc] 50 (0, 0))) (by kernel_rfl) ?_
                generalize ({ wc with drawn := wc.drawn + 1 } : World) = wd at hS0 hB0 hO0 ⊢
                refine wpAnyH_take (i := 0) (v := u5) rfl (by kernel_rfl) (by kernel_rfl) (by kernel_rfl) (fun _ _ _ h => h) (Or.inl ⟨by rfl, fun w hw => by go_simp; try omega⟩) hS0 ?_
                simp only [Act.put, List.getElem_toArray, List.getElem_cons_zero, List.getElem_cons_succ, List.setIfInBounds_toArray, List.set_cons_zero, List.set_cons_succ]
                refine wpAnyH_take (i := 1) (v := .int .i64 t) rfl (by kernel_rfl) (by kernel_rfl) (by kernel_rfl) (fun _ _ _ h => h) (Or.inl ⟨by rfl, fun w hw => by go_simp; try omega⟩) hS0 ?_
                simp only [Act.put, List.getElem_toArray, List.getElem_cons_zero, List.getElem_cons_succ, List.setIfInBounds_toArray, List.set_cons_zero, List.set_cons_succ]
                refine wpAnyH_take (i := 2) (v := .string T) rfl (by kernel_rfl) (by kernel_rfl) (by kernel_rfl) (fun _ _ _ h => h) (Or.inl ⟨by rfl, fun w hw => by go_simp; try omega⟩) hS0 ?_
                simp only [Act.put, List.getElem_toArray, List.getElem_cons_zero, List.getElem_cons_succ, List.setIfInBounds_toArray, List.set_cons_zero, List.set_cons_succ]
                refine wpAnyH_take (i := 3) (v := .agg #[.int .i64 t, .string T]) rfl (by kernel_rfl) (by kernel_rfl) (by kernel_rfl) (fun _ _ _ h => h) (Or.inl ⟨by rfl, fun w hw => by go_simp; try omega⟩) hS0 ?_
                simp only [Act.put, List.getElem_toArray, List.getElem_cons_zero, List.getElem_cons_succ, List.setIfInBounds_toArray, List.set_cons_zero, List.set_cons_succ]
                refine wpAnyH_take (i := 6) (v := .pointer (some ⟨wr.heap.size, 14, none⟩)) rfl (by kernel_rfl) (by kernel_rfl) (by kernel_rfl) (fun _ _ _ h => h) (Or.inl ⟨by rfl, fun w hw => by go_simp; try omega⟩) hS0 ?_
                simp only [Act.put, List.getElem_toArray, List.getElem_cons_zero, List.getElem_cons_succ, List.setIfInBounds_toArray, List.set_cons_zero, List.set_cons_succ]
                refine wpAnyH_take (i := 7) (v := .slice bA bn bc) rfl (by kernel_rfl) (by kernel_rfl) (by kernel_rfl) (fun _ _ _ h => h) (Or.inl ⟨by rfl, fun w hw => by have c := f14.out w hw; go_simp; try omega⟩) hS0 ?_
                simp only [Act.put, List.getElem_toArray, List.getElem_cons_zero, List.getElem_cons_succ, List.setIfInBounds_toArray, List.set_cons_zero, List.set_cons_succ]
                refine wpAnyH_take (i := 8) (v := .int .i64 t) rfl (by kernel_rfl) (by kernel_rfl) (by kernel_rfl) (fun _ _ _ h => h) (Or.inl ⟨by rfl, fun w hw => by go_simp; try omega⟩) hS0 ?_
                simp only [Act.put, List.getElem_toArray, List.getElem_cons_zero, List.getElem_cons_succ, List.setIfInBounds_toArray, List.set_cons_zero, List.set_cons_succ]
                refine wpAnyH_take (i := 9) (v := .int .i64 ((t + 1 : Nat) : Int)) rfl (by kernel_rfl) (by kernel_rfl) (by kernel_rfl) (fun _ _ _ h => h) (Or.inl ⟨by rfl, fun w hw => by go_simp; try (rw [IntKind.wrap_i64]; omega); try omega⟩) hS0 ?_
                simp only [Act.put, List.getElem_toArray, List.getElem_cons_zero, List.getElem_cons_succ, List.setIfInBounds_toArray, List.set_cons_zero, List.set_cons_succ]
                have hSwd := hS0
                have hBwd := hB0
                have hOwd := hO0
                clear hS0 hB0 hO0
                refine wpAnyH_all (rs := [4]) (by kernel_rfl) (by simp) ?_
                intro io hio
                rcases (by simpa using hio : io = 4) with rfl
                obtain ⟨wa, hwa⟩ : ∃ wa, wd.alloc (.cells #[.int .i64 (t : Int), .string T] 112) = wa := ⟨_, rfl⟩
                have hSwa : wa.heap[wr.heap.size]? = some (.cells #[.int .i64 kd, .string nm, .slice nA nn nc, .int .i64 eo, .int .u64 eu, .string en, .slice eA ek ec, .int .i64 ao, .int .u64 au, .string an, .slice aA ak ac, .slice gA gn gc, .int .u64 lo, .int .u64 hi, .slice bA bn bc, .slice lA ln lc] 50 (0, 0)) := by rw [← hwa]; exact (heap_alloc_old _ _ (blk_lt hSwd)).trans hSwd
                have hBwa : Below W.heap.size W wa := by rw [← hwa]; exact hBwd.alloc hBwd.size _
                have hNwa : ∀ j u, [Value.int .i64 (t : Int), .string T][j]? = some u → wa.cell? ((⟨wd.heap.size, 0, none⟩ : Addr).add j) = some u := by rw [← hwa]; exact two_cells _ _ _ _
                have hOwa : wa.ownsRow W.heap.size 112 2 u5 P0.length (lnCells P0) := by rw [← hwa]; exact World.ownsRow.alloc hOwd _
                refine wpOp_ran (w' := wa) (v := .slice (some ⟨wd.heap.size, 0, none⟩) 1 1) rfl (by rfl) (by rw [← hwa]; first | rfl | (unfold execOp; go_simp; rfl) | go_simp) ⟨hSwa, ?_⟩
                simp only [Act.put, List.getElem_toArray, List.getElem_cons_zero, List.getElem_cons_succ, List.setIfInBounds_toArray, List.set_cons_zero, List.set_cons_succ]
                refine wpAnyH_all (rs := [5]) (by kernel_rfl) (by simp) ?_
                intro io hio
                rcases (by simpa using hio : io = 5) with rfl
                refine wpOp_append (ad := ⟨wd.heap.size, 0, none⟩) (m := 1) (c := 1) (news := [.int .i64 (t : Int), .string T]) rfl (by rfl) rfl rfl hOwa rfl rfl hNwa (lnCells_ones [(t, T)]) (by omega) hBwa.size ?_
                intro v1 wb hPwb hgwb
                have hSwb := grown_keep hOwa hgwb hSwa (by intro cs fr e; cases e)
                have hBwb := grown_below hOwa hgwb hBwa (Nat.le_refl _) hBwa.size
                refine ⟨hSwb, ?_⟩
                simp only [Act.put, List.getElem_toArray, List.getElem_cons_zero, List.getElem_cons_succ, List.setIfInBounds_toArray, List.set_cons_zero, List.set_cons_succ]
                refine wpAnyH_all (rs := [10]) (by kernel_rfl) (by simp) ?_
                intro io hio
                rcases (by simpa using hio : io = 10) with rfl
                refine wpOp_call rfl (by rfl) (f := 76) (args := #[.slice bA bn bc, .int .i64 ((t + 1 : Nat) : Int)]) (by first | rfl | go_simp) (h76b.out wb hBwb) ?_
                rintro e we ⟨v2, rfl, hVwe, hbwe⟩
                have hSwe : we.heap[wr.heap.size]? = some (.cells #[.int .i64 kd, .string nm, .slice nA nn nc, .int .i64 eo, .int .u64 eu, .string en, .slice eA ek ec, .int .i64 ao, .int .u64 au, .string an, .slice aA ak ac, .slice gA gn gc, .int .u64 lo, .int .u64 hi, .slice bA bn bc, .slice lA ln lc] 50 (0, 0)) := (hbwe.block _ (blk_lt hSwb)).trans hSwb
                have hBwe : Below W.heap.size W we := Below.next hBwb hbwe
                have hPwe : we.ownsRow W.heap.size 112 2 v1 (P0.length + 1) (lnCells P0 ++ [.int .i64 (t : Int), .string T]) := own_go hPwb hbwe
                refine ⟨_, rfl, hSwe, ?_⟩
                simp only [Act.put, List.getElem_toArray, List.getElem_cons_zero, List.getElem_cons_succ, List.setIfInBounds_toArray, List.set_cons_zero, List.set_cons_succ]
                refine wpAnyH_all (rs := [11]) (by kernel_rfl) (by simp) ?_
                intro io hio
                rcases (by simpa using hio : io = 11) with rfl
                refine wpOp_rows rfl (by rfl) rfl rfl hPwe rfl hVwe (by omega) hBwe.size ?_
                intro v3 wf hQwf hgwf
                have hSwf := grown_keep hPwe hgwf hSwe (by intro cs fr e; cases e)
                have hBwf := grown_below hPwe hgwf hBwe (Nat.le_refl _) hBwe.size
                refine ⟨hSwf, ?_⟩
                simp only [Act.put, List.getElem_toArray, List.getElem_cons_zero, List.getElem_cons_succ, List.setIfInBounds_toArray, List.set_cons_zero, List.set_cons_succ]
                refine wpAnyH_take (i := 12) (v := v3) rfl (by kernel_rfl) (by kernel_rfl) (by kernel_rfl) (fun _ _ _ h => h) (Or.inl ⟨by rfl, fun w hw => by go_simp; try omega⟩) hSwf ?_
                simp only [Act.put, List.getElem_toArray, List.getElem_cons_zero, List.getElem_cons_succ, List.setIfInBounds_toArray, List.set_cons_zero, List.set_cons_succ]
                refine wpAnyH_done (by kernel_rfl) ?_ _
                go_wp2_with fail
                go_meet
                case rel => exact ⟨by rw [← hP1.out]; exact own_more hQwf, hSwf, hBwf⟩
            case rest =>
              obtain ⟨hO1, hX1, hB1⟩ := hcut
              have hO1 := Lib.hid hO1
              have hX1 := Lib.hid hX1
              have hB1 := Lib.hid hB1
              have lP1 : P1.length = P0.length + 1 + LB.length := by rw [← hP1.out, List.length_append, List.length_cons]; omega
              have lP1 := Lib.hid lP1
              clear hoc hXc hBc h76b f14
              obtain ⟨p15, _⟩ : wc.cell? ⟨wr.heap.size, 15, none⟩ = some (.slice lA ln lc) ∧ True := ⟨f15.out _ hX1.out, trivial⟩
              by_cases hn0 : ln = 0
              · have e1 : ¬ (0 : Int) < (ln : Int) := by omega
                have hel0 : x.el = [] := List.length_eq_zero_iff.1 (by rw [← eqs.out.2.2.2.2.2.2.2]; exact hn0)
                have hSS := hSS.out
                rw [hel0] at hSS
                simp only [List.isEmpty_nil, if_true, List.nil_append] at hSS
                have hSS := Lib.hid hSS
                clear hn0 hel0
                have hown := Lib.hid (World.ownsRow.alloc hO1.out (.cells #[.int .i64 t, .string (⟨#[125]⟩ : ByteArray)] 112))
                have hnew := Lib.hid (two_cells wc (.int .i64 t) (.string (⟨#[125]⟩ : ByteArray)) 112)
                have hbA := Lib.hid ((hB1.out).alloc (hB1.out).size (.cells #[.int .i64 t, .string (⟨#[125]⟩ : ByteArray)] 112))
                have hone := Lib.hid (lnCells_ones [(t, (⟨#[125]⟩ : ByteArray))])
                have hbs := Lib.hid hbA.out.size
                have hk1 := Lib.hid (show P1.length + 1 ≤ maxLen by have := lP1.out; unfold maxLen; omega)
                have hk2 := Lib.hid (show (P1.length + 1) * 24 ≤ 140737488355328 by have := lP1.out; omega)
                obtain ⟨i0, hj1, hj2, hj3, hj4⟩ := info_parts info112
                go_wp2_with ((at_builtin; refine wpList_append_own_at _ rfl _ _ 109 rfl W.heap.size 112 i0 _ 2 24 und109 hj1 hj2 hj3 hj4 rfl (by decide) u5 P1.length (lnCells P1) rfl hown.out ⟨wc.heap.size, 0, none⟩ 1 1 [.int .i64 t, .string (⟨#[125]⟩ : ByteArray)] rfl rfl hnew.out hone.out hk1.out hk2.out hbs.out ?_; intro v' w9 hown9 hg9 hnil9 hat9))
                have hB9 := Lib.hid (grown_below hown.out hg9 hbA.out (Nat.le_refl _) hbs.out)
                have hown9 := Lib.hid (own_last hown9)
                clear hg9 hnil9 hat9
                go_wp2
                go_roundg g2
                case measure => omega
                case rel =>
                  refine ⟨k + 1, by omega, by go_num, ?_, hB9.out⟩
                  have e5 : linesL t (L.take (k + 1)) = P1 ++ [(t, endB)] := by rw [hnext.out, hSS.out, ← hP1.out]; simp
                  rw [e5]
                  exact hown9.out
              · have e1 : (0 : Int) < (ln : Int) := by omega
                have hel0 : x.el.isEmpty = false := by
                  have := eqs.out.2.2.2.2.2.2.2
                  cases hxe : x.el with
                  | nil => rw [hxe] at this; exact absurd this hn0
                  | cons y z => rfl
                have lE2 := lE.out hel0
                have hSS := hSS.out
                rw [hel0] at hSS
                simp only [Bool.false_eq_true, if_false, List.cons_append] at hSS
                have hSS := Lib.hid hSS
                obtain ⟨P2, hP2⟩ : ∃ P2, P1 ++ ((t, elseB) :: LE) = P2 := ⟨_, rfl⟩
                have hP2 := Lib.hid hP2
                have lP2 : P1.length + 1 + LE.length + 1 ≤ 100000 := by have := lP1.out; omega
                have lQ2 : P2.length = P1.length + 1 + LE.length := by rw [← hP2.out, List.length_append, List.length_cons]; omega
                have lQ2 := Lib.hid lQ2
                clear hn0 hel0 lE lB lE2
                go_upto_region 24 with fail
                go_cut [5] (fun s5 wx => wx.ownsRow W.heap.size 112 2 s5 P2.length (lnCells P2) ∧ wx.heap[wr.heap.size]? = some (.cells #[.int .i64 kd, .string nm, .slice nA nn nc, .int .i64 eo, .int .u64 eu, .string en, .slice eA ek ec, .int .i64 ao, .int .u64 au, .string an, .slice aA ak ac, .slice gA gn gc, .int .u64 lo, .int .u64 hi, .slice bA bn bc, .slice lA ln lc] 50 (0, 0)) ∧ Below W.heap.size W wx)
                case first =>
                  as_aux_lemma =>
                    have hS0 : ({ wc with drawn := wc.drawn + 1 } : World).heap[wr.heap.size]? = some (.cells #[.int .i64 kd, .string nm, .slice nA nn nc, .int .i64 eo, .int .u64 eu, .string en, .slice eA ek ec, .int .i64 ao, .int .u64 au, .string an, .slice aA ak ac, .slice gA gn gc, .int .u64 lo, .int .u64 hi, .slice bA bn bc, .slice lA ln lc] 50 (0, 0)) := hX1.out
                    have hB0 : Below W.heap.size W ({ wc with drawn := wc.drawn + 1 } : World) := below_drew1 hB1.out
                    have hO0 : ({ wc with drawn := wc.drawn + 1 } : World).ownsRow W.heap.size 112 2 u5 P1.length (lnCells P1) := hO1.out
                    refine wp_region_held (S := fun w' => w'.heap[wr.heap.size]? = some (.cells #[.int .i64 kd, .string nm, .slice nA nn nc, .int .i64 eo, .int .u64 eu, .string en, .slice eA ek ec, .int .i64 ao, .int .u64 au, .string an, .slice aA ak ac, .slice gA gn gc, .int .u64 lo, .int .u64 hi, .slice bA bn bc, .slice lA ln lc] 50 (0, 0))) (by kernel_rfl) ?_
                    generalize ({ wc with drawn := wc.drawn + 1 } : World) = wd at hS0 hB0 hO0 ⊢
                    refine wpAnyH_take (i := 0) (v := u5) rfl (by kernel_rfl) (by kernel_rfl) (by kernel_rfl) (fun _ _ _ h => h) (Or.inl ⟨by rfl, fun w hw => by go_simp; try omega⟩) hS0 ?_
                    simp only [Act.put, List.getElem_toArray, List.getElem_cons_zero, List.getElem_cons_succ, List.setIfInBounds_toArray, List.set_cons_zero, List.set_cons_succ]
                    refine wpAnyH_take (i := 1) (v := .int .i64 t) rfl (by kernel_rfl) (by kernel_rfl) (by kernel_rfl) (fun _ _ _ h => h) (Or.inl ⟨by rfl, fun w hw => by go_simp; try omega⟩) hS0 ?_
                    simp only [Act.put, List.getElem_toArray, List.getElem_cons_zero, List.getElem_cons_succ, List.setIfInBounds_toArray, List.set_cons_zero, List.set_cons_succ]
                    refine wpAnyH_take (i := 2) (v := .agg #[.int .i64 t, .string (⟨#[125, 32, 101, 108, 115, 101, 32, 123]⟩ : ByteArray)]) rfl (by kernel_rfl) (by kernel_rfl) (by kernel_rfl) (fun _ _ _ h => h) (Or.inl ⟨by rfl, fun w hw => by go_simp; try omega⟩) hS0 ?_
                    simp only [Act.put, List.getElem_toArray, List.getElem_cons_zero, List.getElem_cons_succ, List.setIfInBounds_toArray, List.set_cons_zero, List.set_cons_succ]
                    refine wpAnyH_take (i := 5) (v := .pointer (some ⟨wr.heap.size, 15, none⟩)) rfl (by kernel_rfl) (by kernel_rfl) (by kernel_rfl) (fun _ _ _ h => h) (Or.inl ⟨by rfl, fun w hw => by go_simp; try omega⟩) hS0 ?_
                    simp only [Act.put, List.getElem_toArray, List.getElem_cons_zero, List.getElem_cons_succ, List.setIfInBounds_toArray, List.set_cons_zero, List.set_cons_succ]
                    refine wpAnyH_take (i := 6) (v := .slice lA ln lc) rfl (by kernel_rfl) (by kernel_rfl) (by kernel_rfl) (fun _ _ _ h => h) (Or.inl ⟨by rfl, fun w hw => by have c := f15.out w hw; go_simp; try omega⟩) hS0 ?_
                    simp only [Act.put, List.getElem_toArray, List.getElem_cons_zero, List.getElem_cons_succ, List.setIfInBounds_toArray, List.set_cons_zero, List.set_cons_succ]
                    refine wpAnyH_take (i := 7) (v := .int .i64 t) rfl (by kernel_rfl) (by kernel_rfl) (by kernel_rfl) (fun _ _ _ h => h) (Or.inl ⟨by rfl, fun w hw => by go_simp; try omega⟩) hS0 ?_
                    simp only [Act.put, List.getElem_toArray, List.getElem_cons_zero, List.getElem_cons_succ, List.setIfInBounds_toArray, List.set_cons_zero, List.set_cons_succ]
                    refine wpAnyH_take (i := 8) (v := .int .i64 ((t + 1 : Nat) : Int)) rfl (by kernel_rfl) (by kernel_rfl) (by kernel_rfl) (fun _ _ _ h => h) (Or.inl ⟨by rfl, fun w hw => by go_simp; try (rw [IntKind.wrap_i64]; omega); try omega⟩) hS0 ?_
                    simp only [Act.put, List.getElem_toArray, List.getElem_cons_zero, List.getElem_cons_succ, List.setIfInBounds_toArray, List.set_cons_zero, List.set_cons_succ]
                    have hSwd := hS0
                    have hBwd := hB0
                    have hOwd := hO0
                    clear hS0 hB0 hO0
                    refine wpAnyH_all (rs := [3]) (by kernel_rfl) (by simp) ?_
                    intro io hio
                    rcases (by simpa using hio : io = 3) with rfl
                    obtain ⟨wa, hwa⟩ : ∃ wa, wd.alloc (.cells #[.int .i64 (t : Int), .string (⟨#[125, 32, 101, 108, 115, 101, 32, 123]⟩ : ByteArray)] 112) = wa := ⟨_, rfl⟩
                    have hSwa : wa.heap[wr.heap.size]? = some (.cells #[.int .i64 kd, .string nm, .slice nA nn nc, .int .i64 eo, .int .u64 eu, .string en, .slice eA ek ec, .int .i64 ao, .int .u64 au, .string an, .slice aA ak ac, .slice gA gn gc, .int .u64 lo, .int .u64 hi, .slice bA bn bc, .slice lA ln lc] 50 (0, 0)) := by rw [← hwa]; exact (heap_alloc_old _ _ (blk_lt hSwd)).trans hSwd
                    have hBwa : Below W.heap.size W wa := by rw [← hwa]; exact hBwd.alloc hBwd.size _
                    have hNwa : ∀ j u, [Value.int .i64 (t : Int), .string (⟨#[125, 32, 101, 108, 115, 101, 32, 123]⟩ : ByteArray)][j]? = some u → wa.cell? ((⟨wd.heap.size, 0, none⟩ : Addr).add j) = some u := by rw [← hwa]; exact two_cells _ _ _ _
                    have hOwa : wa.ownsRow W.heap.size 112 2 u5 P1.length (lnCells P1) := by rw [← hwa]; exact World.ownsRow.alloc hOwd _
                    refine wpOp_ran (w' := wa) (v := .slice (some ⟨wd.heap.size, 0, none⟩) 1 1) rfl (by rfl) (by rw [← hwa]; first | rfl | (unfold execOp; go_simp; rfl) | go_simp) ⟨hSwa, ?_⟩
                    simp only [Act.put, List.getElem_toArray, List.getElem_cons_zero, List.getElem_cons_succ, List.setIfInBounds_toArray, List.set_cons_zero, List.set_cons_succ]
                    refine wpAnyH_all (rs := [4]) (by kernel_rfl) (by simp) ?_
                    intro io hio
                    rcases (by simpa using hio : io = 4) with rfl
                    refine wpOp_append (ad := ⟨wd.heap.size, 0, none⟩) (m := 1) (c := 1) (news := [.int .i64 (t : Int), .string (⟨#[125, 32, 101, 108, 115, 101, 32, 123]⟩ : ByteArray)]) rfl (by rfl) rfl rfl hOwa rfl rfl hNwa (lnCells_ones [(t, (⟨#[125, 32, 101, 108, 115, 101, 32, 123]⟩ : ByteArray))]) (by omega) hBwa.size ?_
                    intro v1 wb hPwb hgwb
                    have hSwb := grown_keep hOwa hgwb hSwa (by intro cs fr e; cases e)
                    have hBwb := grown_below hOwa hgwb hBwa (Nat.le_refl _) hBwa.size
                    refine ⟨hSwb, ?_⟩
                    simp only [Act.put, List.getElem_toArray, List.getElem_cons_zero, List.getElem_cons_succ, List.setIfInBounds_toArray, List.set_cons_zero, List.set_cons_succ]
                    refine wpAnyH_all (rs := [9]) (by kernel_rfl) (by simp) ?_
                    intro io hio
                    rcases (by simpa using hio : io = 9) with rfl
                    refine wpOp_call rfl (by rfl) (f := 76) (args := #[.slice lA ln lc, .int .i64 ((t + 1 : Nat) : Int)]) (by first | rfl | go_simp) (h76e.out wb hBwb) ?_
                    rintro e we ⟨v2, rfl, hVwe, hbwe⟩
                    have hSwe : we.heap[wr.heap.size]? = some (.cells #[.int .i64 kd, .string nm, .slice nA nn nc, .int .i64 eo, .int .u64 eu, .string en, .slice eA ek ec, .int .i64 ao, .int .u64 au, .string an, .slice aA ak ac, .slice gA gn gc, .int .u64 lo, .int .u64 hi, .slice bA bn bc, .slice lA ln lc] 50 (0, 0)) := (hbwe.block _ (blk_lt hSwb)).trans hSwb
                    have hBwe : Below W.heap.size W we := Below.next hBwb hbwe
                    have hPwe : we.ownsRow W.heap.size 112 2 v1 (P1.length + 1) (lnCells P1 ++ [.int .i64 (t : Int), .string (⟨#[125, 32, 101, 108, 115, 101, 32, 123]⟩ : ByteArray)]) := own_go hPwb hbwe
                    refine ⟨_, rfl, hSwe, ?_⟩
                    simp only [Act.put, List.getElem_toArray, List.getElem_cons_zero, List.getElem_cons_succ, List.setIfInBounds_toArray, List.set_cons_zero, List.set_cons_succ]
                    refine wpAnyH_all (rs := [10]) (by kernel_rfl) (by simp) ?_
                    intro io hio
                    rcases (by simpa using hio : io = 10) with rfl
                    refine wpOp_rows rfl (by rfl) rfl rfl hPwe rfl hVwe (by omega) hBwe.size ?_
                    intro v3 wf hQwf hgwf
                    have hSwf := grown_keep hPwe hgwf hSwe (by intro cs fr e; cases e)
                    have hBwf := grown_below hPwe hgwf hBwe (Nat.le_refl _) hBwe.size
                    refine ⟨hSwf, ?_⟩
                    simp only [Act.put, List.getElem_toArray, List.getElem_cons_zero, List.getElem_cons_succ, List.setIfInBounds_toArray, List.set_cons_zero, List.set_cons_succ]
                    refine wpAnyH_take (i := 11) (v := v3) rfl (by kernel_rfl) (by kernel_rfl) (by kernel_rfl) (fun _ _ _ h => h) (Or.inl ⟨by rfl, fun w hw => by go_simp; try omega⟩) hSwf ?_
                    simp only [Act.put, List.getElem_toArray, List.getElem_cons_zero, List.getElem_cons_succ, List.setIfInBounds_toArray, List.set_cons_zero, List.set_cons_succ]
                    refine wpAnyH_done (by kernel_rfl) ?_ _
                    go_wp2_with fail
                    go_meet
                    case rel => exact ⟨by rw [← hP2.out]; exact own_more hQwf, hSwf, hBwf⟩
                case rest =>
                  obtain ⟨hO2, hX2, hB2⟩ := hcut
                  have hO2 := Lib.hid hO2
                  have hB2 := Lib.hid hB2
                  clear hO1 hX1 hB1 p15
                  have hown := Lib.hid (World.ownsRow.alloc hO2.out (.cells #[.int .i64 t, .string (⟨#[125]⟩ : ByteArray)] 112))
                  have hnew := Lib.hid (two_cells wc (.int .i64 t) (.string (⟨#[125]⟩ : ByteArray)) 112)
                  have hbA := Lib.hid ((hB2.out).alloc (hB2.out).size (.cells #[.int .i64 t, .string (⟨#[125]⟩ : ByteArray)] 112))
                  have hone := Lib.hid (lnCells_ones [(t, (⟨#[125]⟩ : ByteArray))])
                  have hbs := Lib.hid hbA.out.size
                  have hk1 := Lib.hid (show P2.length + 1 ≤ maxLen by have := lQ2.out; unfold maxLen; omega)
                  have hk2 := Lib.hid (show (P2.length + 1) * 24 ≤ 140737488355328 by have := lQ2.out; omega)
                  obtain ⟨i0, hj1, hj2, hj3, hj4⟩ := info_parts info112
                  go_wp2_with ((at_builtin; refine wpList_append_own_at _ rfl _ _ 109 rfl W.heap.size 112 i0 _ 2 24 und109 hj1 hj2 hj3 hj4 rfl (by decide) u5 P2.length (lnCells P2) rfl hown.out ⟨wc.heap.size, 0, none⟩ 1 1 [.int .i64 t, .string (⟨#[125]⟩ : ByteArray)] rfl rfl hnew.out hone.out hk1.out hk2.out hbs.out ?_; intro v' w9 hown9 hg9 hnil9 hat9))
                  have hB9 := Lib.hid (grown_below hown.out hg9 hbA.out (Nat.le_refl _) hbs.out)
                  have hown9 := Lib.hid (own_last hown9)
                  clear hg9 hnil9 hat9
                  go_wp2
                  go_roundg g2
                  case measure => omega
                  case rel =>
                    refine ⟨k + 1, by omega, by go_num, ?_, hB9.out⟩
                    have e5 : linesL t (L.take (k + 1)) = P2 ++ [(t, endB)] := by rw [hnext.out, hSS.out, ← hP2.out, ← hP1.out]; simp
                    rw [e5]
                    exact hown9.out
end Go.Proofs.YtnahgfdoiflacaaGreatDoor
