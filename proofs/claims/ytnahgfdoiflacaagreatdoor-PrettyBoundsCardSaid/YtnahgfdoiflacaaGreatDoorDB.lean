/- How deep statements are: the program's way. -/
import Derived.Test.YtnahgfdoiflacaaGreatDoorDA
import Derived.Test.YtnahgfdoiflacaaGreatDoorQ
import Derived.Test.YtnahgfdoiflacaaGreatDoorCH
import Derived.BigQuiet
import Derived.Lib.BufferMore
set_option linter.unusedSimpArgs false
set_option linter.unusedVariables false
namespace Go.Proofs.YtnahgfdoiflacaaGreatDoor
open Go.RowKit Go.Lib Go.Shelf

/-- expressions that a call owns: their rows -/
abbrev EQ := Ex × Option Addr × Nat
def eRow (q : EQ) : List Value := [.int .i64 q.1.op, .int .u64 q.1.u, .string q.1.nm, .slice q.2.1 q.1.ars.length q.2.2]
def eCells (Q : List EQ) : List Value := Q.flatMap eRow
theorem eCells_one (Q : List EQ) : ∀ u ∈ eCells Q, u.oneCell' = true := by
  intro u hu
  obtain ⟨r, _, hu⟩ := List.mem_flatMap.1 hu
  simp [eRow] at hu
  rcases hu with rfl | rfl | rfl | rfl <;> rfl
theorem eCells_len : ∀ Q : List EQ, (eCells Q).length = Q.length * 4
  | [] => rfl
  | q :: Q => by
    have := eCells_len Q
    rw [eCells, List.flatMap_cons, List.length_append, ← eCells, this, List.length_cons]
    simp [eRow]
    omega
theorem eCells_at : ∀ (Q : List EQ) (i : Nat) (q : EQ), Q[i]? = some q → ∀ j, j < 4 → (eCells Q)[i * 4 + j]? = (eRow q)[j]?
  | [], i, q, h => by simp at h
  | p :: Q, 0, q, h => fun j hj => by
    simp only [List.getElem?_cons_zero, Option.some.injEq] at h
    subst h
    rw [eCells, List.flatMap_cons, Nat.zero_mul, Nat.zero_add, List.getElem?_append_left (by simpa [eRow] using hj)]
  | p :: Q, i + 1, q, h => fun j hj => by
    have h' : Q[i]? = some q := by simpa using h
    have := eCells_at Q i q h' j hj
    rw [eCells, List.flatMap_cons, List.getElem?_append_right (by simp [eRow]; omega), ← eCells, ← this]
    congr 1
    simp [eRow]
    omega
/-- the rows of expressions that lie -/
theorem ExsAt.rows {w : World} {L : List Ex} {A : Option Addr} (h : ExsAt w L A) : ∃ Q : List EQ, Q.map (·.1) = L ∧ (∀ q ∈ Q, ExAt w q.1 q.2.1 ∧ q.1.u < 18446744073709551616) ∧
    (0 < L.length → ∃ blk off, A = some ⟨blk, off, none⟩ ∧ ∀ (j : Nat) (u : Value), (eCells Q)[j]? = some u → w.cell? ⟨blk, off + j, none⟩ = some u) := by
  obtain ⟨blk, off, B, C, hA, hc, hu, hr⟩ := h
  refine ⟨(List.range L.length).map fun i => (L.getD i (.node 0 0 ⟨#[]⟩ []), B i, C i), ?_, ?_, fun hl => ⟨blk, off, hA hl, ?_⟩⟩
  · rw [List.map_map]
    refine List.ext_getElem? fun i => ?_
    by_cases hi : i < L.length
    · simp [hi]
    · simp [hi]
  · intro q hq
    obtain ⟨i, hi, rfl⟩ := List.mem_map.1 hq
    have hi' : i < L.length := by simpa using hi
    have e : L[i]? = some (L.getD i (.node 0 0 ⟨#[]⟩ [])) := by simp [hi']
    exact ⟨hr i _ e, hu i _ e⟩
  · intro j u hj
    have hlt := (List.getElem?_eq_some_iff.1 hj).1
    rw [eCells_len, List.length_map, List.length_range] at hlt
    have e : L[j / 4]? = some (L.getD (j / 4) (.node 0 0 ⟨#[]⟩ [])) := by
      have : j / 4 < L.length := by omega
      simp [this]
    have hq : ((List.range L.length).map fun i => ((L.getD i (.node 0 0 ⟨#[]⟩ []), B i, C i) : EQ))[j / 4]? = some (L.getD (j / 4) (.node 0 0 ⟨#[]⟩ []), B (j / 4), C (j / 4)) := by
      have : j / 4 < L.length := by omega
      simp [this]
    have h1 := eCells_at _ _ _ hq (j % 4) (by omega)
    rw [show j / 4 * 4 + j % 4 = j by omega, hj] at h1
    obtain ⟨c0, c1, c2, c3⟩ := hc (j / 4) _ e
    have hm : j % 4 = 0 ∨ j % 4 = 1 ∨ j % 4 = 2 ∨ j % 4 = 3 := by omega
    rcases hm with hm | hm | hm | hm
    all_goals
      rw [hm] at h1
      have ej : off + j = off + j / 4 * 4 + j % 4 := by omega
      rw [ej, hm]
      simp only [eRow, List.getElem?_cons_zero, List.getElem?_cons_succ, Option.some.injEq] at h1
      subst h1
    · exact c0
    · exact c1
    · exact c2
    · exact c3
/-- what is owned lies -/
theorem exs_own {w w0 : World} {base : Nat} {v : Value} {Q : List EQ} (h : w.ownsRow base 26 4 v Q.length (eCells Q)) (hQ : ∀ q ∈ Q, ExAt w0 q.1 q.2.1 ∧ q.1.u < 18446744073709551616) (hb : Below w0.heap.size w0 w) :
    ∃ A c, v = .slice A Q.length c ∧ ExsAt w (Q.map (·.1)) A := by
  obtain ⟨hl, h⟩ := h
  rcases h with ⟨rfl, h0⟩ | ⟨g, cap, cur, rfl, hg, hh, hcap, hm, hs, ht⟩
  · have : Q = [] := List.length_eq_zero_iff.1 h0
    subst this
    exact ⟨none, 0, rfl, 0, 0, fun _ => none, fun _ => 0, fun h => absurd h (by simp), fun i x h => by simp at h, fun i x h => by simp at h, fun i x h => by simp at h⟩
  · refine ⟨some ⟨g, 0, none⟩, cap, rfl, g, 0, fun i => ((Q[i]?).getD (.node 0 0 ⟨#[]⟩ [], none, 0)).2.1, fun i => ((Q[i]?).getD (.node 0 0 ⟨#[]⟩ [], none, 0)).2.2, fun _ => rfl, ?_, ?_, ?_⟩
    · intro i x hx
      rw [List.getElem?_map] at hx
      obtain ⟨q, hq, rfl⟩ := Option.map_eq_some_iff.1 hx
      simp only [hq, Option.getD_some]
      have hlt := (List.getElem?_eq_some_iff.1 hq).1
      have get : ∀ j, j < 4 → w.cell? ⟨g, 0 + i * 4 + j, none⟩ = (eRow q)[j]? := fun j hj => by
        rw [blk_cell hh]
        have h1 := eCells_at Q i q hq j hj
        have h2 := congrArg (fun l : List Value => l[i * 4 + j]?) ht
        simp only [List.getElem?_take] at h2
        rw [if_pos (by omega), h1] at h2
        have e : 0 + i * 4 + j = i * 4 + j := by omega
        rw [e]
        simpa using h2
      exact ⟨get 0 (by omega), get 1 (by omega), get 2 (by omega), get 3 (by omega)⟩
    · intro i x hx
      rw [List.getElem?_map] at hx
      obtain ⟨q, hq, rfl⟩ := Option.map_eq_some_iff.1 hx
      exact (hQ q (List.mem_of_getElem? hq)).2
    · intro i x hx
      rw [List.getElem?_map] at hx
      obtain ⟨q, hq, rfl⟩ := Option.map_eq_some_iff.1 hx
      simp only [hq, Option.getD_some]
      exact (hQ q (List.mem_of_getElem? hq)).1.keep hb
theorem info26 : (Tryz.prog.info? 26).map (fun i => (i.zero, i.size, i.bytes)) = some (some (.agg #[.int .i64 0, .int .u64 0, .string ⟨#[]⟩, .slice none 0 0]), 4, 56) := by kernel_rfl
def ClonePost (Q : List EQ) (w : World) (e : Ending) (w' : World) : Prop := ∃ v, e = .returned v ∧ w'.ownsRow w.heap.size 26 4 v Q.length (eCells Q) ∧ Below w.heap.size w w'

set_option maxRecDepth 100000 in
set_option maxHeartbeats 4000000 in
theorem clone_any (Q : List EQ) (A : Option Addr) (n c : Nat) (W : World) (hn : Q.length = n) (hq : n ≤ 1000000)
    (hA : 0 < n → ∃ blk off, A = some ⟨blk, off, none⟩ ∧ ∀ (j : Nat) (u : Value), (eCells Q)[j]? = some u → W.cell? ⟨blk, off + j, none⟩ = some u) :
    Calls Tryz.prog 127 #[.slice A n c] W (ClonePost Q W) := by
  cases A with
  | none =>
    have h0 : n = 0 := by
      rcases Nat.eq_zero_or_pos n with h0 | h0
      · exact h0
      · obtain ⟨_, _, e, _⟩ := hA h0
        cases e
    subst h0
    have hQ : Q = [] := List.length_eq_zero_iff.1 hn
    subst hQ
    have he := fun w => Lib.run_eql_slice_nil_nil (P := Tryz.prog) w (t := 24) 0 c Tryz.underlying24
    clear hA hn
    go_enter Tryz.func127, Tryz.ntmps127
    go_wp2
    go_ret
    exact ⟨_, rfl, ⟨rfl, .inl ⟨rfl, rfl⟩⟩, Below.refl _ _⟩
  | some ad =>
    obtain ⟨i0, hi, hz0, hz1, hz2⟩ := info_parts info26
    have hi' := Lib.hid (And.intro hi (And.intro hz0 (And.intro hz1 hz2)))
    have he := fun w => Lib.run_eql_slice_some_nil (P := Tryz.prog) w (t := 24) ad n c Tryz.underlying24
    have hown0 := Lib.hid (show (W.alloc (.cells #[] 26)).ownsRow W.heap.size 26 4 (.slice (some ⟨W.heap.size, 0, none⟩) 0 0) 0 [] from ⟨rfl, .inr ⟨W.heap.size, 0, #[], rfl, Nat.le_refl _, heap_alloc_new W _, Nat.le_refl _, by simp [maxLen], rfl, rfl⟩⟩)
    have hlen := Lib.hid (show (eCells Q).length = n * 4 by rw [eCells_len, hn])
    have hnews := Lib.hid (show ∀ (j : Nat) (u : Value), (eCells Q)[j]? = some u → (W.alloc (.cells #[] 26)).cell? (ad.add j) = some u from fun j u hj => by
      have hlt := (List.getElem?_eq_some_iff.1 hj).1
      rw [hlen.out] at hlt
      obtain ⟨blk, off, e, hc⟩ := hA (by omega)
      cases e
      have h1 := hc j u hj
      rw [Lib.add_plain]
      exact (((Below.refl _ W).alloc (Nat.le_refl _) (.cells #[] 26)).cell (p := ⟨blk, off + j, none⟩) (cell_some_lt h1)).trans h1)
    have hone := Lib.hid (eCells_one Q)
    have hk1 := Lib.hid (show 0 + n ≤ maxLen by unfold maxLen; omega)
    have hk2 := Lib.hid (show (0 + n) * 56 ≤ 140737488355328 by omega)
    have hbs := Lib.hid (show W.heap.size ≤ (W.alloc (.cells #[] 26)).heap.size by simp)
    have hn' := Lib.hid hn
    obtain ⟨hj1, hj2, hj3, hj4⟩ := hi'.out
    clear hA hi hz0 hz1 hz2 hn
    go_enter Tryz.func127, Tryz.ntmps127
    go_wp2_with ((at_builtin; refine wpList_append_own_at _ rfl _ _ 24 rfl W.heap.size 26 i0 _ 4 56 Tryz.underlying24 hj1 hj2 hj3 hj4 rfl (by decide) (.slice (some ⟨W.heap.size, 0, none⟩) 0 0) 0 [] rfl hown0.out ad n c (eCells Q) rfl hlen.out hnews.out hone.out hk1.out hk2.out hbs.out ?_; intro v' w1 hown hg hnil hat; have hown := Lib.hid hown; have hg := Lib.hid hg; clear hnil hat))
    go_ret
    have hb : Below W.heap.size W w1 := ((Below.refl _ _).alloc (Nat.le_refl _) _).grown hg.out (by simp) (fun k hk => by simp [Value.ownBlock] at hk; omega)
    have hown := hown.out
    rw [Nat.zero_add, List.nil_append, ← hn'.out] at hown
    exact ⟨v', rfl, hown, hb⟩

theorem box8 {W : World} {b : Nat} {v0 v1 v2 v3 v4 v5 v6 v7 : Value} {t : TypeId} (h : W.heap[b]? = some (.cells #[v0, v1, v2, v3, v4, v5, v6, v7] t (0, 0))) :
    W.cell? ⟨b, 0, none⟩ = some v0 ∧ W.cell? ⟨b, 1, none⟩ = some v1 ∧ W.cell? ⟨b, 2, none⟩ = some v2 ∧ W.cell? ⟨b, 3, none⟩ = some v3 ∧ W.cell? ⟨b, 4, none⟩ = some v4 ∧ W.cell? ⟨b, 5, none⟩ = some v5 ∧ W.cell? ⟨b, 6, none⟩ = some v6 ∧ W.cell? ⟨b, 7, none⟩ = some v7 :=
  ⟨by rw [blk_cell h]; rfl, by rw [blk_cell h]; rfl, by rw [blk_cell h]; rfl, by rw [blk_cell h]; rfl, by rw [blk_cell h]; rfl, by rw [blk_cell h]; rfl, by rw [blk_cell h]; rfl, by rw [blk_cell h]; rfl⟩
/-- those of two expressions that are there -/
def notNone (L : List Ex) : List Ex := L.filter fun e => !noneE e
theorem maxL_append {α : Type} (D : α → Nat) : ∀ (L M : List α), maxL D (L ++ M) = max (maxL D L) (maxL D M)
  | [], M => by simp [maxL]
  | x :: L, M => by rw [List.cons_append, maxL, maxL_append D L M, maxL]; omega
theorem maxL_notNone (e a : Ex) : maxL depE (notNone [e, a]) = max (depO e) (depO a) := by
  unfold notNone depO
  cases h1 : noneE e <;> cases h2 : noneE a <;> simp [h1, h2, maxL]

set_option maxRecDepth 100000 in
set_option maxHeartbeats 16000000 in
theorem deepS_any (w0 : World) (x : St) (r : StC) (hx : SNow w0 x r) (W : World) (hW : Below w0.heap.size w0 W) (hcx : cntS x ≤ 30000)
    (hbd : ∀ (W' : World), Below w0.heap.size w0 W' → Calls Tryz.prog 79 #[.slice r.bd.a x.bd.length r.bd.c, .func (.func 80) #[] #[]] W' (IntPost (depSs x.bd : Nat) W'))
    (hel : ∀ (W' : World), Below w0.heap.size w0 W' → Calls Tryz.prog 79 #[.slice r.el.a x.el.length r.el.c, .func (.func 80) #[] #[]] W' (IntPost (depSs x.el : Nat) W')) :
    Calls Tryz.prog 80 #[vlT r] W (IntPost (depS x : Nat) W) := by
  have hcx0 := cntS_bd x
  have l3 := len_cnt x.ars
  have d1 := depL_le x.ars
  have d2 := depSs_cnt x.bd
  have d3 := depSs_cnt x.el
  have d4 := depO_le x.e
  have d5 := depO_le x.a
  obtain ⟨kd, nm, ⟨nA, nn, nc⟩, ⟨eo, eu, en, ⟨eA, ek, ec⟩⟩, ⟨ao, au, an, ⟨aA, ak, ac⟩⟩, ⟨gA, gn, gc⟩, lo, hi, ⟨bA, bn, bc⟩, ⟨lA, ln, lc⟩⟩ := r
  obtain ⟨kx, mx, nx, nxA, ⟨ex1, ex2, ex3, ex4, exA, exu⟩, ⟨ax1, ax2, ax3, ax4, axA, axu⟩, gx, gxA, lx, hx', _, _, bx, elx⟩ := hx
  dsimp only at kx mx nx nxA ex1 ex2 ex3 ex4 exA ax1 ax2 ax3 ax4 axA gx gxA lx hx' bx elx hbd hel
  rw [← bx] at hbd
  rw [← elx] at hel
  rw [depS_eq]
  obtain ⟨N, hN⟩ : ∃ N : Int, ((1 + max (max (depL x.ars) (max (depO x.e) (depO x.a))) (max (depSs x.bd) (depSs x.el)) : Nat) : Int) = N := ⟨_, rfl⟩
  rw [hN]
  obtain ⟨dS, hdS⟩ : ∃ d, depSs x.bd = d := ⟨_, rfl⟩
  obtain ⟨dT, hdT⟩ : ∃ d, depSs x.el = d := ⟨_, rfl⟩
  rw [hdS] at hbd d2 hN
  rw [hdT] at hel d3 hN
  unfold vlT
  dsimp only
  obtain ⟨Q, hQm, hQx, hQc⟩ := gxA.rows
  have hQl : Q.length = gn := by rw [gx, ← hQm, List.length_map]
  have hgn : gn ≤ 30000 := by rw [gx]; omega
  obtain ⟨W1, hW1⟩ : ∃ W1, W.alloc (.cells #[.int .i64 kd, .string nm, .slice nA nn nc, .int .i64 eo, .int .u64 eu, .string en, .slice eA ek ec, .int .i64 ao, .int .u64 au, .string an, .slice aA ak ac, .slice gA gn gc, .int .u64 lo, .int .u64 hi, .slice bA bn bc, .slice lA ln lc] 50) = W1 := ⟨_, rfl⟩
  have hb1 : Below W.heap.size W W1 := by rw [← hW1]; exact (Below.refl _ W).alloc (Nat.le_refl _) _
  have hX : W1.heap[W.heap.size]? = some (.cells #[.int .i64 kd, .string nm, .slice nA nn nc, .int .i64 eo, .int .u64 eu, .string en, .slice eA ek ec, .int .i64 ao, .int .u64 au, .string an, .slice aA ak ac, .slice gA gn gc, .int .u64 lo, .int .u64 hi, .slice bA bn bc, .slice lA ln lc] 50 (0, 0)) := by rw [← hW1]; exact heap_alloc_new _ _
  have hW01 := hW.trans (hb1.mono hW.size)
  have hclone := Lib.hid (clone_any Q gA gn gc W1 hQl (by omega) (fun h => by
    obtain ⟨blk, off, e, hc⟩ := hQc (by omega)
    exact ⟨blk, off, e, fun j u hj => (hW01.cell (p := ⟨blk, off + j, none⟩) (cell_some_lt (hc j u hj))).trans (hc j u hj)⟩))
  obtain ⟨p0, p1, p2, p3, p4, p5, p6, p7, p8, p9, p10, p11, p12, p13, p14, p15⟩ := box16 hX
  have hX := Lib.hid hX
  have hb1 := Lib.hid hb1
  have hW01 := Lib.hid hW01
  have hbd := Lib.hid hbd
  have hel := Lib.hid hel
  have hQm := Lib.hid hQm
  have hQx := Lib.hid hQx
  have hQl' := Lib.hid hQl
  obtain ⟨i0, hi, hz0, hz1, hz2⟩ := info_parts info26
  have hi' := Lib.hid (And.intro hi (And.intro hz0 (And.intro hz1 hz2)))
  have hcne : ∀ W' : World, Calls Tryz.prog 128 #[.agg #[.int .i64 eo, .int .u64 eu, .string en, .slice eA ek ec]] W' (BoolPost (noneE x.e) W') := fun W' => by
    rw [ex1, ex2, ex3, ex4]
    exact none_any x.e eA ec W' (by have := len_cnt x.e.ars; have : cntL x.e.ars ≤ cntE x.e := (by cases x.e; rw [cntE]; simp only [Ex.ars]; omega); omega)
  have hcna : ∀ W' : World, Calls Tryz.prog 128 #[.agg #[.int .i64 ao, .int .u64 au, .string an, .slice aA ak ac]] W' (BoolPost (noneE x.a) W') := fun W' => by
    rw [ax1, ax2, ax3, ax4]
    exact none_any x.a aA ac W' (by have := len_cnt x.a.ars; have : cntL x.a.ars ≤ cntE x.a := (by cases x.a; rw [cntE]; simp only [Ex.ars]; omega); omega)
  have hcne := Lib.hid hcne
  have hcna := Lib.hid hcna
  have hce : cntE x.e ≤ 30000 := by omega
  have hca : cntE x.a ≤ 30000 := by omega
  have hcl : cntL x.ars ≤ 30000 := by omega
  have hrowE := Lib.hid (show eRow (x.e, eA, ec) = [.int .i64 eo, .int .u64 eu, .string en, .slice eA ek ec] by rw [ex1, ex2, ex3, ex4]; rfl)
  have hrowA := Lib.hid (show eRow (x.a, aA, ac) = [.int .i64 ao, .int .u64 au, .string an, .slice aA ak ac] by rw [ax1, ax2, ax3, ax4]; rfl)
  have hpe := Lib.hid (And.intro exA exu)
  have hpa := Lib.hid (And.intro axA axu)
  have hfin := Lib.hid (show (1 : Int) + (max (max (maxL depE (x.ars ++ notNone [x.e, x.a])) dS) dT : Nat) = N by
    rw [maxL_append, maxL_notNone, ← depL_max, ← hN]
    omega)
  have hbnd := Lib.hid (show maxL depE (x.ars ++ notNone [x.e, x.a]) ≤ 30000 ∧ dS ≤ 30000 ∧ dT ≤ 30000 from ⟨by rw [maxL_append, maxL_notNone, ← depL_max]; omega, by omega, by omega⟩)
  clear hN hcx0 l3 d1 d2 d3 d4 d5 kx mx nx nxA ex1 ex2 ex3 ex4 exA exu ax1 ax2 ax3 ax4 axA axu gx gxA lx hx' bx elx hdS hdT hQc hQl hi hz0 hz1 hz2 hW
  go_enter Tryz.func80, Tryz.ntmps80
  go_wp2_with fail
  refine hclone.out.mono ?_
  rintro e w2 ⟨v, rfl, hown, hb2⟩
  have hown := Lib.hid hown
  have hb2 := Lib.hid hb2
  clear p0 p1 p2 p3 p4 p5 p6 p7 p8 p9 p10 p11 p12 p13 p14 p15
  obtain ⟨p0, p1, p2, p3, p4, p5, p6, p7, p8, p9, p10, p11, p12, p13, p14, p15⟩ := box16 ((hb2.out.block _ (blk_lt hX.out)).trans hX.out)
  obtain ⟨wS, hwS⟩ : ∃ wS, w2.alloc (.cells #[.int .i64 eo, .int .u64 eu, .string en, .slice eA ek ec, .int .i64 ao, .int .u64 au, .string an, .slice aA ak ac] 26) = wS := ⟨_, rfl⟩
  have hbS := Lib.hid (show Below W1.heap.size W1 wS by rw [← hwS]; exact hb2.out.alloc hb2.out.size _)
  have hbb := Lib.hid (show wS.heap[w2.heap.size]? = some (.cells #[.int .i64 eo, .int .u64 eu, .string en, .slice eA ek ec, .int .i64 ao, .int .u64 au, .string an, .slice aA ak ac] 26 (0, 0)) by rw [← hwS]; exact heap_alloc_new _ _)
  have hownS := Lib.hid (own_keep (W' := wS) hown.out fun g hg => by rw [← hwS]; exact heap_alloc_old _ _ (own_at hown.out hg).2)
  have hne0 := Lib.hid (show ∀ g, v.ownBlock = some g → g ≠ w2.heap.size from fun g hg e => by have := (own_at hown.out hg).2; omega)
  have hsz2 := Lib.hid (show W1.heap.size ≤ w2.heap.size from hb2.out.size)
  go_wp2_with fail
  clear p0 p1 p2 p3 p4 p5 p6 p7 p8 p9 p10 p11 p12 p13 p14 p15
  go_loopg [3, 15] 2 (fun g s3 s15 wr => ∃ (k : Nat) (Qk : List EQ), k + g = 2 ∧ s15 = .int .i64 k ∧ wr.ownsRow W1.heap.size 26 4 s3 Qk.length (eCells Qk) ∧ Qk.map (·.1) = x.ars ++ notNone ([x.e, x.a].take k) ∧ (∀ q ∈ Qk, ExAt w0 q.1 q.2.1 ∧ q.1.u < 18446744073709551616) ∧ Qk.length ≤ gn + k ∧ Below W1.heap.size W1 wr ∧
    wr.heap[w2.heap.size]? = some (.cells #[.int .i64 eo, .int .u64 eu, .string en, .slice eA ek ec, .int .i64 ao, .int .u64 au, .string an, .slice aA ak ac] 26 (0, 0)) ∧ (∀ g, s3.ownBlock = some g → g ≠ w2.heap.size))
  case atStart => exact ⟨0, Q, by omega, rfl, hownS.out, by rw [hQm.out]; simp [notNone], hQx.out, by have := hQl'.out; omega, hbS.out, hbb.out, hne0.out⟩
  case round =>
    obtain ⟨k, Qk, hkg, rfl, ho, hQk, hQkx, hQkl, hbr, hblk, hne⟩ := hrel
    have ho := Lib.hid ho
    have hQk := Lib.hid hQk
    have hQkx := Lib.hid hQkx
    have hbr := Lib.hid hbr
    have hne := Lib.hid hne
    cases gk with
    | zero =>
      have e0 : ¬ (k : Int) < 2 := by omega
      obtain rfl : k = 2 := by omega
      obtain ⟨A3, c3, rfl, hex3⟩ := exs_own ho.out hQkx.out (hW01.out.trans (hbr.out.mono hW01.out.size))
      rw [hQk.out] at hex3
      have hl3 : Qk.length = (x.ars ++ notNone ([x.e, x.a].take 2)).length := by rw [← hQk.out, List.length_map]
      obtain ⟨L3, hL3⟩ : ∃ L3, x.ars ++ notNone ([x.e, x.a].take 2) = L3 := ⟨_, rfl⟩
      have hL3' : x.ars ++ notNone [x.e, x.a] = L3 := hL3
      rw [hL3] at hex3 hl3
      have hfin := hfin.out
      have hbnd := hbnd.out
      rw [hL3'] at hfin hbnd
      have hcL3 : ∀ (i : Nat) (y : Ex), L3[i]? = some y → cntE y ≤ 30000 := fun i y hy => by
        have hm : y ∈ L3 := List.mem_of_getElem? hy
        rw [← hL3'] at hm
        rcases List.mem_append.1 hm with h | h
        · obtain ⟨j, hj⟩ := List.getElem?_of_mem h
          have := cnt_mem hj
          omega
        · have := (List.mem_filter.1 h).1
          simp at this
          rcases this with rfl | rfl <;> assumption
      have h45 := Lib.hid (fun (s : Sub wr) => most_any 13 (enters_of Tryz.func13 (by kernel_rfl) rfl) depE wr L3 A3 hex3 c3 s.val s.property (by omega) (by omega)
        (fun i y B hy hye C W' hW' => depth_any wr y B hye (hcL3 i y hy) C W' hW'))
      rw [← hl3] at h45
      have hup := Lib.hid (fun (s : Sub wr) => (hW01.out.trans ((hbr.out.trans (s.property.mono hbr.out.size)).mono hW01.out.size) : Below w0.heap.size w0 s.val))
      have hbd := Lib.hid (fun (s : Sub wr) => hbd.out s.val (hup.out s))
      have hel := Lib.hid (fun (s : Sub wr) => hel.out s.val (hup.out s))
      obtain ⟨m3, hm3⟩ : ∃ m3, maxL depE L3 = m3 := ⟨_, rfl⟩
      rw [hm3] at h45 hfin hbnd
      obtain ⟨n3, hn3⟩ : ∃ n3, Qk.length = n3 := ⟨_, rfl⟩
      rw [hn3] at h45 ⊢
      obtain ⟨p0, p1, p2, p3, p4, p5, p6, p7, p8, p9, p10, p11, p12, p13, p14, p15⟩ := box16 ((hbr.out.block _ (blk_lt hX.out)).trans hX.out)
      have p14 := Sub.cell p14
      have p15 := Sub.cell p15
      have hfin := Lib.hid hfin
      obtain ⟨hbm3, hbdS, hbdT⟩ := hbnd
      clear hex3 hl3 hL3 hL3' hcL3 hm3 hn3 hblk
      go_upto_region 8 with fail
      refine wp_region_below (by kernel_rfl) (by kernel_rfl) ?_
      repeat (go_big_quiet_step ((first | (go_at_call 45; with_reducible exact Sub.call (h45.out _)) | (go_at_call 79; with_reducible exact Sub.call (hbd.out _)) | (go_at_call 79; with_reducible exact Sub.call (hel.out _)))))
      refine wpQuiet_nil ?_
      rintro w4 ⟨s4, hs4⟩
      have hb4 := hs4 ▸ s4.property
      have hb4 := Lib.hid (Below.next hb1.out (Below.next hbr.out hb4))
      clear hs4 p0 p1 p2 p3 p4 p5 p6 p7 p8 p9 p10 p11 p12 p13 p14 p15
      go_wp2
      all_goals
        go_ret
        exact ⟨by
          have h := hfin.out
          show Ending.returned (.int .i64 _) = _
          congr 2
          omega, hb4.out⟩
    | succ g2 =>
      have e0 : (k : Int) < 2 := by omega
      rcases (show k = 0 ∨ k = 1 by omega) with rfl | rfl
      · as_aux_lemma =>
          obtain ⟨z0, z1, z2, z3, z4, z5, z6, z7⟩ := box8 hblk
          have hblk' := Lib.hid hblk
          obtain ⟨wx, hwx⟩ : ∃ wx, wr.alloc (.cells #[.int .i64 eo, .int .u64 eu, .string en, .slice eA ek ec] 26) = wx := ⟨_, rfl⟩
          have hbx := Lib.hid (show Below W1.heap.size W1 wx by rw [← hwx]; exact hbr.out.alloc hbr.out.size _)
          have hxx := Lib.hid (show wx.heap[wr.heap.size]? = some (.cells #[.int .i64 eo, .int .u64 eu, .string en, .slice eA ek ec] 26 (0, 0)) by rw [← hwx]; exact heap_alloc_new _ _)
          have hsx : wx.heap.size = wr.heap.size + 1 := by rw [← hwx]; simp
          have hox := Lib.hid (own_keep (W' := wx) ho.out fun g hg => by rw [← hwx]; exact heap_alloc_old _ _ (own_at ho.out hg).2)
          have hbkx := Lib.hid (show wx.heap[w2.heap.size]? = some (.cells #[.int .i64 eo, .int .u64 eu, .string en, .slice eA ek ec, .int .i64 ao, .int .u64 au, .string an, .slice aA ak ac] 26 (0, 0)) by rw [← hwx, heap_alloc_old _ _ (blk_lt hblk)]; exact hblk)
          obtain ⟨y0, y1, y2, y3, _⟩ := box4 hxx.out
          have hsx := Lib.hid hsx
          clear hblk
          go_wp2_with fail
          refine (hcne.out _).mono ?_
          rintro e w3 ⟨rfl, hb3⟩
          have hox := Lib.hid (own_keep (W' := w3) hox.out fun g hg => hb3.block g (own_at hox.out hg).2)
          have hbkx := Lib.hid ((hb3.block _ (blk_lt hbkx.out)).trans hbkx.out)
          have hxx := Lib.hid ((hb3.block _ (blk_lt hxx.out)).trans hxx.out)
          have hb3s := Lib.hid hb3.size
          have hbx := Lib.hid (Below.next hbx.out hb3)
          clear hb3 z0 z1 z2 z3 z4 z5 z6 z7 y0 y1 y2 y3
          obtain ⟨y0, y1, y2, y3, _⟩ := box4 hxx.out
          cases hno : noneE x.e
          · have hno := Lib.hid hno
            have hf4 := Lib.hid (show ∀ (j : Nat) (u : Value), ([.int .i64 eo, .int .u64 eu, .string en, .slice eA ek ec] : List Value)[j]? = some u → (w3.alloc (.cells #[.int .i64 eo, .int .u64 eu, .string en, .slice eA ek ec] 26)).cell? ((⟨w3.heap.size, 0, none⟩ : Addr).add j) = some u from fun j u hu => by
              rw [Lib.add_plain, Nat.zero_add, blk_cell (heap_alloc_new w3 (.cells #[.int .i64 eo, .int .u64 eu, .string en, .slice eA ek ec] 26))]
              simpa using hu)
            have hown := Lib.hid (own_keep (W' := w3.alloc (.cells #[.int .i64 eo, .int .u64 eu, .string en, .slice eA ek ec] 26)) hox.out fun g hg => heap_alloc_old _ _ (own_at hox.out hg).2)
            have hbA := Lib.hid (hbx.out.alloc hbx.out.size (.cells #[.int .i64 eo, .int .u64 eu, .string en, .slice eA ek ec] 26))
            have hbkA := Lib.hid (show (w3.alloc (.cells #[.int .i64 eo, .int .u64 eu, .string en, .slice eA ek ec] 26)).heap[w2.heap.size]? = _ from (heap_alloc_old _ _ (blk_lt hbkx.out)).trans hbkx.out)
            have hone := Lib.hid (show ∀ v ∈ ([.int .i64 eo, .int .u64 eu, .string en, .slice eA ek ec] : List Value), v.oneCell' = true by simp [Value.oneCell'])
            have hbs := Lib.hid hbA.out.size
            have hk1 := Lib.hid (show Qk.length + 1 ≤ maxLen by unfold maxLen; omega)
            have hk2 := Lib.hid (show (Qk.length + 1) * 56 ≤ 140737488355328 by omega)
            obtain ⟨hj1, hj2, hj3, hj4⟩ := hi'.out
            go_wp2_with ((at_builtin; refine wpList_append_own_at _ rfl _ _ 24 rfl W1.heap.size 26 i0 _ 4 56 Tryz.underlying24 hj1 hj2 hj3 hj4 rfl (by decide) u3 Qk.length (eCells Qk) rfl hown.out ⟨w3.heap.size, 0, none⟩ 1 1 [.int .i64 eo, .int .u64 eu, .string en, .slice eA ek ec] rfl rfl hf4.out hone.out hk1.out hk2.out hbs.out ?_; intro v' w4 hown4 hg4 hnil4 hat4; have hown4 := Lib.hid hown4; have hg4 := Lib.hid hg4; have hat4 := Lib.hid hat4; clear hnil4))
            have hB4 := Lib.hid (hbA.out.grown hg4.out hbs.out (fun g' e => (own_at hown.out e).1))
            have hbk4 := Lib.hid (show w4.heap[w2.heap.size]? = _ from (hg4.out.block _ (blk_lt hbkA.out) (fun e => hne.out _ e.symm rfl)).trans hbkA.out)
            go_wp2
            go_roundg g2
            case measure => omega
            case rel =>
              refine ⟨0 + 1, Qk ++ [(x.e, eA, ec)], by omega, by go_num, ?_, ?_, ?_, ?_, hB4.out, hbk4.out, ?_⟩
              · have h := hown4.out
                rw [List.length_append, List.length_singleton, eCells, List.flatMap_append, ← eCells, List.flatMap_singleton, hrowE.out]
                exact h
              · rw [List.map_append, hQk.out, List.append_assoc]
                congr 1
                have hh := hno.out
                simp [notNone, hh]
              · intro q hq
                rcases List.mem_append.1 hq with h | h
                · exact hQkx.out q h
                · simp at h
                  subst h
                  exact hpe.out
              · rw [List.length_append, List.length_singleton]; omega
              · intro g' hg'
                rcases hat4.out with h | h
                · exact hne.out g' (h ▸ hg')
                · rw [h] at hg'
                  cases hg'
                  intro e
                  have h1 := blk_lt hbkx.out
                  have h2 : (w3.alloc (.cells #[.int .i64 eo, .int .u64 eu, .string en, .slice eA ek ec] 26)).heap.size = w3.heap.size + 1 := by simp
                  omega
          · have hno := Lib.hid hno
            go_wp2
            go_roundg g2
            case measure => omega
            case rel =>
              refine ⟨0 + 1, Qk, by omega, by go_num, hox.out, ?_, hQkx.out, by omega, hbx.out, hbkx.out, hne.out⟩
              rw [hQk.out]
              congr 1
              have hh := hno.out
              simp [notNone, hh]
      · as_aux_lemma =>
          obtain ⟨z0, z1, z2, z3, z4, z5, z6, z7⟩ := box8 hblk
          have hblk' := Lib.hid hblk
          obtain ⟨wx, hwx⟩ : ∃ wx, wr.alloc (.cells #[.int .i64 ao, .int .u64 au, .string an, .slice aA ak ac] 26) = wx := ⟨_, rfl⟩
          have hbx := Lib.hid (show Below W1.heap.size W1 wx by rw [← hwx]; exact hbr.out.alloc hbr.out.size _)
          have hxx := Lib.hid (show wx.heap[wr.heap.size]? = some (.cells #[.int .i64 ao, .int .u64 au, .string an, .slice aA ak ac] 26 (0, 0)) by rw [← hwx]; exact heap_alloc_new _ _)
          have hsx : wx.heap.size = wr.heap.size + 1 := by rw [← hwx]; simp
          have hox := Lib.hid (own_keep (W' := wx) ho.out fun g hg => by rw [← hwx]; exact heap_alloc_old _ _ (own_at ho.out hg).2)
          have hbkx := Lib.hid (show wx.heap[w2.heap.size]? = some (.cells #[.int .i64 eo, .int .u64 eu, .string en, .slice eA ek ec, .int .i64 ao, .int .u64 au, .string an, .slice aA ak ac] 26 (0, 0)) by rw [← hwx, heap_alloc_old _ _ (blk_lt hblk)]; exact hblk)
          obtain ⟨y0, y1, y2, y3, _⟩ := box4 hxx.out
          have hsx := Lib.hid hsx
          clear hblk
          go_wp2_with fail
          refine (hcna.out _).mono ?_
          rintro e w3 ⟨rfl, hb3⟩
          have hox := Lib.hid (own_keep (W' := w3) hox.out fun g hg => hb3.block g (own_at hox.out hg).2)
          have hbkx := Lib.hid ((hb3.block _ (blk_lt hbkx.out)).trans hbkx.out)
          have hxx := Lib.hid ((hb3.block _ (blk_lt hxx.out)).trans hxx.out)
          have hb3s := Lib.hid hb3.size
          have hbx := Lib.hid (Below.next hbx.out hb3)
          clear hb3 z0 z1 z2 z3 z4 z5 z6 z7 y0 y1 y2 y3
          obtain ⟨y0, y1, y2, y3, _⟩ := box4 hxx.out
          cases hno : noneE x.a
          · have hno := Lib.hid hno
            have hf4 := Lib.hid (show ∀ (j : Nat) (u : Value), ([.int .i64 ao, .int .u64 au, .string an, .slice aA ak ac] : List Value)[j]? = some u → (w3.alloc (.cells #[.int .i64 ao, .int .u64 au, .string an, .slice aA ak ac] 26)).cell? ((⟨w3.heap.size, 0, none⟩ : Addr).add j) = some u from fun j u hu => by
              rw [Lib.add_plain, Nat.zero_add, blk_cell (heap_alloc_new w3 (.cells #[.int .i64 ao, .int .u64 au, .string an, .slice aA ak ac] 26))]
              simpa using hu)
            have hown := Lib.hid (own_keep (W' := w3.alloc (.cells #[.int .i64 ao, .int .u64 au, .string an, .slice aA ak ac] 26)) hox.out fun g hg => heap_alloc_old _ _ (own_at hox.out hg).2)
            have hbA := Lib.hid (hbx.out.alloc hbx.out.size (.cells #[.int .i64 ao, .int .u64 au, .string an, .slice aA ak ac] 26))
            have hbkA := Lib.hid (show (w3.alloc (.cells #[.int .i64 ao, .int .u64 au, .string an, .slice aA ak ac] 26)).heap[w2.heap.size]? = _ from (heap_alloc_old _ _ (blk_lt hbkx.out)).trans hbkx.out)
            have hone := Lib.hid (show ∀ v ∈ ([.int .i64 ao, .int .u64 au, .string an, .slice aA ak ac] : List Value), v.oneCell' = true by simp [Value.oneCell'])
            have hbs := Lib.hid hbA.out.size
            have hk1 := Lib.hid (show Qk.length + 1 ≤ maxLen by unfold maxLen; omega)
            have hk2 := Lib.hid (show (Qk.length + 1) * 56 ≤ 140737488355328 by omega)
            obtain ⟨hj1, hj2, hj3, hj4⟩ := hi'.out
            go_wp2_with ((at_builtin; refine wpList_append_own_at _ rfl _ _ 24 rfl W1.heap.size 26 i0 _ 4 56 Tryz.underlying24 hj1 hj2 hj3 hj4 rfl (by decide) u3 Qk.length (eCells Qk) rfl hown.out ⟨w3.heap.size, 0, none⟩ 1 1 [.int .i64 ao, .int .u64 au, .string an, .slice aA ak ac] rfl rfl hf4.out hone.out hk1.out hk2.out hbs.out ?_; intro v' w4 hown4 hg4 hnil4 hat4; have hown4 := Lib.hid hown4; have hg4 := Lib.hid hg4; have hat4 := Lib.hid hat4; clear hnil4))
            have hB4 := Lib.hid (hbA.out.grown hg4.out hbs.out (fun g' e => (own_at hown.out e).1))
            have hbk4 := Lib.hid (show w4.heap[w2.heap.size]? = _ from (hg4.out.block _ (blk_lt hbkA.out) (fun e => hne.out _ e.symm rfl)).trans hbkA.out)
            go_wp2
            go_roundg g2
            case measure => omega
            case rel =>
              refine ⟨1 + 1, Qk ++ [(x.a, aA, ac)], by omega, by go_num, ?_, ?_, ?_, ?_, hB4.out, hbk4.out, ?_⟩
              · have h := hown4.out
                rw [List.length_append, List.length_singleton, eCells, List.flatMap_append, ← eCells, List.flatMap_singleton, hrowA.out]
                exact h
              · rw [List.map_append, hQk.out, List.append_assoc]
                congr 1
                have hh := hno.out
                cases hE : noneE x.e <;> simp [notNone, hE, hh]
              · intro q hq
                rcases List.mem_append.1 hq with h | h
                · exact hQkx.out q h
                · simp at h
                  subst h
                  exact hpa.out
              · rw [List.length_append, List.length_singleton]; omega
              · intro g' hg'
                rcases hat4.out with h | h
                · exact hne.out g' (h ▸ hg')
                · rw [h] at hg'
                  cases hg'
                  intro e
                  have h1 := blk_lt hbkx.out
                  have h2 : (w3.alloc (.cells #[.int .i64 ao, .int .u64 au, .string an, .slice aA ak ac] 26)).heap.size = w3.heap.size + 1 := by simp
                  omega
          · have hno := Lib.hid hno
            go_wp2
            go_roundg g2
            case measure => omega
            case rel =>
              refine ⟨1 + 1, Qk, by omega, by go_num, hox.out, ?_, hQkx.out, by omega, hbx.out, hbkx.out, hne.out⟩
              rw [hQk.out]
              congr 1
              have hh := hno.out
              cases hE : noneE x.e <;> simp [notNone, hE, hh]

set_option maxRecDepth 100000 in
set_option maxHeartbeats 4000000 in
theorem deepL_any (w0 : World) (L : List St) (A : Option Addr) (h : StsAt w0 L A) : ∀ (c : Nat) (W : World), cntSs L ≤ 30000 → Below w0.heap.size w0 W →
    Calls Tryz.prog 79 #[.slice A L.length c, .func (.func 80) #[] #[]] W (IntPost (depSs L : Nat) W) := by
  refine StsAt.all (M := fun L A => ∀ (c : Nat) (W : World), cntSs L ≤ 30000 → Below w0.heap.size w0 W → Calls Tryz.prog 79 #[.slice A L.length c, .func (.func 80) #[] #[]] W (IntPost (depSs L : Nat) W)) ?_ L A h
  intro L A hL ih c W hc hW
  have l1 := len_cntSs L
  have l2 := depSs_cnt L
  rw [depSs_max] at l2 ⊢
  exact mostT_any 80 (enters_of Tryz.func80 (by kernel_rfl) rfl) depS w0 L A hL c W hW (by omega) (by omega) (fun i x r hx hxr hxb hxl W' hW' => by
    have c1 := cntS_mem hx
    have c2 := cntS_bd x
    exact deepS_any w0 x r hxr W' hW' (by omega) (fun W2 hW2 => (ih i x _ hx).1 hxb _ W2 (by omega) hW2) (fun W2 hW2 => (ih i x _ hx).2 hxl _ W2 (by omega) hW2))
set_option maxRecDepth 100000 in
set_option maxHeartbeats 4000000 in
theorem deep28_any (w0 : World) (L : List St) (A : Option Addr) (h : StsAt w0 L A) (c : Nat) (W : World) (hc : cntSs L ≤ 30000) (hW : Below w0.heap.size w0 W) :
    Calls Tryz.prog 28 #[.slice A L.length c] W (IntPost (depSs L : Nat) W) := by
  have hk := Lib.hid (deepL_any w0 L A h c W hc hW)
  generalize L.length = n at hk ⊢
  generalize depSs L = d at hk ⊢
  clear h hc hW
  go_enter Tryz.func28, Tryz.ntmps28
  go_wp2_with fail
  refine hk.out.mono ?_
  rintro e w1 ⟨rfl, hb⟩
  have hb := Lib.hid hb
  go_wp2
  go_ret
  exact ⟨rfl, hb.out⟩
end Go.Proofs.YtnahgfdoiflacaaGreatDoor
