/- Functions, programs: whether they are the same: the program's way. -/
import Derived.Test.YtnahgfdoiflacaaGreatDoorCF
set_option linter.unusedSimpArgs false
set_option linter.unusedVariables false
namespace Go.Proofs.YtnahgfdoiflacaaGreatDoor
open Go.RowKit Go.Lib Go.Shelf

theorem same_fn (x y : Fn) : same x y = (same x.nm y.nm && (same x.ps y.ps && (same x.vs y.vs && (same x.rs y.rs && same x.bd y.bd)))) := by
  rw [← same_and (x := (x.rs, x.bd)) (y := (y.rs, y.bd)) (by simp), ← same_and (x := (x.vs, x.rs, x.bd)) (y := (y.vs, y.rs, y.bd)) (by simp), ← same_and (x := (x.ps, x.vs, x.rs, x.bd)) (y := (y.ps, y.vs, y.rs, y.bd)) (by simp)]
  refine same_and ?_
  cases x; cases y
  simp only [Fn.mk.injEq, Prod.mk.injEq]
theorem same_pg (x y : Pg) : same x y = (same x.rs y.rs && same x.fs y.fs) := by
  refine same_and ?_
  cases x; cases y
  simp only [Pg.mk.injEq]
theorem len_cntV : ∀ es : List VarC, es.length ≤ cntV es
  | [] => Nat.zero_le _
  | e :: es => by
    have := len_cntV es
    rw [List.length_cons, cntV]
    omega
theorem len_cntR : ∀ es : List RegC, es.length ≤ cntR es
  | [] => Nat.zero_le _
  | e :: es => by
    have := len_cntR es
    rw [List.length_cons, cntR]
    omega
theorem len_cntFs : ∀ es : List Fn, es.length ≤ cntFs es
  | [] => Nat.zero_le _
  | e :: es => by
    have := len_cntFs es
    rw [List.length_cons, cntFs, cntF]
    omega
theorem cntFs_mono {es : List Fn} : ∀ k, cntFs (es.take k) ≤ cntFs es := by
  induction es with
  | nil => intro k; simp [cntFs]
  | cons e es ih =>
    intro k
    cases k with
    | zero => simp [cntFs]
    | succ k => rw [List.take_succ_cons, cntFs, cntFs]; have := ih k; omega
theorem cntF_mem {es : List Fn} {x : Fn} {i : Nat} (h : es[i]? = some x) : cntF x ≤ cntFs es := by
  have h1 := cntFs_take i h
  have h2 := cntFs_mono (es := es) (i + 1)
  omega

set_option maxRecDepth 100000 in
set_option maxHeartbeats 16000000 in
theorem sameFn_any (w0 : World) (x y : Fn) (r s : FnC) (hx : FNow w0 x r) (hy : FNow w0 y s) (W : World) (hW : Below w0.heap.size w0 W) (hcx : cntF x ≤ 1000000) (hcy : cntF y ≤ 1000000) :
    Calls Tryz.prog 85 #[vlF r, vlF s] W (BoolPost (same x y) W) := by
  have l1 := len_cntV x.ps
  have l2 := len_cntV y.ps
  have l3 := len_cntV x.vs
  have l4 := len_cntV y.vs
  have l5 := len_cntN x.rs
  have l6 := len_cntN y.rs
  unfold cntF at hcx hcy
  obtain ⟨nm, ⟨pA, pn, pc⟩, ⟨vA, vn, vc⟩, ⟨rA, rn, rc⟩, ⟨bA, bn, bc⟩⟩ := r
  obtain ⟨nm', ⟨pA', pn', pc'⟩, ⟨vA', vn', vc'⟩, ⟨rA', rn', rc'⟩, ⟨bA', bn', bc'⟩⟩ := s
  obtain ⟨kx, px, pxA, vx, vxA, rx, rxA, bx, bxA, _, _⟩ := hx
  obtain ⟨ky, py, pyA, vy, vyA, ry, ryA, by', byA, _, _⟩ := hy
  dsimp only at kx px pxA vx vxA rx rxA bx bxA ky py pyA vy vyA ry ryA by' byA
  have h86p : ∀ (W' : World), Below w0.heap.size w0 W' → Calls Tryz.prog 86 #[.slice pA pn pc, .slice pA' pn' pc'] W' (BoolPost (same x.ps y.ps) W') := fun W' hW' => by
    rw [px, py]
    exact eqV_any w0 x.ps y.ps pA pA' pxA pyA pc pc' W' hW' (by omega) (by omega)
  have h86v : ∀ (W' : World), Below w0.heap.size w0 W' → Calls Tryz.prog 86 #[.slice vA vn vc, .slice vA' vn' vc'] W' (BoolPost (same x.vs y.vs) W') := fun W' hW' => by
    rw [vx, vy]
    exact eqV_any w0 x.vs y.vs vA vA' vxA vyA vc vc' W' hW' (by omega) (by omega)
  have h87 : ∀ (W' : World), Below w0.heap.size w0 W' → Calls Tryz.prog 87 #[.slice rA rn rc, .slice rA' rn' rc'] W' (BoolPost (same x.rs y.rs) W') := fun W' hW' => by
    rw [rx, ry]
    exact eqS_any w0 x.rs y.rs rA rA' rxA ryA rc rc' W' hW' (by omega) (by omega)
  have h35 : ∀ (W' : World), Below w0.heap.size w0 W' → Calls Tryz.prog 35 #[.slice bA bn bc, .slice bA' bn' bc'] W' (BoolPost (same x.bd y.bd) W') := fun W' hW' => by
    rw [bx, by']
    exact sameSts_any w0 x.bd bA bxA y.bd bA' bc bc' W' (by omega) (by omega) byA hW'
  rw [same_fn, ← kx, ← ky, ← bytes_beq' nm nm']
  generalize same x.ps y.ps = t5 at h86p ⊢
  generalize same x.vs y.vs = t6 at h86v ⊢
  generalize same x.rs y.rs = t7 at h87 ⊢
  generalize same x.bd y.bd = t8 at h35 ⊢
  clear hcx hcy l1 l2 l3 l4 l5 l6 px pxA vx vxA rx rxA bx bxA ky kx py pyA vy vyA ry ryA by' byA
  unfold vlF
  dsimp only
  obtain ⟨W1, hW1⟩ : ∃ W1, W.alloc (.cells #[.string nm, .slice pA pn pc, .slice vA vn vc, .slice rA rn rc, .slice bA bn bc] 54) = W1 := ⟨_, rfl⟩
  obtain ⟨W2, hW2⟩ : ∃ W2, W1.alloc (.cells #[.string nm', .slice pA' pn' pc', .slice vA' vn' vc', .slice rA' rn' rc', .slice bA' bn' bc'] 54) = W2 := ⟨_, rfl⟩
  have hb1 : Below W.heap.size W W1 := by rw [← hW1]; exact (Below.refl _ W).alloc (Nat.le_refl _) _
  have hb2 : Below W.heap.size W W2 := by rw [← hW2]; exact hb1.alloc hb1.size _
  have hs1 : W1.heap.size = W.heap.size + 1 := by rw [← hW1]; simp
  have hx1 : W1.heap[W.heap.size]? = some (.cells #[.string nm, .slice pA pn pc, .slice vA vn vc, .slice rA rn rc, .slice bA bn bc] 54 (0, 0)) := by rw [← hW1]; exact heap_alloc_new _ _
  have hY : W2.heap[W1.heap.size]? = some (.cells #[.string nm', .slice pA' pn' pc', .slice vA' vn' vc', .slice rA' rn' rc', .slice bA' bn' bc'] 54 (0, 0)) := by rw [← hW2]; exact heap_alloc_new _ _
  have hX : W2.heap[W.heap.size]? = some (.cells #[.string nm, .slice pA pn pc, .slice vA vn vc, .slice rA rn rc, .slice bA bn bc] 54 (0, 0)) := by rw [← hW2, heap_alloc_old _ _ (by omega)]; exact hx1
  obtain ⟨p0, p1, p2, p3, p4⟩ := box5 hX
  obtain ⟨q0, q1, q2, q3, q4⟩ := box5 hY
  have up : ∀ W', Below W2.heap.size W2 W' → Below w0.heap.size w0 W' := fun W' h => hW.trans ((Below.next hb2 h).mono hW.size)
  have h86p := Lib.hid fun W' (h : Below W2.heap.size W2 W') => h86p W' (up W' h)
  have h86v := Lib.hid fun W' (h : Below W2.heap.size W2 W') => h86v W' (up W' h)
  have h87 := Lib.hid fun W' (h : Below W2.heap.size W2 W') => h87 W' (up W' h)
  have h35 := Lib.hid fun W' (h : Below W2.heap.size W2 W') => h35 W' (up W' h)
  have hbw := Lib.hid (Below.refl W2.heap.size W2)
  have hX := Lib.hid hX
  have hY := Lib.hid hY
  have hb2 := Lib.hid hb2
  clear up hW hb1 hs1 hx1
  obtain ⟨b1, h1⟩ : ∃ b, (nm.toList == nm'.toList) = b := ⟨_, rfl⟩
  rw [h1]
  cases b1
  · go_enter Tryz.func85, Tryz.ntmps85
    go_wp2
    go_ret
    exact ⟨rfl, Below.next hb2.out hbw.out⟩
  · skip
    go_enter Tryz.func85, Tryz.ntmps85
    go_wp2_with fail
    refine (h86p.out _ hbw.out).mono ?_
    rintro e w3 ⟨rfl, hbn⟩
    have hbw := Lib.hid (Below.next hbw.out hbn)
    clear hbn p0 p1 p2 p3 p4 q0 q1 q2 q3 q4
    cases t5
    · go_wp2
      go_ret
      exact ⟨rfl, Below.next hb2.out hbw.out⟩
    · obtain ⟨p0, p1, p2, p3, p4⟩ := box5 ((hbw.out.block _ (blk_lt hX.out)).trans hX.out)
      obtain ⟨q0, q1, q2, q3, q4⟩ := box5 ((hbw.out.block _ (blk_lt hY.out)).trans hY.out)
      go_wp2_with fail
      refine (h86v.out _ hbw.out).mono ?_
      rintro e w4 ⟨rfl, hbn⟩
      have hbw := Lib.hid (Below.next hbw.out hbn)
      clear hbn p0 p1 p2 p3 p4 q0 q1 q2 q3 q4
      cases t6
      · go_wp2
        go_ret
        exact ⟨rfl, Below.next hb2.out hbw.out⟩
      · obtain ⟨p0, p1, p2, p3, p4⟩ := box5 ((hbw.out.block _ (blk_lt hX.out)).trans hX.out)
        obtain ⟨q0, q1, q2, q3, q4⟩ := box5 ((hbw.out.block _ (blk_lt hY.out)).trans hY.out)
        go_wp2_with fail
        refine (h87.out _ hbw.out).mono ?_
        rintro e w5 ⟨rfl, hbn⟩
        have hbw := Lib.hid (Below.next hbw.out hbn)
        clear hbn p0 p1 p2 p3 p4 q0 q1 q2 q3 q4
        cases t7
        · go_wp2
          go_ret
          exact ⟨rfl, Below.next hb2.out hbw.out⟩
        · obtain ⟨p0, p1, p2, p3, p4⟩ := box5 ((hbw.out.block _ (blk_lt hX.out)).trans hX.out)
          obtain ⟨q0, q1, q2, q3, q4⟩ := box5 ((hbw.out.block _ (blk_lt hY.out)).trans hY.out)
          go_wp2_with fail
          refine (h35.out _ hbw.out).mono ?_
          rintro e w6 ⟨rfl, hbn⟩
          have hbw := Lib.hid (Below.next hbw.out hbn)
          clear hbn p0 p1 p2 p3 p4 q0 q1 q2 q3 q4
          cases t8
          · go_wp2
            go_ret
            exact ⟨rfl, Below.next hb2.out hbw.out⟩
          · go_wp2
            go_ret
            exact ⟨rfl, Below.next hb2.out hbw.out⟩
set_option maxRecDepth 100000 in
set_option maxHeartbeats 4000000 in
theorem equalF_any (g : Nat) (hent : ∀ args w, (callFunc g args).run Tryz.prog w = .ok (.enter g args) w) (w0 : World) (L M : List Fn) (A B : Option Addr) (hL : FnsAt w0 L A) (hM : FnsAt w0 M B) (c d : Nat) (W : World) (hW : Below w0.heap.size w0 W) (hn : L.length ≤ 1000000) (hm : M.length ≤ 1000000)
    (hc : ∀ (i : Nat) (x y : Fn) (r s : FnC), L[i]? = some x → M[i]? = some y → FNow w0 x r → FNow w0 y s → ∀ (W' : World), Below w0.heap.size w0 W' → Calls Tryz.prog g #[vlF r, vlF s] W' (BoolPost (same x y) W')) :
    Calls Tryz.prog 89 #[.slice A L.length c, .slice B M.length d, .func (.func g) #[] #[]] W (BoolPost (same L M) W) := by
  have hL' := Lib.hid hL
  have hM' := Lib.hid hM
  have hc' := Lib.hid hc
  have hW' := Lib.hid hW
  obtain ⟨n, hnn⟩ : ∃ n, L.length = n := ⟨_, rfl⟩
  obtain ⟨m, hmm⟩ : ∃ m, M.length = m := ⟨_, rfl⟩
  rw [hnn] at hn ⊢
  rw [hmm] at hm ⊢
  have hLn := Lib.hid hnn
  have hMn := Lib.hid hmm
  clear hL hM hc hW hnn hmm
  by_cases hnm : n = m
  · subst hnm
    have e1 : ¬ ¬ ((n : Int) = (n : Int)) := by omega
    go_enter Tryz.func89, Tryz.ntmps89
    go_wp2_with fail
    go_loopg [17] n (fun g s17 wr => ∃ k : Nat, k + g = n ∧ s17 = .int .i64 k ∧ (∀ i : Nat, i < k → L[i]? = M[i]?) ∧ Below W.heap.size W wr)
    case atStart => exact ⟨0, by omega, rfl, fun i h => absurd h (by omega), Below.refl _ _⟩
    case round =>
      obtain ⟨k, hkg, rfl, hall, hbr⟩ := hrel
      have hall' := Lib.hid hall
      have hbr' := Lib.hid hbr
      clear hall hbr
      cases gk with
      | zero =>
        have e0 : ¬ ((k : Int) < (n : Int)) := by omega
        have hs := Lib.hid (show same L M = true from same_true.2 (List.ext_getElem? fun i => by
          by_cases hi : i < k
          · exact hall'.out i hi
          · rw [List.getElem?_eq_none (by have := hLn.out; omega), List.getElem?_eq_none (by have := hMn.out; omega)]))
        go_wp2
        go_ret
        exact ⟨by rw [hs.out]; rfl, hbr'.out⟩
      | succ g2 =>
        have e0 : (k : Int) < (n : Int) := by omega
        have hbw := Lib.hid (hW'.out.trans (hbr'.out.mono hW'.out.size))
        obtain ⟨blk, off, x, r, rfl, hx, hcx, hxe⟩ := (hL'.out).at_ (k := k) (by rw [hLn.out]; omega)
        obtain ⟨blk', off', y, s, rfl, hy, hcy, hye⟩ := (hM'.out).at_ (k := k) (by rw [hMn.out]; omega)
        obtain ⟨nm, ⟨pA, pn, pc⟩, ⟨vA, vn, vc⟩, ⟨rA, rn, rc⟩, ⟨bA, bn, bc⟩⟩ := r
        obtain ⟨nm', ⟨pA', pn', pc'⟩, ⟨vA', vn', vc'⟩, ⟨rA', rn', rc'⟩, ⟨bA', bn', bc'⟩⟩ := s
        have v0 : w0.cell? ⟨blk, off + k * 5, none⟩ = some (.string nm) := hcx 0 (by omega)
        have v0 := (hbw.out.cell (p := ⟨blk, off + k * 5, none⟩) (cell_some_lt v0)).trans v0
        have v1 : w0.cell? ⟨blk, off + k * 5 + 1, none⟩ = some (.slice pA pn pc) := hcx 1 (by omega)
        have v1 := (hbw.out.cell (p := ⟨blk, off + k * 5 + 1, none⟩) (cell_some_lt v1)).trans v1
        have v2 : w0.cell? ⟨blk, off + k * 5 + 2, none⟩ = some (.slice vA vn vc) := hcx 2 (by omega)
        have v2 := (hbw.out.cell (p := ⟨blk, off + k * 5 + 2, none⟩) (cell_some_lt v2)).trans v2
        have v3 : w0.cell? ⟨blk, off + k * 5 + 3, none⟩ = some (.slice rA rn rc) := hcx 3 (by omega)
        have v3 := (hbw.out.cell (p := ⟨blk, off + k * 5 + 3, none⟩) (cell_some_lt v3)).trans v3
        have v4 : w0.cell? ⟨blk, off + k * 5 + 4, none⟩ = some (.slice bA bn bc) := hcx 4 (by omega)
        have v4 := (hbw.out.cell (p := ⟨blk, off + k * 5 + 4, none⟩) (cell_some_lt v4)).trans v4
        have u0 : w0.cell? ⟨blk', off' + k * 5, none⟩ = some (.string nm') := hcy 0 (by omega)
        have u1 : w0.cell? ⟨blk', off' + k * 5 + 1, none⟩ = some (.slice pA' pn' pc') := hcy 1 (by omega)
        have u2 : w0.cell? ⟨blk', off' + k * 5 + 2, none⟩ = some (.slice vA' vn' vc') := hcy 2 (by omega)
        have u3 : w0.cell? ⟨blk', off' + k * 5 + 3, none⟩ = some (.slice rA' rn' rc') := hcy 3 (by omega)
        have u4 : w0.cell? ⟨blk', off' + k * 5 + 4, none⟩ = some (.slice bA' bn' bc') := hcy 4 (by omega)
        obtain ⟨w1, hw1⟩ : ∃ w1, wr.alloc (.cells #[.string nm, .slice pA pn pc, .slice vA vn vc, .slice rA rn rc, .slice bA bn bc] 54) = w1 := ⟨_, rfl⟩
        obtain ⟨wB, hwB⟩ : ∃ wB, w1.alloc (.cells #[.string nm', .slice pA' pn' pc', .slice vA' vn' vc', .slice rA' rn' rc', .slice bA' bn' bc'] 54) = wB := ⟨_, rfl⟩
        have hbA := hbr'.out.alloc hbr'.out.size (.cells #[.string nm, .slice pA pn pc, .slice vA vn vc, .slice rA rn rc, .slice bA bn bc] 54)
        rw [hw1] at hbA
        have hbB := hbA.alloc hbA.size (.cells #[.string nm', .slice pA' pn' pc', .slice vA' vn' vc', .slice rA' rn' rc', .slice bA' bn' bc'] 54)
        rw [hwB] at hbB
        have hbB := Lib.hid hbB
        have hs1 : w1.heap.size = wr.heap.size + 1 := by rw [← hw1]; simp
        have hx1 : w1.heap[wr.heap.size]? = some (.cells #[.string nm, .slice pA pn pc, .slice vA vn vc, .slice rA rn rc, .slice bA bn bc] 54 (0, 0)) := by rw [← hw1]; exact heap_alloc_new _ _
        have hy1 : wB.heap[w1.heap.size]? = some (.cells #[.string nm', .slice pA' pn' pc', .slice vA' vn' vc', .slice rA' rn' rc', .slice bA' bn' bc'] 54 (0, 0)) := by rw [← hwB]; exact heap_alloc_new _ _
        have hx2 : wB.heap[wr.heap.size]? = some (.cells #[.string nm, .slice pA pn pc, .slice vA vn vc, .slice rA rn rc, .slice bA bn bc] 54 (0, 0)) := by rw [← hwB, heap_alloc_old _ _ (by omega)]; exact hx1
        have p0 : wB.cell? ⟨wr.heap.size, 0, none⟩ = some (.string nm) := by rw [blk_cell hx2]; rfl
        have p1 : wB.cell? ⟨wr.heap.size, 1, none⟩ = some (.slice pA pn pc) := by rw [blk_cell hx2]; rfl
        have p2 : wB.cell? ⟨wr.heap.size, 2, none⟩ = some (.slice vA vn vc) := by rw [blk_cell hx2]; rfl
        have p3 : wB.cell? ⟨wr.heap.size, 3, none⟩ = some (.slice rA rn rc) := by rw [blk_cell hx2]; rfl
        have p4 : wB.cell? ⟨wr.heap.size, 4, none⟩ = some (.slice bA bn bc) := by rw [blk_cell hx2]; rfl
        have q0 : wB.cell? ⟨w1.heap.size, 0, none⟩ = some (.string nm') := by rw [blk_cell hy1]; rfl
        have q1 : wB.cell? ⟨w1.heap.size, 1, none⟩ = some (.slice pA' pn' pc') := by rw [blk_cell hy1]; rfl
        have q2 : wB.cell? ⟨w1.heap.size, 2, none⟩ = some (.slice vA' vn' vc') := by rw [blk_cell hy1]; rfl
        have q3 : wB.cell? ⟨w1.heap.size, 3, none⟩ = some (.slice rA' rn' rc') := by rw [blk_cell hy1]; rfl
        have q4 : wB.cell? ⟨w1.heap.size, 4, none⟩ = some (.slice bA' bn' bc') := by rw [blk_cell hy1]; rfl
        have u0 : w1.cell? ⟨blk', off' + k * 5, none⟩ = _ := ((hW'.out.trans (hbA.mono hW'.out.size)).cell (p := ⟨blk', off' + k * 5, none⟩) (cell_some_lt u0)).trans u0
        have u1 : w1.cell? ⟨blk', off' + k * 5 + 1, none⟩ = _ := ((hW'.out.trans (hbA.mono hW'.out.size)).cell (p := ⟨blk', off' + k * 5 + 1, none⟩) (cell_some_lt u1)).trans u1
        have u2 : w1.cell? ⟨blk', off' + k * 5 + 2, none⟩ = _ := ((hW'.out.trans (hbA.mono hW'.out.size)).cell (p := ⟨blk', off' + k * 5 + 2, none⟩) (cell_some_lt u2)).trans u2
        have u3 : w1.cell? ⟨blk', off' + k * 5 + 3, none⟩ = _ := ((hW'.out.trans (hbA.mono hW'.out.size)).cell (p := ⟨blk', off' + k * 5 + 3, none⟩) (cell_some_lt u3)).trans u3
        have u4 : w1.cell? ⟨blk', off' + k * 5 + 4, none⟩ = _ := ((hW'.out.trans (hbA.mono hW'.out.size)).cell (p := ⟨blk', off' + k * 5 + 4, none⟩) (cell_some_lt u4)).trans u4
        have hk2 := hc'.out k x y (⟨nm, ⟨pA, pn, pc⟩, ⟨vA, vn, vc⟩, ⟨rA, rn, rc⟩, ⟨bA, bn, bc⟩⟩ : FnC) (⟨nm', ⟨pA', pn', pc'⟩, ⟨vA', vn', vc'⟩, ⟨rA', rn', rc'⟩, ⟨bA', bn', bc'⟩⟩ : FnC) hx hy hxe hye wB (hW'.out.trans (hbB.out.mono hW'.out.size))
        obtain ⟨t, ht⟩ : ∃ t, same x y = t := ⟨_, rfl⟩
        rw [ht] at hk2
        unfold vlF at hk2
        dsimp only at hk2
        have hk2 := Lib.hid hk2
        have hx' := Lib.hid hx
        have hy' := Lib.hid hy
        have ht' := Lib.hid ht
        clear hs1 hx1 hx2 hy1 ht hx hy hbA hxe hye hcx hcy
        go_wp2_with fail
        refine hk2.out.mono ?_
        rintro e w2 ⟨rfl, hb2⟩
        have hb2' := Lib.hid (Below.next hbB.out hb2)
        clear hb2
        cases t
        · have hs := Lib.hid (show same L M = false from same_false.2 (by
            rintro rfl
            have h := hx'.out.symm.trans hy'.out
            injection h with h
            exact same_false.1 ht'.out h))
          go_wp2
          go_ret
          exact ⟨by rw [hs.out]; rfl, hb2'.out⟩
        · have hxy := Lib.hid (same_true.1 ht'.out)
          go_wp2
          go_roundg g2
          case measure => omega
          case rel => exact ⟨k + 1, by omega, by go_num, fun i hi => by
              rcases Nat.lt_or_ge i k with h | h
              · exact hall'.out i h
              · obtain rfl : i = k := by omega
                rw [hx'.out, hy'.out, hxy.out], hb2'.out⟩
  · have e1 : ¬ ((n : Int) = (m : Int)) := by omega
    have hs := Lib.hid (show same L M = false from same_false.2 (by
      rintro rfl
      exact hnm (hLn.out.symm.trans hMn.out)))
    go_enter Tryz.func89, Tryz.ntmps89
    go_wp2
    go_ret
    exact ⟨by rw [hs.out]; rfl, Below.refl _ _⟩

set_option maxRecDepth 100000 in
set_option maxHeartbeats 16000000 in
theorem same_any (w0 : World) (p q : Pg) (A B A' B' : Option Addr) (c d c' d' : Nat) (hr : CellsAt 4 cellsR w0 p.rs A) (hf : FnsAt w0 p.fs B) (hr' : CellsAt 4 cellsR w0 q.rs A') (hf' : FnsAt w0 q.fs B') (W : World) (hW : Below w0.heap.size w0 W) (hcp : cntP p ≤ 1000000) (hcq : cntP q ≤ 1000000) :
    Calls Tryz.prog 34 #[pgV p A c B d, pgV q A' c' B' d'] W (BoolPost (same p q) W) := by
  unfold cntP at hcp hcq
  have h88 := fun (W' : World) (hW' : Below w0.heap.size w0 W') => eqR_any w0 p.rs q.rs A A' hr hr' c c' W' hW' (by omega) (by omega)
  have h89 := fun (W' : World) (hW' : Below w0.heap.size w0 W') => equalF_any 85 (enters_of Tryz.func85 (by kernel_rfl) rfl) w0 p.fs q.fs B B' hf hf' d d' W' hW' (by omega) (by omega)
    (fun i x y r s hx hy hxr hys W2 hW2 => sameFn_any w0 x y r s hxr hys W2 hW2 (by have := cntF_mem hx; omega) (by have := cntF_mem hy; omega))
  rw [same_pg]
  generalize same p.rs q.rs = t1 at h88 ⊢
  generalize same p.fs q.fs = t2 at h89 ⊢
  unfold pgV
  obtain ⟨n, hn⟩ : ∃ n, p.rs.length = n := ⟨_, rfl⟩
  obtain ⟨n', hn'⟩ : ∃ n, q.rs.length = n := ⟨_, rfl⟩
  obtain ⟨m, hm⟩ : ∃ n, p.fs.length = n := ⟨_, rfl⟩
  obtain ⟨m', hm'⟩ : ∃ n, q.fs.length = n := ⟨_, rfl⟩
  rw [hn, hn'] at h88
  rw [hm, hm'] at h89
  rw [hn, hm, hn', hm']
  clear hn hm hn' hm' hr hf hr' hf' hcp hcq
  obtain ⟨W1, hW1⟩ : ∃ W1, W.alloc (.cells #[.slice A n c, .slice B m d] 39) = W1 := ⟨_, rfl⟩
  obtain ⟨W2, hW2⟩ : ∃ W2, W1.alloc (.cells #[.slice A' n' c', .slice B' m' d'] 39) = W2 := ⟨_, rfl⟩
  have hb1 : Below W.heap.size W W1 := by rw [← hW1]; exact (Below.refl _ W).alloc (Nat.le_refl _) _
  have hb2 : Below W.heap.size W W2 := by rw [← hW2]; exact hb1.alloc hb1.size _
  have hs1 : W1.heap.size = W.heap.size + 1 := by rw [← hW1]; simp
  have hx1 : W1.heap[W.heap.size]? = some (.cells #[.slice A n c, .slice B m d] 39 (0, 0)) := by rw [← hW1]; exact heap_alloc_new _ _
  have hY : W2.heap[W1.heap.size]? = some (.cells #[.slice A' n' c', .slice B' m' d'] 39 (0, 0)) := by rw [← hW2]; exact heap_alloc_new _ _
  have hX : W2.heap[W.heap.size]? = some (.cells #[.slice A n c, .slice B m d] 39 (0, 0)) := by rw [← hW2, heap_alloc_old _ _ (by omega)]; exact hx1
  obtain ⟨p0, p1⟩ := box2 hX
  obtain ⟨q0, q1⟩ := box2 hY
  have up : ∀ W', Below W2.heap.size W2 W' → Below w0.heap.size w0 W' := fun W' h => hW.trans ((Below.next hb2 h).mono hW.size)
  have h88 := Lib.hid fun W' (h : Below W2.heap.size W2 W') => h88 W' (up W' h)
  have h89 := Lib.hid fun W' (h : Below W2.heap.size W2 W') => h89 W' (up W' h)
  have hbw := Lib.hid (Below.refl W2.heap.size W2)
  have hX := Lib.hid hX
  have hY := Lib.hid hY
  have hb2 := Lib.hid hb2
  clear up hW hb1 hs1 hx1
  go_enter Tryz.func34, Tryz.ntmps34
  go_wp2_with fail
  refine (h88.out _ hbw.out).mono ?_
  rintro e w3 ⟨rfl, hbn⟩
  have hbw := Lib.hid (Below.next hbw.out hbn)
  clear hbn p0 p1 q0 q1
  cases t1
  · go_wp2
    go_ret
    exact ⟨rfl, Below.next hb2.out hbw.out⟩
  · obtain ⟨p0, p1⟩ := box2 ((hbw.out.block _ (blk_lt hX.out)).trans hX.out)
    obtain ⟨q0, q1⟩ := box2 ((hbw.out.block _ (blk_lt hY.out)).trans hY.out)
    go_wp2_with fail
    refine (h89.out _ hbw.out).mono ?_
    rintro e w4 ⟨rfl, hbn⟩
    have hbw := Lib.hid (Below.next hbw.out hbn)
    clear hbn p0 p1 q0 q1
    cases t2
    · go_wp2
      go_ret
      exact ⟨rfl, Below.next hb2.out hbw.out⟩
    · go_wp2
      go_ret
      exact ⟨rfl, Below.next hb2.out hbw.out⟩
end Go.Proofs.YtnahgfdoiflacaaGreatDoor
