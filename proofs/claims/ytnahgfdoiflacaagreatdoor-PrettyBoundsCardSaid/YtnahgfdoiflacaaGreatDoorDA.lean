/- How deep statements are: the model; none, most over statements. -/
import Derived.Test.YtnahgfdoiflacaaGreatDoorCB
import Derived.Test.YtnahgfdoiflacaaGreatDoorN
import Derived.Test.YtnahgfdoiflacaaGreatDoorD
import Derived.Deep.Cut
set_option linter.unusedSimpArgs false
set_option linter.unusedVariables false
namespace Go.Proofs.YtnahgfdoiflacaaGreatDoor
open Go.RowKit Go.Lib Go.Shelf

def noneN (op : Int) (u : Nat) (nm : ByteArray) (n : Nat) : Bool := decide (op = 0) && (decide (u = 0) && (decide (nm.size = 0) && decide (n = 0)))
def noneE (e : Ex) : Bool := noneN e.op e.u e.nm e.ars.length
def depO (e : Ex) : Nat := if noneE e then 0 else depE e
mutual
def depS : St → Nat | .node _ _ _ e a ars _ _ bd el => 1 + max (max (depL ars) (max (depO e) (depO a))) (max (depSs bd) (depSs el))
def depSs : List St → Nat
  | [] => 0
  | s :: r => max (depS s) (depSs r)
end
theorem depSs_max : ∀ L : List St, depSs L = maxL depS L
  | [] => by rw [depSs, maxL]
  | s :: r => by rw [depSs, maxL, depSs_max r]
theorem depS_eq (x : St) : depS x = 1 + max (max (depL x.ars) (max (depO x.e) (depO x.a))) (max (depSs x.bd) (depSs x.el)) := by cases x; rw [depS]; rfl
theorem depL_le (L : List Ex) : depL L ≤ cntL L := by
  rw [depL_max]
  refine maxL_le depE _ L fun i x h => ?_
  have := cnt_mem h
  have := depE_le x
  omega
theorem depO_le (e : Ex) : depO e ≤ cntE e := by
  unfold depO
  have := depE_le e
  split <;> omega
theorem depSs_le : ∀ n (L : List St), cntSs L ≤ n → depSs L ≤ cntSs L := by
  intro n
  induction n with
  | zero =>
    intro L h
    cases L with
    | nil => simp [depSs]
    | cons s r => have := cntS_pos s; rw [cntSs] at h; omega
  | succ n ih =>
    intro L h
    rw [depSs_max]
    refine maxL_le depS _ L fun i x hx => ?_
    have h1 := cntS_mem hx
    have h2 := cntS_bd x
    rw [depS_eq]
    have h3 := ih x.bd (by omega)
    have h4 := ih x.el (by omega)
    have h5 := depL_le x.ars
    have h6 := depO_le x.e
    have h7 := depO_le x.a
    omega
theorem depSs_cnt (L : List St) : depSs L ≤ cntSs L := depSs_le _ L (Nat.le_refl _)
theorem depS_cnt (x : St) : depS x ≤ cntS x := by
  have h2 := cntS_bd x
  rw [depS_eq]
  have h3 := depSs_cnt x.bd
  have h4 := depSs_cnt x.el
  have h5 := depL_le x.ars
  have h6 := depO_le x.e
  have h7 := depO_le x.a
  omega

set_option maxRecDepth 100000 in
set_option maxHeartbeats 4000000 in
theorem none_any (x : Ex) (A : Option Addr) (c : Nat) (W : World) (hx : x.ars.length ≤ 1000000) : Calls Tryz.prog 128 #[exV x A c] W (BoolPost (noneE x) W) := by
  obtain ⟨op, u, nm, ars⟩ := x
  rw [show noneE (.node op u nm ars) = noneN op u nm ars.length from rfl]
  unfold exV
  dsimp only [Ex.op, Ex.u, Ex.nm, Ex.ars] at hx ⊢
  obtain ⟨n, hn⟩ : ∃ n, ars.length = n := ⟨_, rfl⟩
  rw [hn] at hx ⊢
  clear hn
  unfold noneN
  obtain ⟨W1, hW1⟩ : ∃ W1, W.alloc (.cells #[.int .i64 op, .int .u64 u, .string nm, .slice A n c] 26) = W1 := ⟨_, rfl⟩
  have hb1 : Below W.heap.size W W1 := by rw [← hW1]; exact (Below.refl _ W).alloc (Nat.le_refl _) _
  have hx1 : W1.heap[W.heap.size]? = some (.cells #[.int .i64 op, .int .u64 u, .string nm, .slice A n c] 26 (0, 0)) := by rw [← hW1]; exact heap_alloc_new _ _
  obtain ⟨p0, p1, p2, p3, _⟩ := box4 hx1
  have hb1 := Lib.hid hb1
  have e1 : decide (op = 0) = (op == 0) := rfl
  have e2 : decide (u = 0) = ((u : Int) == 0) := by
    by_cases h : u = 0
    · subst h; rfl
    · have : ¬ (u : Int) = 0 := by omega
      simp [h, this]
  have e3 : decide (nm.size = 0) = nm.toList.isEmpty := (empty_iff nm).symm
  have e4 : decide (n = 0) = ((n : Int) == 0) := by
    by_cases h : n = 0
    · subst h; rfl
    · have : ¬ (n : Int) = 0 := by omega
      simp [h, this]
  rw [e1, e2, e3, e4]
  clear e1 e2 e3 e4 hx1
  obtain ⟨b1, h1⟩ : ∃ b, (op == 0) = b := ⟨_, rfl⟩
  obtain ⟨b2, h2⟩ : ∃ b, ((u : Int) == 0) = b := ⟨_, rfl⟩
  obtain ⟨b3, h3⟩ : ∃ b, nm.toList.isEmpty = b := ⟨_, rfl⟩
  obtain ⟨b4, h4⟩ : ∃ b, ((n : Int) == 0) = b := ⟨_, rfl⟩
  rw [h1, h2, h3, h4]
  cases b1
  · go_enter Tryz.func128, Tryz.ntmps128
    go_wp2
    go_ret
    exact ⟨rfl, hb1.out⟩
  · cases b2
    · go_enter Tryz.func128, Tryz.ntmps128
      go_wp2
      go_ret
      exact ⟨rfl, hb1.out⟩
    · cases b3
      · go_enter Tryz.func128, Tryz.ntmps128
        go_wp2
        go_ret
        exact ⟨rfl, hb1.out⟩
      · cases b4
        all_goals
          go_enter Tryz.func128, Tryz.ntmps128
          go_wp2
          go_ret
          exact ⟨rfl, hb1.out⟩

set_option maxRecDepth 100000 in
set_option maxHeartbeats 4000000 in
theorem refNone_any (x : Ex) (A : Option Addr) (c : Nat) (W : World) (hx : x.ars.length ≤ 1000000) : Calls Tryz.prog 167 #[exV x A c] W (BoolPost (noneE x) W) := by
  obtain ⟨op, u, nm, ars⟩ := x
  rw [show noneE (.node op u nm ars) = noneN op u nm ars.length from rfl]
  unfold exV
  dsimp only [Ex.op, Ex.u, Ex.nm, Ex.ars] at hx ⊢
  obtain ⟨n, hn⟩ : ∃ n, ars.length = n := ⟨_, rfl⟩
  rw [hn] at hx ⊢
  clear hn
  unfold noneN
  obtain ⟨W1, hW1⟩ : ∃ W1, W.alloc (.cells #[.int .i64 op, .int .u64 u, .string nm, .slice A n c] 26) = W1 := ⟨_, rfl⟩
  have hb1 : Below W.heap.size W W1 := by rw [← hW1]; exact (Below.refl _ W).alloc (Nat.le_refl _) _
  have hx1 : W1.heap[W.heap.size]? = some (.cells #[.int .i64 op, .int .u64 u, .string nm, .slice A n c] 26 (0, 0)) := by rw [← hW1]; exact heap_alloc_new _ _
  obtain ⟨p0, p1, p2, p3, _⟩ := box4 hx1
  have hb1 := Lib.hid hb1
  have e1 : decide (op = 0) = (op == 0) := rfl
  have e2 : decide (u = 0) = ((u : Int) == 0) := by
    by_cases h : u = 0
    · subst h; rfl
    · have : ¬ (u : Int) = 0 := by omega
      simp [h, this]
  have e3 : decide (nm.size = 0) = nm.toList.isEmpty := (empty_iff nm).symm
  have e4 : decide (n = 0) = ((n : Int) == 0) := by
    by_cases h : n = 0
    · subst h; rfl
    · have : ¬ (n : Int) = 0 := by omega
      simp [h, this]
  rw [e1, e2, e3, e4]
  clear e1 e2 e3 e4 hx1
  obtain ⟨b1, h1⟩ : ∃ b, (op == 0) = b := ⟨_, rfl⟩
  obtain ⟨b2, h2⟩ : ∃ b, ((u : Int) == 0) = b := ⟨_, rfl⟩
  obtain ⟨b3, h3⟩ : ∃ b, nm.toList.isEmpty = b := ⟨_, rfl⟩
  obtain ⟨b4, h4⟩ : ∃ b, ((n : Int) == 0) = b := ⟨_, rfl⟩
  rw [h1, h2, h3, h4]
  cases b1
  · go_enter Tryz.func167, Tryz.ntmps167
    go_wp2
    go_ret
    exact ⟨rfl, hb1.out⟩
  · cases b2
    · go_enter Tryz.func167, Tryz.ntmps167
      go_wp2
      go_ret
      exact ⟨rfl, hb1.out⟩
    · cases b3
      · go_enter Tryz.func167, Tryz.ntmps167
        go_wp2
        go_ret
        exact ⟨rfl, hb1.out⟩
      · cases b4
        all_goals
          go_enter Tryz.func167, Tryz.ntmps167
          go_wp2
          go_ret
          exact ⟨rfl, hb1.out⟩

set_option maxRecDepth 100000 in
set_option maxHeartbeats 8000000 in
theorem mostT_any (g : Nat) (hent : ∀ args w, (callFunc g args).run Tryz.prog w = .ok (.enter g args) w) (D : St → Nat) (w0 : World) (L : List St) (A : Option Addr) (h : StsAt w0 L A) (c : Nat) (W : World)
    (hW : Below w0.heap.size w0 W) (hn : L.length ≤ 1000000) (hD : maxL D L ≤ 1000000)
    (hc : ∀ (i : Nat) (x : St) (r : StC), L[i]? = some x → SNow w0 x r → StsAt w0 x.bd r.bd.a → StsAt w0 x.el r.el.a → ∀ (W' : World), Below w0.heap.size w0 W' → Calls Tryz.prog g #[vlT r] W' (IntPost (D x) W')) :
    Calls Tryz.prog 79 #[.slice A L.length c, .func (.func g) #[] #[]] W (IntPost (maxL D L) W) := by
  have hs := Lib.hid h
  have hc' := Lib.hid hc
  have hW' := Lib.hid hW
  obtain ⟨n, hnn⟩ : ∃ n, L.length = n := ⟨_, rfl⟩
  have hD' := Lib.hid hD
  rw [hnn] at hn ⊢
  have hn' := Lib.hid hnn
  clear hc hW hnn h hD
  go_enter Tryz.func79, Tryz.ntmps79
  go_wp2_with fail
  go_loopg [5, 10] n (fun g s5 s10 wr => ∃ k : Nat, k + g = n ∧ s10 = .int .i64 k ∧ s5 = .int .i64 (maxL D (L.take k) : Nat) ∧ Below W.heap.size W wr)
  case atStart => exact ⟨0, by omega, rfl, rfl, Below.refl _ _⟩
  case round =>
    obtain ⟨k, hkg, rfl, rfl, hb⟩ := hrel
    have hb := Lib.hid hb
    cases gk with
    | zero =>
      have e0 : ¬ (k : Int) < (n : Int) := by omega
      have hfin := Lib.hid (show maxL D (L.take k) = maxL D L by rw [List.take_of_length_le (by rw [hn'.out]; omega)])
      go_wp2
      go_ret
      exact ⟨by rw [hfin.out]; rfl, hb.out⟩
    | succ g2 =>
      have e0 : (k : Int) < (n : Int) := by omega
      have hbw := Lib.hid (hW'.out.trans (hb.out.mono hW'.out.size))
      obtain ⟨blk, off, x, r, rfl, hx, hcx, hxe, hxb, hxl⟩ := (hs.out).at_ (k := k) (by rw [hn'.out]; omega)
      have hcl := hc'.out k x r hx hxe hxb hxl
      obtain ⟨kd, nm, ⟨nA, nn, nc⟩, ⟨eo, eu, en, ⟨eA, ek, ec⟩⟩, ⟨ao, au, an, ⟨aA, ak, ac⟩⟩, ⟨gA, gn, gc⟩, lo, hi, ⟨bA, bn, bc⟩, ⟨lA, ln, lc⟩⟩ := r
      unfold vlT at hcl
      dsimp only at hcl
      have v0 : w0.cell? ⟨blk, off + k * 16, none⟩ = some (.int .i64 kd) := hcx 0 (by omega)
      have v0 := (hbw.out.cell (p := ⟨blk, off + k * 16, none⟩) (cell_some_lt v0)).trans v0
      have v1 : w0.cell? ⟨blk, off + k * 16 + 1, none⟩ = some (.string nm) := hcx 1 (by omega)
      have v1 := (hbw.out.cell (p := ⟨blk, off + k * 16 + 1, none⟩) (cell_some_lt v1)).trans v1
      have v2 : w0.cell? ⟨blk, off + k * 16 + 2, none⟩ = some (.slice nA nn nc) := hcx 2 (by omega)
      have v2 := (hbw.out.cell (p := ⟨blk, off + k * 16 + 2, none⟩) (cell_some_lt v2)).trans v2
      have v3 : w0.cell? ⟨blk, off + k * 16 + 3, none⟩ = some (.int .i64 eo) := hcx 3 (by omega)
      have v3 := (hbw.out.cell (p := ⟨blk, off + k * 16 + 3, none⟩) (cell_some_lt v3)).trans v3
      have v4 : w0.cell? ⟨blk, off + k * 16 + 4, none⟩ = some (.int .u64 eu) := hcx 4 (by omega)
      have v4 := (hbw.out.cell (p := ⟨blk, off + k * 16 + 4, none⟩) (cell_some_lt v4)).trans v4
      have v5 : w0.cell? ⟨blk, off + k * 16 + 5, none⟩ = some (.string en) := hcx 5 (by omega)
      have v5 := (hbw.out.cell (p := ⟨blk, off + k * 16 + 5, none⟩) (cell_some_lt v5)).trans v5
      have v6 : w0.cell? ⟨blk, off + k * 16 + 6, none⟩ = some (.slice eA ek ec) := hcx 6 (by omega)
      have v6 := (hbw.out.cell (p := ⟨blk, off + k * 16 + 6, none⟩) (cell_some_lt v6)).trans v6
      have v7 : w0.cell? ⟨blk, off + k * 16 + 7, none⟩ = some (.int .i64 ao) := hcx 7 (by omega)
      have v7 := (hbw.out.cell (p := ⟨blk, off + k * 16 + 7, none⟩) (cell_some_lt v7)).trans v7
      have v8 : w0.cell? ⟨blk, off + k * 16 + 8, none⟩ = some (.int .u64 au) := hcx 8 (by omega)
      have v8 := (hbw.out.cell (p := ⟨blk, off + k * 16 + 8, none⟩) (cell_some_lt v8)).trans v8
      have v9 : w0.cell? ⟨blk, off + k * 16 + 9, none⟩ = some (.string an) := hcx 9 (by omega)
      have v9 := (hbw.out.cell (p := ⟨blk, off + k * 16 + 9, none⟩) (cell_some_lt v9)).trans v9
      have v10 : w0.cell? ⟨blk, off + k * 16 + 10, none⟩ = some (.slice aA ak ac) := hcx 10 (by omega)
      have v10 := (hbw.out.cell (p := ⟨blk, off + k * 16 + 10, none⟩) (cell_some_lt v10)).trans v10
      have v11 : w0.cell? ⟨blk, off + k * 16 + 11, none⟩ = some (.slice gA gn gc) := hcx 11 (by omega)
      have v11 := (hbw.out.cell (p := ⟨blk, off + k * 16 + 11, none⟩) (cell_some_lt v11)).trans v11
      have v12 : w0.cell? ⟨blk, off + k * 16 + 12, none⟩ = some (.int .u64 lo) := hcx 12 (by omega)
      have v12 := (hbw.out.cell (p := ⟨blk, off + k * 16 + 12, none⟩) (cell_some_lt v12)).trans v12
      have v13 : w0.cell? ⟨blk, off + k * 16 + 13, none⟩ = some (.int .u64 hi) := hcx 13 (by omega)
      have v13 := (hbw.out.cell (p := ⟨blk, off + k * 16 + 13, none⟩) (cell_some_lt v13)).trans v13
      have v14 : w0.cell? ⟨blk, off + k * 16 + 14, none⟩ = some (.slice bA bn bc) := hcx 14 (by omega)
      have v14 := (hbw.out.cell (p := ⟨blk, off + k * 16 + 14, none⟩) (cell_some_lt v14)).trans v14
      have v15 : w0.cell? ⟨blk, off + k * 16 + 15, none⟩ = some (.slice lA ln lc) := hcx 15 (by omega)
      have v15 := (hbw.out.cell (p := ⟨blk, off + k * 16 + 15, none⟩) (cell_some_lt v15)).trans v15
      have hcl := Lib.hid hcl
      have hnx := Lib.hid (maxL_take D k hx)
      have hle : maxL D (L.take (k + 1)) ≤ 1000000 := Nat.le_trans (maxL_takele D L (k + 1)) hD'.out
      have hle0 : maxL D (L.take k) ≤ 1000000 := Nat.le_trans (maxL_takele D L k) hD'.out
      rw [hnx.out] at hle
      clear hx hxe hxb hxl hcx
      go_upto_region 5 with fail
      as_aux_lemma =>
        clear v0 v1 v2 v3 v4 v5 v6 v7 v8 v9 v10 v11 v12 v13 v14 v15
        go_wp2_with fail
        refine (hcl.out _ (by exact hbw.out.alloc (hbw.out.size) _)).mono ?_
        rintro e w2 ⟨rfl, hb2⟩
        have hb2 := Lib.hid (Below.next (hb.out.alloc hb.out.size _) hb2)
        go_wp2
        go_roundg g2
        case measure => omega
        case rel => exact ⟨k + 1, by omega, by go_num, by rw [hnx.out]; go_num, hb2.out⟩
end Go.Proofs.YtnahgfdoiflacaaGreatDoor
