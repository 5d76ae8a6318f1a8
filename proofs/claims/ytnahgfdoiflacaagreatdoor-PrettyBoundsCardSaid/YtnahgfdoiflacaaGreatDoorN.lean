/- How deep an expression is; how many arguments an operation has. -/
import Derived.Test.YtnahgfdoiflacaaGreatDoorM
set_option linter.unusedSimpArgs false
set_option linter.unusedVariables false
namespace Go.Proofs.YtnahgfdoiflacaaGreatDoor
open Go.RowKit Go.Lib Go.Shelf

/-- the greatest -/
def maxL {α : Type} (D : α → Nat) : List α → Nat
  | [] => 0
  | e :: es => max (D e) (maxL D es)
theorem maxL_take {α : Type} (D : α → Nat) {es : List α} : ∀ k {x : α}, es[k]? = some x → maxL D (es.take (k + 1)) = max (maxL D (es.take k)) (D x) := by
  induction es with
  | nil => intro k x h; cases h
  | cons e es ih =>
    intro k x h
    cases k with
    | zero => cases h; simp [maxL]
    | succ k =>
      rw [List.take_succ_cons, List.take_succ_cons, maxL, maxL, ih k h]
      omega
theorem maxL_le {α : Type} (D : α → Nat) (N : Nat) : ∀ es : List α, (∀ (i : Nat) (x : α), es[i]? = some x → D x ≤ N) → maxL D es ≤ N
  | [], _ => Nat.zero_le _
  | e :: es, h => by
    have h1 := maxL_le D N es fun i x hx => h (i + 1) x hx
    have h2 := h 0 e rfl
    rw [maxL]
    omega
theorem maxL_takele {α : Type} (D : α → Nat) : ∀ (es : List α) (k : Nat), maxL D (es.take k) ≤ maxL D es
  | [], k => by simp
  | e :: es, 0 => Nat.zero_le _
  | e :: es, k + 1 => by
    have := maxL_takele D es k
    rw [List.take_succ_cons, maxL, maxL]
    omega
theorem depL_max : ∀ es, depL es = maxL depE es
  | [] => rfl
  | e :: es => by rw [depL, maxL, depL_max es]

set_option maxRecDepth 100000 in
set_option maxHeartbeats 4000000 in
theorem most_any (g : Nat) (hent : ∀ args w, (callFunc g args).run Tryz.prog w = .ok (.enter g args) w) (D : Ex → Nat) (w0 : World) (ars : List Ex) (A : Option Addr) (h : ExsAt w0 ars A) (c : Nat) (W : World)
    (hW : Below w0.heap.size w0 W) (hn : ars.length ≤ 1000000) (hD : maxL D ars ≤ 1000000)
    (hc : ∀ (i : Nat) (x : Ex) (B : Option Addr), ars[i]? = some x → ExAt w0 x B → ∀ (C : Nat) (W' : World), Below w0.heap.size w0 W' → Calls Tryz.prog g #[exV x B C] W' (IntPost (D x) W')) :
    Calls Tryz.prog 45 #[.slice A ars.length c, .func (.func g) #[] #[]] W (IntPost (maxL D ars) W) := by
  have hs := Lib.hid h
  have hc' := Lib.hid hc
  have hW' := Lib.hid hW
  obtain ⟨n, hnn⟩ : ∃ n, ars.length = n := ⟨_, rfl⟩
  have hD' := Lib.hid hD
  rw [hnn] at hn ⊢
  have hn' := Lib.hid hnn
  clear hc hW hnn h hD
  go_enter Tryz.func45, Tryz.ntmps45
  go_wp2_with fail
  go_loopg [5, 10] n (fun g s5 s10 wr => ∃ k : Nat, k + g = n ∧ s10 = .int .i64 k ∧ s5 = .int .i64 (maxL D (ars.take k) : Nat) ∧ Below W.heap.size W wr)
  case atStart => exact ⟨0, by omega, rfl, rfl, Below.refl _ _⟩
  case round =>
    obtain ⟨k, hkg, rfl, rfl, hb⟩ := hrel
    have hb := Lib.hid hb
    cases gk with
    | zero =>
      have e0 : ¬ (k : Int) < (n : Int) := by omega
      have hfin := Lib.hid (show maxL D (ars.take k) = maxL D ars by rw [List.take_of_length_le (by rw [hn'.out]; omega)])
      go_wp2
      go_ret
      exact ⟨by rw [hfin.out]; rfl, hb.out⟩
    | succ g2 =>
      have e0 : (k : Int) < (n : Int) := by omega
      obtain ⟨blk, off, x, B, C, rfl, hx, v0, v1, v2, v3, hxe⟩ := (hs.out).at_ (k := k) (by rw [hn'.out]; omega)
      have hbw := Lib.hid (hW'.out.trans (hb.out.mono hW'.out.size))
      have v0 := (hbw.out.cell (p := ⟨blk, off + k * 4, none⟩) (cell_some_lt v0)).trans v0
      have v1 := (hbw.out.cell (p := ⟨blk, off + k * 4 + 1, none⟩) (cell_some_lt v1)).trans v1
      have v2 := (hbw.out.cell (p := ⟨blk, off + k * 4 + 2, none⟩) (cell_some_lt v2)).trans v2
      have v3 := (hbw.out.cell (p := ⟨blk, off + k * 4 + 3, none⟩) (cell_some_lt v3)).trans v3
      have hcl := hc'.out k x B hx hxe C
      unfold exV at hcl
      have hcl := Lib.hid hcl
      have hnx := Lib.hid (maxL_take D k hx)
      have hle : maxL D (ars.take (k + 1)) ≤ 1000000 := Nat.le_trans (maxL_takele D ars (k + 1)) hD'.out
      have hle0 : maxL D (ars.take k) ≤ 1000000 := Nat.le_trans (maxL_takele D ars k) hD'.out
      rw [hnx.out] at hle
      clear hx hxe
      go_wp2_with fail
      refine (hcl.out _ (by exact hbw.out.alloc (hbw.out.size) _)).mono ?_
      rintro e w2 ⟨rfl, hb2⟩
      have hb2 := Lib.hid (Below.next (hb.out.alloc hb.out.size _) hb2)
      go_wp2
      go_roundg g2
      case measure => omega
      case rel => exact ⟨k + 1, by omega, by go_num, by rw [hnx.out]; go_num, hb2.out⟩

set_option maxRecDepth 100000 in
set_option maxHeartbeats 4000000 in
theorem depth_any (w0 : World) (e : Ex) (A : Option Addr) (h : ExAt w0 e A) (hq : cntE e ≤ 30000) : ∀ (c : Nat) (W : World), Below w0.heap.size w0 W →
    Calls Tryz.prog 13 #[exV e A c] W (IntPost ((depE e : Nat) : Int) W) := by
  refine ExAt.all (M := fun e A => cntE e ≤ 30000 → ∀ (c : Nat) (W : World), Below w0.heap.size w0 W → Calls Tryz.prog 13 #[exV e A c] W (IntPost ((depE e : Nat) : Int) W)) ?_ e A h hq
  intro e A he ih hq c W hW
  obtain ⟨op, u, nm, ars⟩ := e
  have hdl : depE (.node op u nm ars) ≤ cntE (.node op u nm ars) := depE_le _
  have hln := len_cnt ars
  rw [cntE] at hq
  rw [depE, cntE] at hdl
  rw [depE]
  have hm := most_any 13 (enters_of Tryz.func13 (by kernel_rfl) rfl) depE w0 ars A he.args c (W.alloc (.cells #[.int .i64 op, .int .u64 u, .string nm, .slice A ars.length c] 26)) (hW.alloc hW.size _) (by omega) (by rw [← depL_max]; omega)
    (fun i x B hx hxe C W' hW' => ih i x B hx hxe (by have := cnt_mem (ars := ars) hx; omega) C W' hW')
  rw [← depL_max] at hm
  have hm := Lib.hid hm
  have hdl' : depL ars ≤ 100000 := by omega
  unfold exV
  dsimp only [Ex.op, Ex.u, Ex.nm, Ex.ars]
  clear ih hW h he hdl hq hln
  go_enter Tryz.func13, Tryz.ntmps13
  go_wp2_with fail
  refine hm.out.mono ?_
  rintro e w1 ⟨rfl, hb⟩
  have hb := Lib.hid hb
  go_wp2
  go_ret
  exact ⟨by go_num, Below.next ((Below.refl _ W).alloc (Nat.le_refl _) _) hb.out⟩

set_option maxRecDepth 100000 in
set_option maxHeartbeats 4000000 in
theorem refDepth_any (w0 : World) (e : Ex) (A : Option Addr) (h : ExAt w0 e A) (hq : cntE e ≤ 30000) : ∀ (c : Nat) (W : World), Below w0.heap.size w0 W →
    Calls Tryz.prog 14 #[exV e A c] W (IntPost ((depE e : Nat) : Int) W) := by
  refine ExAt.all (M := fun e A => cntE e ≤ 30000 → ∀ (c : Nat) (W : World), Below w0.heap.size w0 W → Calls Tryz.prog 14 #[exV e A c] W (IntPost ((depE e : Nat) : Int) W)) ?_ e A h hq
  intro e A he ih hq c W hW
  obtain ⟨op, u, nm, ars⟩ := e
  have hdl : depE (.node op u nm ars) ≤ cntE (.node op u nm ars) := depE_le _
  have hln := len_cnt ars
  rw [cntE] at hq
  rw [depE, cntE, depL_max] at hdl
  rw [depE, depL_max]
  have hs := Lib.hid (show ExsAt w0 ars A from he.args)
  have ih' := Lib.hid (show ∀ (i : Nat) (x : Ex) (B : Option Addr), ars[i]? = some x → ExAt w0 x B → ∀ (C : Nat) (W' : World), Below w0.heap.size w0 W' → Calls Tryz.prog 14 #[exV x B C] W' (IntPost ((depE x : Nat) : Int) W') from
    fun i x B hx hxe C W' hW' => ih i x B hx hxe (by have := cnt_mem (ars := ars) hx; omega) C W' hW')
  have hdl' := Lib.hid (show maxL depE ars ≤ 100000 by omega)
  have hW' := Lib.hid hW
  unfold exV
  dsimp only [Ex.op, Ex.u, Ex.nm, Ex.ars]
  obtain ⟨n, hn⟩ : ∃ n, ars.length = n := ⟨_, rfl⟩
  have hnb : n ≤ 30000 := by omega
  rw [hn]
  obtain ⟨W1, hW1⟩ : ∃ W1, W.alloc (.cells #[.int .i64 op, .int .u64 u, .string nm, .slice A n c] 26) = W1 := ⟨_, rfl⟩
  have hb1 : Below W.heap.size W W1 := by rw [← hW1]; exact (Below.refl _ W).alloc (Nat.le_refl _) _
  have hx1 : W1.heap[W.heap.size]? = some (.cells #[.int .i64 op, .int .u64 u, .string nm, .slice A n c] 26 (0, 0)) := by rw [← hW1]; exact heap_alloc_new _ _
  have hb1 := Lib.hid hb1
  have hx1 := Lib.hid hx1
  have hn' := Lib.hid hn
  have hW1' := Lib.hid hW1
  clear he ih hW hn hW1 h hdl hq hln
  go_enter Tryz.func14, Tryz.ntmps14
  go_wp2_with fail
  rw [hW1'.out]
  go_loopg [3, 4] n (fun g s3 s4 wr => ∃ k : Nat, k + g = n ∧ s4 = .int .i64 k ∧ s3 = .int .i64 (maxL depE (ars.take k) : Nat) ∧ Below W1.heap.size W1 wr)
  case atStart => exact ⟨0, by omega, rfl, rfl, Below.refl _ _⟩
  case round =>
    obtain ⟨k, hkg, rfl, rfl, hb⟩ := hrel
    have hb := Lib.hid hb
    obtain ⟨g0, g1, g2, g3, gf⟩ := box4 ((hb.out.block W.heap.size (blk_lt hx1.out)).trans hx1.out)
    cases gk with
    | zero =>
      have e0 : ¬ (k : Int) < (n : Int) := by omega
      have hfin := Lib.hid (show maxL depE (ars.take k) = maxL depE ars by rw [List.take_of_length_le (by rw [hn'.out]; omega)])
      have ew : IntKind.i64.wrap (((maxL depE (ars.take k) : Nat) : Int) + 1) = ((maxL depE ars + 1 : Nat) : Int) := by rw [IntKind.wrap_i64, hfin.out]; have := hdl'.out; omega
      go_wp2
      go_ret
      exact ⟨rfl, Below.next hb1.out hb.out⟩
    | succ g =>
      have e0 : (k : Int) < (n : Int) := by omega
      obtain ⟨blk, off, x, B, C, rfl, hx, v0, v1, v2, v3, hxe⟩ := (hs.out).at_ (k := k) (by rw [hn'.out]; omega)
      have hbw := Lib.hid (hW'.out.trans (((Below.next hb1.out hb.out)).mono hW'.out.size))
      have v0 := (hbw.out.cell (p := ⟨blk, off + k * 4, none⟩) (cell_some_lt v0)).trans v0
      have v1 := (hbw.out.cell (p := ⟨blk, off + k * 4 + 1, none⟩) (cell_some_lt v1)).trans v1
      have v2 := (hbw.out.cell (p := ⟨blk, off + k * 4 + 2, none⟩) (cell_some_lt v2)).trans v2
      have v3 := (hbw.out.cell (p := ⟨blk, off + k * 4 + 3, none⟩) (cell_some_lt v3)).trans v3
      have hc := ih'.out k x B hx hxe C wr hbw.out
      unfold exV at hc
      have hc := Lib.hid hc
      have hnx := Lib.hid (maxL_take depE k hx)
      have hle : maxL depE (ars.take (k + 1)) ≤ 100000 := Nat.le_trans (maxL_takele depE ars (k + 1)) hdl'.out
      have hle0 : maxL depE (ars.take k) ≤ 100000 := Nat.le_trans (maxL_takele depE ars k) hdl'.out
      rw [hnx.out] at hle
      clear hx hxe
      go_wp2_with fail
      refine hc.out.mono ?_
      rintro e w2 ⟨rfl, hb2⟩
      have hb2 := Lib.hid (hb.out.trans (hb2.mono hb.out.size))
      go_wp2
      go_roundg g
      case measure => omega
      case rel => exact ⟨k + 1, by omega, by go_num, by rw [hnx.out]; go_num, hb2.out⟩

theorem args_cases (op : Int) : op < 1 ∨ op = 1 ∨ op = 2 ∨ op = 3 ∨ op = 4 ∨ op = 5 ∨ (6 ≤ op ∧ op ≤ 20) ∨ op = 21 ∨ 21 < op := by omega
set_option maxRecDepth 100000 in
set_option maxHeartbeats 4000000 in
theorem args_any (op : Int) (w : World) : Calls Tryz.prog 94 #[.int .i64 op] w fun e w' => e = .returned (.int .i64 (argsN op)) ∧ w = w' := by
  have neq : ∀ {a b : Int}, a ≠ b → (a == b) = false := fun h => by simpa using h
  unfold argsN
  rcases args_cases op with h | rfl | rfl | rfl | rfl | rfl | ⟨h, h2⟩ | rfl | h
  case inl =>
    rw [if_neg (by omega), if_neg (by omega), if_neg (by omega), if_neg (by omega)]
    have a1 := neq (show op ≠ 1 by omega)
    have a2 := neq (show op ≠ 2 by omega)
    have a3 : ¬ 3 ≤ op := by omega
    have a4 : ¬ 6 ≤ op := by omega
    have a5 := neq (show op ≠ 21 by omega)
    clear h
    go_enter Tryz.func94, Tryz.ntmps94
    go_wp2
    go_ret
    exact ⟨rfl, rfl⟩
  case inr.inr.inr.inr.inr.inr.inl =>
    rw [if_neg (by omega), if_neg (by omega), if_pos (by omega)]
    have a1 := neq (show op ≠ 1 by omega)
    have a2 := neq (show op ≠ 2 by omega)
    have a3 : 3 ≤ op := by omega
    have a4 : ¬ op ≤ 5 := by omega
    go_enter Tryz.func94, Tryz.ntmps94
    go_wp2
    go_ret
    exact ⟨rfl, rfl⟩
  case inr.inr.inr.inr.inr.inr.inr.inr =>
    rw [if_neg (by omega), if_neg (by omega), if_neg (by omega), if_neg (by omega)]
    have a1 := neq (show op ≠ 1 by omega)
    have a2 := neq (show op ≠ 2 by omega)
    have a3 : 3 ≤ op := by omega
    have a4 : ¬ op ≤ 5 := by omega
    have a5 : 6 ≤ op := by omega
    have a6 : ¬ op ≤ 20 := by omega
    have a7 := neq (show op ≠ 21 by omega)
    clear h
    go_enter Tryz.func94, Tryz.ntmps94
    go_wp2
    go_ret
    exact ⟨rfl, rfl⟩
  all_goals
    clear neq
    go_enter Tryz.func94, Tryz.ntmps94
    go_wp2
    go_ret
    exact ⟨rfl, rfl⟩
/-- the reference's: of operations that are no constant, no variable, no index -/
def argsR (op : Int) : Int := if op = 4 ∨ op = 5 then 1 else if 6 ≤ op ∧ op ≤ 20 then 2 else if op = 21 then 3 else -1
set_option maxRecDepth 100000 in
set_option maxHeartbeats 4000000 in
theorem refArgs_any (op : Int) (w : World) : Calls Tryz.prog 97 #[.int .i64 op] w fun e w' => e = .returned (.int .i64 (argsR op)) ∧ w = w' := by
  have neq : ∀ {a b : Int}, a ≠ b → (a == b) = false := fun h => by simpa using h
  unfold argsR
  rcases args_cases op with h | rfl | rfl | rfl | rfl | rfl | ⟨h, h2⟩ | rfl | h
  case inl =>
    rw [if_neg (by omega), if_neg (by omega), if_neg (by omega)]
    have a1 := neq (show op ≠ 4 by omega)
    have a2 := neq (show op ≠ 5 by omega)
    have a4 : ¬ 6 ≤ op := by omega
    have a5 := neq (show op ≠ 21 by omega)
    clear h
    go_enter Tryz.func97, Tryz.ntmps97
    go_wp2
    go_ret
    exact ⟨rfl, rfl⟩
  case inr.inr.inr.inr.inr.inr.inl =>
    rw [if_neg (by omega), if_pos (by omega)]
    have a1 := neq (show op ≠ 4 by omega)
    have a2 := neq (show op ≠ 5 by omega)
    go_enter Tryz.func97, Tryz.ntmps97
    go_wp2
    go_ret
    exact ⟨rfl, rfl⟩
  case inr.inr.inr.inr.inr.inr.inr.inr =>
    rw [if_neg (by omega), if_neg (by omega), if_neg (by omega)]
    have a1 := neq (show op ≠ 4 by omega)
    have a2 := neq (show op ≠ 5 by omega)
    have a5 : 6 ≤ op := by omega
    have a6 : ¬ op ≤ 20 := by omega
    have a7 := neq (show op ≠ 21 by omega)
    clear h
    go_enter Tryz.func97, Tryz.ntmps97
    go_wp2
    go_ret
    exact ⟨rfl, rfl⟩
  all_goals
    clear neq
    go_enter Tryz.func97, Tryz.ntmps97
    go_wp2
    go_ret
    exact ⟨rfl, rfl⟩
end Go.Proofs.YtnahgfdoiflacaaGreatDoor
