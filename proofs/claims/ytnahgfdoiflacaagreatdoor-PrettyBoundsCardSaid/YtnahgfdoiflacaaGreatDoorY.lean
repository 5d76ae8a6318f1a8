/- known. -/
import Derived.Test.YtnahgfdoiflacaaGreatDoorX
set_option linter.unusedSimpArgs false
set_option linter.unusedVariables false
namespace Go.Proofs.YtnahgfdoiflacaaGreatDoor
open Go.RowKit Go.Lib Go.Shelf

theorem ExAt.leaf {w : World} (op : Int) (u : Nat) (nm : ByteArray) (A : Option Addr) : ExAt w (.node op u nm []) A :=
  .mk 0 0 (fun _ => none) (fun _ => 0) (fun h => absurd h (by simp)) (fun i x hx => by simp at hx) (fun i x hx => by simp at hx) (fun i x hx => by simp at hx)
def exCells (x : Ex) (B : Option Addr) (C : Nat) : List Value := [.int .i64 x.op, .int .u64 x.u, .string x.nm, .slice B x.ars.length C]
theorem ExAt.row {w : World} {op : Int} {u : Nat} {nm : ByteArray} {ars : List Ex} (blk : Nat) (B : Nat → Option Addr) (C : Nat → Nat) {cs : Array Value} {t : TypeId} (h : w.heap[blk]? = some (.cells cs t (0, 0)))
    (hc : ∀ i x, ars[i]? = some x → ∀ j, j < 4 → cs[i * 4 + j]? = (exCells x (B i) (C i))[j]?) (hu : ∀ (i : Nat) (x : Ex), ars[i]? = some x → x.u < 18446744073709551616) (hr : ∀ (i : Nat) (x : Ex), ars[i]? = some x → ExAt w x (B i)) :
    ExAt w (.node op u nm ars) (some ⟨blk, 0, none⟩) := by
  refine .mk blk 0 B C (fun _ => rfl) (fun i x hx => ?_) hu hr
  have k := hc i x hx
  refine ⟨?_, ?_, ?_, ?_⟩
  · rw [blk_cell h, Nat.zero_add]; exact k 0 (by omega)
  · rw [blk_cell h, Nat.zero_add]; exact k 1 (by omega)
  · rw [blk_cell h, Nat.zero_add]; exact k 2 (by omega)
  · rw [blk_cell h, Nat.zero_add]; exact k 3 (by omega)
theorem four {P : Nat → Prop} (h0 : P 0) (h1 : P 1) (h2 : P 2) (h3 : P 3) : ∀ j, j < 4 → P j := fun j hj => by
  rcases (show j = 0 ∨ j = 1 ∨ j = 2 ∨ j = 3 by omega) with rfl | rfl | rfl | rfl <;> assumption
theorem ExAt.one {w : World} {op : Int} {u : Nat} {nm : ByteArray} {x : Ex} {B : Option Addr} {C : Nat} {blk : Nat} {t : TypeId} (h : w.heap[blk]? = some (.cells #[.int .i64 x.op, .int .u64 x.u, .string x.nm, .slice B x.ars.length C] t (0, 0))) (hu : x.u < 18446744073709551616) (hx : ExAt w x B) :
    ExAt w (.node op u nm [x]) (some ⟨blk, 0, none⟩) := by
  have e : ∀ (i : Nat) (y : Ex), [x][i]? = some y → i = 0 ∧ y = x := fun i y hy => by
    have := (List.getElem?_eq_some_iff.1 hy).1
    obtain rfl : i = 0 := by simpa using this
    cases hy
    exact ⟨rfl, rfl⟩
  refine .row blk (fun _ => B) (fun _ => C) h (fun i y hy => ?_) (fun i y hy => ?_) (fun i y hy => ?_)
  · obtain ⟨rfl, rfl⟩ := e i y hy
    exact four rfl rfl rfl rfl
  · obtain ⟨rfl, rfl⟩ := e i y hy
    exact hu
  · obtain ⟨rfl, rfl⟩ := e i y hy
    exact hx
theorem ExAt.leaves {w : World} {op : Int} {u : Nat} {nm : ByteArray} {ars : List Ex} {blk : Nat} {t : TypeId} (h : w.heap[blk]? = some (.cells (ars.flatMap fun x => exCells x none 0).toArray t (0, 0)))
    (hx : ∀ x ∈ ars, x.ars = [] ∧ x.u < 18446744073709551616) : ExAt w (.node op u nm ars) (some ⟨blk, 0, none⟩) := by
  refine .row blk (fun _ => none) (fun _ => 0) h (fun i y hy j hj => ?_) (fun i y hy => (hx y (List.mem_of_getElem? hy)).2) (fun i y hy => ?_)
  · rw [List.getElem?_toArray]
    clear h hx
    induction ars generalizing i with
    | nil => simp at hy
    | cons z r ih =>
      rw [List.flatMap_cons]
      have hl : (exCells z none 0).length = 4 := rfl
      cases i with
      | zero =>
        cases hy
        rw [List.getElem?_append_left (by rw [hl]; omega), Nat.zero_mul, Nat.zero_add]
      | succ i =>
        rw [List.getElem?_append_right (by rw [hl]; omega), hl]
        have := ih i (by simpa using hy)
        rw [← this]
        congr 1
        omega
  · have h2 := (hx y (List.mem_of_getElem? hy)).1
    cases y with
    | node a b c d =>
      have : d = [] := h2
      subst this
      exact .leaf a b c none

set_option maxRecDepth 100000 in
set_option maxHeartbeats 2000000 in
theorem v25_any (s : ByteArray) (W : World) : Calls Tryz.prog 25 #[.string s] W fun e w' => e = .returned (.agg #[.int .i64 2, .int .u64 0, .string s, .slice none 0 0]) ∧ Below W.heap.size W w' := by
  go_enter Tryz.func25, Tryz.ntmps25
  go_wp2
  refine bodyPost_ret (v := .agg #[.int .i64 2, .int .u64 0, .string s, .slice none 0 0]) ?_ rfl ?_
  · simp [results, Tryz.f25, go_sem]
  · exact ⟨rfl, (Below.refl _ W).alloc (Nat.le_refl _) _⟩
set_option maxRecDepth 100000 in
set_option maxHeartbeats 2000000 in
theorem c26_any (u : Nat) (W : World) : Calls Tryz.prog 26 #[.int .u64 u] W fun e w' => e = .returned (.agg #[.int .i64 1, .int .u64 u, .string ⟨#[]⟩, .slice none 0 0]) ∧ Below W.heap.size W w' := by
  go_enter Tryz.func26, Tryz.ntmps26
  go_wp2
  refine bodyPost_ret (v := .agg #[.int .i64 1, .int .u64 u, .string ⟨#[]⟩, .slice none 0 0]) ?_ rfl ?_
  · simp [results, Tryz.f26, go_sem]
  · exact ⟨rfl, (Below.refl _ W).alloc (Nat.le_refl _) _⟩
set_option maxRecDepth 100000 in
set_option maxHeartbeats 2000000 in
theorem op40_any (o : Int) (A : Option Addr) (n c : Nat) (W : World) : Calls Tryz.prog 40 #[.int .i64 o, .slice A n c] W fun e w' => e = .returned (.agg #[.int .i64 o, .int .u64 0, .string ⟨#[]⟩, .slice A n c]) ∧ Below W.heap.size W w' := by
  go_enter Tryz.func40, Tryz.ntmps40
  go_wp2
  refine bodyPost_ret (v := .agg #[.int .i64 o, .int .u64 0, .string ⟨#[]⟩, .slice A n c]) ?_ rfl ?_
  · simp [results, Tryz.f40, go_sem]
  · exact ⟨rfl, (Below.refl _ W).alloc (Nat.le_refl _) _⟩
set_option maxRecDepth 100000 in
set_option maxHeartbeats 2000000 in
theorem num16_any (n : Int) (W : World) : Calls Tryz.prog 16 #[.int .i64 n] W fun e w' => e = .returned (.int .i64 n) ∧ W = w' := by
  go_enter Tryz.func16, Tryz.ntmps16
  go_wp2
  go_ret
  exact ⟨rfl, rfl⟩
set_option maxRecDepth 100000 in
set_option maxHeartbeats 2000000 in
theorem tells_any (e : Ex) (A : Option Addr) (c : Nat) (s : ByteArray) (W : World) (hE : Env W) (h : ExAt W e A) (hq : cntE e ≤ 30000) (hu : e.u < 18446744073709551616) (h1 : exprT e = s) (h2 : exprN e = 0) :
    Calls Tryz.prog 41 #[exV e A c, .string s] W (BoolPost true W) := by
  have hb0 := Lib.hid ((Below.refl W.heap.size W).alloc (Nat.le_refl _) (.cells #[.int .i64 e.op, .int .u64 e.u, .string e.nm, .slice A e.ars.length c] 26))
  have hk := exprX_any e A c (W.alloc (.cells #[.int .i64 e.op, .int .u64 e.u, .string e.nm, .slice A e.ars.length c] 26)) (hE.below hb0.out) (h.keep hb0.out) hq hu
  rw [h1, h2] at hk
  have hn := Lib.hid (fun W' => num16_any 0 W')
  unfold exV at hk ⊢
  have hk := Lib.hid hk
  clear h hE h1 h2 hq hu
  go_enter Tryz.func41, Tryz.ntmps41
  go_wp2_with fail
  refine hk.out.mono ?_
  rintro e w1 ⟨rfl, hb1⟩
  have hb1 := Lib.hid (Below.next hb0.out hb1)
  go_wp2_with fail
  refine (hn.out _).mono ?_
  rintro e w2 ⟨rfl, rfl⟩
  go_wp2
  go_ret
  exact ⟨rfl, hb1.out⟩

/-! the rows -/
def xT : ByteArray := ⟨#[120]⟩
def kE1 : Ex := .node 6 0 ⟨#[]⟩ [.node 2 0 xT []]
def kE2 : Ex := .node 2 0 ⟨#[102, 111, 114]⟩ []
def kE3 : Ex := .node 6 0 ⟨#[]⟩ [.node 2 0 xT [], .node 1 1 ⟨#[]⟩ []]
def kE4 : Ex := .node 3 0 ⟨#[114]⟩ [.node 4 0 ⟨#[]⟩ [.node 2 0 xT []]]
def kE5 : Ex := .node 21 0 ⟨#[]⟩ [.node 1 1 ⟨#[]⟩ [], .node 1 2 ⟨#[]⟩ [], .node 1 3 ⟨#[]⟩ []]
theorem k1 : exprT kE1 = ⟨#[]⟩ ∧ exprN kE1 = 2 := by decide +kernel
theorem k2 : exprT kE2 = ⟨#[]⟩ ∧ exprN kE2 = 2 := by decide +kernel
theorem k3 : exprT kE3 = ⟨#[40, 120, 32, 43, 32, 49, 41]⟩ ∧ exprN kE3 = 0 := by decide +kernel
theorem k4 : exprT kE4 = ⟨#[114, 91, 126, 120, 93]⟩ ∧ exprN kE4 = 0 := by decide +kernel
theorem k5 : exprT kE5 = ⟨#[112, 105, 99, 107, 40, 49, 44, 32, 50, 44, 32, 51, 41]⟩ ∧ exprN kE5 = 0 := by decide +kernel
theorem kF : textF = ⟨#[102, 110, 32, 102, 40, 41, 32, 123, 10, 125, 10]⟩ := by decide +kernel
theorem kq : cntE kE1 ≤ 30000 ∧ cntE kE2 ≤ 30000 ∧ cntE kE3 ≤ 30000 ∧ cntE kE4 ≤ 30000 ∧ cntE kE5 ≤ 30000 := by decide +kernel

set_option maxRecDepth 100000 in
set_option maxHeartbeats 8000000 in
theorem known_any (W : World) (hE : Env W) : Calls Tryz.prog 11 #[] W (BoolPost true W) := by
  obtain ⟨wf, hwf⟩ : ∃ wf, W.alloc (.cells #[.string fT, .slice none 0 0, .slice none 0 0, .slice none 0 0, .slice none 0 0] 54) = wf := ⟨_, rfl⟩
  have hff : FAt W.heap.size wf := by rw [← hwf]; exact heap_alloc_new W _
  have hbf : Below W.heap.size W wf := by rw [← hwf]; exact (Below.refl _ W).alloc (Nat.le_refl _) _
  have ht := text_f W.heap.size 1 wf hff
  rw [kF] at ht
  have ht := Lib.hid ht
  have hbf := Lib.hid hbf
  have hE' := Lib.hid hE
  have hv := Lib.hid v25_any
  have hc := Lib.hid c26_any
  have ho := Lib.hid op40_any
  have hn := Lib.hid (fun (n : Int) W' => num16_any n W')
  unfold fT at hwf
  clear hff hE
  go_enter Tryz.func11, Tryz.ntmps11
  go_wp2_with fail
  refine ht.out.mono ?_
  rintro e w1 ⟨rfl, hb1⟩
  have B1 := Lib.hid (Below.next hbf.out hb1)
  clear hb1 hwf
  -- op(Add, v("x"))
  go_wp2_with fail
  refine (hv.out _ _).mono ?_
  rintro e w2 ⟨rfl, hb2⟩
  have B2 := Lib.hid (Below.next B1.out hb2)
  clear hb2
  go_wp2_with fail
  refine (ho.out _ _ _ _ _).mono ?_
  rintro e w3 ⟨rfl, hb3⟩
  have hx3 := (hb3.block _ (by simp)).trans (heap_alloc_new w2 (.cells #[.int .i64 2, .int .u64 0, .string xT, .slice none 0 0] 26))
  have B3 := Lib.hid (Below.next (B2.out.alloc B2.out.size _) hb3)
  have a1 := exprX_any kE1 (some ⟨w2.heap.size, 0, none⟩) 1 w3 (hE'.out.below B3.out) (ExAt.leaves hx3 (fun x hx => by simp at hx; subst hx; exact ⟨rfl, by decide⟩)) kq.1 (by decide)
  rw [k1.1, k1.2] at a1
  have a1 := Lib.hid (show Calls Tryz.prog 12 #[.agg #[.int .i64 6, .int .u64 0, .string ⟨#[]⟩, .slice (some ⟨w2.heap.size, 0, none⟩) 1 1]] w3 _ from a1)
  clear hb3 hx3
  go_wp2_with fail
  refine a1.out.mono ?_
  rintro e w4 ⟨rfl, hb4⟩
  have B4 := Lib.hid (Below.next B3.out hb4)
  clear hb4 a1
  -- v("for")
  go_wp2_with fail
  refine (hv.out _ _).mono ?_
  rintro e w5 ⟨rfl, hb5⟩
  have B5 := Lib.hid (Below.next B4.out hb5)
  have a2 := exprX_any kE2 none 0 w5 (hE'.out.below B5.out) (ExAt.leaf _ _ _ _) kq.2.1 (by decide)
  rw [k2.1, k2.2] at a2
  have a2 := Lib.hid (show Calls Tryz.prog 12 #[.agg #[.int .i64 2, .int .u64 0, .string ⟨#[102, 111, 114]⟩, .slice none 0 0]] w5 _ from a2)
  clear hb5
  go_wp2_with fail
  refine a2.out.mono ?_
  rintro e w6 ⟨rfl, hb6⟩
  have B6 := Lib.hid (Below.next B5.out hb6)
  clear hb6 a2
  -- index
  go_wp2_with fail
  refine (hv.out _ _).mono ?_
  rintro e w7 ⟨rfl, hb7⟩
  have B7 := Lib.hid (Below.next B6.out hb7)
  clear hb7
  go_wp2_with fail
  refine (ho.out _ _ _ _ _).mono ?_
  rintro e w8 ⟨rfl, hb8⟩
  have hx8 := (hb8.block _ (by simp)).trans (heap_alloc_new w7 (.cells #[.int .i64 2, .int .u64 0, .string xT, .slice none 0 0] 26))
  have B8 := Lib.hid (Below.next (B7.out.alloc B7.out.size _) hb8)
  have e8 : ExAt w8 (.node 4 0 ⟨#[]⟩ [.node 2 0 xT []]) (some ⟨w7.heap.size, 0, none⟩) := ExAt.leaves hx8 (fun x hx => by simp at hx; subst hx; exact ⟨rfl, by decide⟩)
  have e8 := Lib.hid e8
  clear hb8 hx8
  obtain ⟨wA, hwA⟩ : ∃ wA, (w8.alloc (.cells #[.int .i64 4, .int .u64 0, .string ⟨#[]⟩, .slice (some ⟨w7.heap.size, 0, none⟩) 1 1] 26)).alloc (.cells #[.int .i64 3, .int .u64 0, .string ⟨#[114]⟩, .slice (some ⟨w8.heap.size, 0, none⟩) 1 1] 26) = wA := ⟨_, rfl⟩
  have hbA : Below w8.heap.size w8 wA := by rw [← hwA]; exact ((Below.refl _ w8).alloc (Nat.le_refl _) _).alloc (by simp) _
  have h4A : wA.heap[w8.heap.size]? = some (.cells #[.int .i64 4, .int .u64 0, .string ⟨#[]⟩, .slice (some ⟨w7.heap.size, 0, none⟩) 1 1] 26 (0, 0)) := by
    rw [← hwA, heap_alloc_old _ _ (by simp)]; exact heap_alloc_new w8 _
  have h3A : wA.heap[w8.heap.size + 1]? = some (.cells #[.int .i64 3, .int .u64 0, .string ⟨#[114]⟩, .slice (some ⟨w8.heap.size, 0, none⟩) 1 1] 26 (0, 0)) := by
    have h := heap_alloc_new (w8.alloc (.cells #[.int .i64 4, .int .u64 0, .string ⟨#[]⟩, .slice (some ⟨w7.heap.size, 0, none⟩) 1 1] 26)) (.cells #[.int .i64 3, .int .u64 0, .string ⟨#[114]⟩, .slice (some ⟨w8.heap.size, 0, none⟩) 1 1] 26)
    have e : (w8.alloc (.cells #[.int .i64 4, .int .u64 0, .string ⟨#[]⟩, .slice (some ⟨w7.heap.size, 0, none⟩) 1 1] 26)).heap.size = w8.heap.size + 1 := by simp
    rw [e, hwA] at h
    exact h
  have e4 : ExAt wA kE4 (some ⟨w8.heap.size, 0, none⟩) := ExAt.one (x := .node 4 0 ⟨#[]⟩ [.node 2 0 xT []]) (B := some ⟨w7.heap.size, 0, none⟩) (C := 1) h4A (by decide) (e8.out.keep hbA)
  have e4 := Lib.hid e4
  have BA := Lib.hid (Below.next B8.out hbA)
  have h3A := Lib.hid h3A
  clear hbA h4A
  go_wp2_with fail
  skip
  clear hwA
  refine (hv.out _ _).mono ?_
  rintro e w10 ⟨rfl, hb10⟩
  have hb10 := Lib.hid hb10
  go_wp2_with fail
  refine (hc.out 1 _).mono ?_
  rintro e w11 ⟨rfl, hb11⟩
  have hb11 := Lib.hid (Below.next hb10.out hb11)
  go_wp2_with fail
  refine (ho.out _ _ _ _ _).mono ?_
  rintro e w12 ⟨rfl, hb12⟩
  have hx12 := (hb12.block _ (by simp)).trans (heap_alloc_new w11 (.cells #[.int .i64 2, .int .u64 0, .string xT, .slice none 0 0, .int .i64 1, .int .u64 1, .string ⟨#[]⟩, .slice none 0 0] 26))
  have hb12 := Lib.hid (Below.next (hb11.out.alloc hb11.out.size _) hb12)
  have B12 := Lib.hid (Below.next BA.out hb12.out)
  have a3 := Lib.hid (tells_any kE3 (some ⟨w11.heap.size, 0, none⟩) 2 _ w12 (hE'.out.below B12.out) (ExAt.leaves hx12 (fun x hx => by simp at hx; rcases hx with rfl | rfl <;> exact ⟨rfl, by decide⟩)) kq.2.2.1 (by decide) k3.1 k3.2)
  clear hx12
  go_wp2_with fail
  refine a3.out.mono ?_
  rintro e w13 ⟨rfl, hb13⟩
  have hb13 := Lib.hid (Below.next hb12.out hb13)
  have B13 := Lib.hid (Below.next BA.out hb13.out)
  have a4 := Lib.hid (tells_any kE4 (some ⟨w8.heap.size, 0, none⟩) 1 _ w13 (hE'.out.below B13.out) (e4.out.keep hb13.out) kq.2.2.2.1 (by decide) k4.1 k4.2)
  have hx13 := (hb13.out.block _ (blk_lt h3A.out)).trans h3A.out
  have g0 : w13.cell? ⟨w8.heap.size + 1, 0, none⟩ = some (.int .i64 3) := by rw [blk_cell hx13]; rfl
  have g1 : w13.cell? ⟨w8.heap.size + 1, 1, none⟩ = some (.int .u64 0) := by rw [blk_cell hx13]; rfl
  have g2 : w13.cell? ⟨w8.heap.size + 1, 2, none⟩ = some (.string ⟨#[114]⟩) := by rw [blk_cell hx13]; rfl
  have g3 : w13.cell? ⟨w8.heap.size + 1, 3, none⟩ = some (.slice (some ⟨w8.heap.size, 0, none⟩) 1 1) := by rw [blk_cell hx13]; rfl
  clear hx13 a3
  go_wp2_with fail
  refine a4.out.mono ?_
  rintro e w14 ⟨rfl, hb14⟩
  have B14 := Lib.hid (Below.next B13.out hb14)
  clear hb14 a4 g0 g1 g2 g3
  go_wp2_with fail
  refine (hc.out 1 _).mono ?_
  rintro e w15 ⟨rfl, hb15⟩
  have B15 := Lib.hid (Below.next B14.out hb15)
  clear hb15
  go_wp2_with fail
  refine (hc.out 2 _).mono ?_
  rintro e w16 ⟨rfl, hb16⟩
  have B16 := Lib.hid (Below.next B15.out hb16)
  clear hb16
  go_wp2_with fail
  refine (hc.out 3 _).mono ?_
  rintro e w17 ⟨rfl, hb17⟩
  have B17 := Lib.hid (Below.next B16.out hb17)
  clear hb17
  go_wp2_with fail
  refine (ho.out _ _ _ _ _).mono ?_
  rintro e w18 ⟨rfl, hb18⟩
  have hx18 := (hb18.block _ (by simp)).trans (heap_alloc_new w17 (.cells #[.int .i64 1, .int .u64 1, .string ⟨#[]⟩, .slice none 0 0, .int .i64 1, .int .u64 2, .string ⟨#[]⟩, .slice none 0 0, .int .i64 1, .int .u64 3, .string ⟨#[]⟩, .slice none 0 0] 26))
  have B18 := Lib.hid (Below.next (B17.out.alloc B17.out.size _) hb18)
  have a5 := Lib.hid (tells_any kE5 (some ⟨w17.heap.size, 0, none⟩) 3 _ w18 (hE'.out.below B18.out) (ExAt.leaves hx18 (fun x hx => by simp at hx; rcases hx with rfl | rfl | rfl <;> exact ⟨rfl, by decide⟩)) kq.2.2.2.2 (by decide) k5.1 k5.2)
  clear hx18 hb18
  go_wp2_with fail
  refine a5.out.mono ?_
  rintro e w19 ⟨rfl, hb19⟩
  have B19 := Lib.hid (Below.next B18.out hb19)
  clear hb19 a5
  go_wp2_with fail
  refine (hn.out 0 _).mono ?_
  rintro e w20 ⟨rfl, rfl⟩
  go_wp2_with fail
  refine (hn.out 2 _).mono ?_
  rintro e w20 ⟨rfl, rfl⟩
  go_wp2_with fail
  refine (hn.out 2 _).mono ?_
  rintro e w20 ⟨rfl, rfl⟩
  go_wp2
  go_ret
  exact ⟨rfl, B19.out⟩
end Go.Proofs.YtnahgfdoiflacaaGreatDoor

