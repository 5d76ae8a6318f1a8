/- PrettyBounds: the law's lines, where none comes. -/
import Derived.Test.YtnahgfdoiflacaaGreatDoorGD
import Derived.Test.YtnahgfdoiflacaaGreatDoorWTabs
set_option linter.unusedSimpArgs false
set_option linter.unusedVariables false
namespace Go.Proofs.YtnahgfdoiflacaaGreatDoor
open Go.RowKit Go.Lib Go.Shelf
attribute [local go_sem] Oper.semAt_some
theorem Box1.same {W : World} {b : Nat} {t : TypeId} {v : Value} (h : Box1 W b t v) : W.setCell ⟨b, 0, none⟩ v = W := by
  unfold Box1 at h
  obtain ⟨hl, he⟩ := Array.getElem?_eq_some_iff.1 h
  unfold World.setCell
  congr 1
  apply Array.ext
  · simp
  · intro i h1 h2
    by_cases hi : i = b
    · subst hi
      rw [Array.getElem_modify]
      simp [he]
    · simp [Array.getElem_modify, Ne.symm hi]

set_option maxRecDepth 100000 in
set_option maxHeartbeats 32000000 in
theorem lines27_none (x : St) (r : StC) (W : World) (hE : Env W) (h : SNow W x r) (h1 : StsAt W x.bd r.bd.a) (h2 : StsAt W x.el r.el.a) (hi : iterL [x] = []) (hc : cntSs [x] ≤ 30000) (m : Int) :
    Calls Tryz.prog 27 #[vlT r, .int .i64 m] W (BoolPost ((0 : Int) == m) W) := by
  have hS := Lib.hid (fun (V : World) (b : Nat) (hb : Below W.heap.size W V) (hx : V.heap[b]? = some (.cells (cellsT r).toArray 50 (0, 0))) => sts_one hx (h.keep hb) (h1.keep hb) (h2.keep hb))
  have hE0 := Lib.hid hE
  have hi0 := Lib.hid hi
  have hc0 := Lib.hid hc
  clear h h1 h2 hE hi hc
  obtain ⟨kd, nm, ⟨nA, nn, nc⟩, ⟨eo, eu, en, ⟨eA, ek, ec⟩⟩, ⟨ao, au, an, ⟨aA, ak, ac⟩⟩, ⟨gA, gn, gc⟩, lo, hi, ⟨bA, bn, bc⟩, ⟨lA, ln, lc⟩⟩ := r
  unfold vlT
  unfold cellsT at hS
  dsimp only at *
  obtain ⟨W1, hW1⟩ : ∃ W1, W.alloc (.cells #[.int .i64 kd, .string nm, .slice nA nn nc, .int .i64 eo, .int .u64 eu, .string en, .slice eA ek ec, .int .i64 ao, .int .u64 au, .string an, .slice aA ak ac, .slice gA gn gc, .int .u64 lo, .int .u64 hi, .slice bA bn bc, .slice lA ln lc] 50) = W1 := ⟨_, rfl⟩
  have hX1 : W1.heap[W.heap.size]? = some (.cells #[.int .i64 kd, .string nm, .slice nA nn nc, .int .i64 eo, .int .u64 eu, .string en, .slice eA ek ec, .int .i64 ao, .int .u64 au, .string an, .slice aA ak ac, .slice gA gn gc, .int .u64 lo, .int .u64 hi, .slice bA bn bc, .slice lA ln lc] 50 (0, 0)) := by rw [← hW1]; exact heap_alloc_new _ _
  have hb1 : Below W.heap.size W W1 := by rw [← hW1]; exact (Below.refl _ W).alloc (Nat.le_refl _) _
  obtain ⟨W2, hW2⟩ : ∃ W2, W1.alloc (.cells #[.int .i64 0] 3) = W2 := ⟨_, rfl⟩
  have hK2 : Box1 W2 W1.heap.size 3 (.int .i64 0) := by rw [← hW2]; exact heap_alloc_new _ _
  have hb12 : Below W1.heap.size W1 W2 := by rw [← hW2]; exact (Below.refl _ W1).alloc (Nat.le_refl _) _
  have hX2 := (hb12.block _ (blk_lt hX1)).trans hX1
  have hb2 := Below.next hb1 hb12
  obtain ⟨k, hk⟩ : ∃ k, W1.heap.size = k := ⟨_, rfl⟩
  rw [hk] at hK2
  obtain ⟨q0, q1, q2, q3, q4, q5, q6, q7, q8, q9, q10, q11, q12, q13, q14, q15⟩ := box16 hX2
  have fk := hK2.f
  have ck := hK2.c
  have hz : W2.setCell ⟨k, 0, none⟩ (.int .i64 0) = W2 := hK2.same
  obtain ⟨W3, hW3⟩ : ∃ W3, W2.alloc (.cells #[.int .i64 kd, .string nm, .slice nA nn nc, .int .i64 eo, .int .u64 eu, .string en, .slice eA ek ec, .int .i64 ao, .int .u64 au, .string an, .slice aA ak ac, .slice gA gn gc, .int .u64 lo, .int .u64 hi, .slice bA bn bc, .slice lA ln lc] 50) = W3 := ⟨_, rfl⟩
  have hX3 : W3.heap[W2.heap.size]? = some (.cells #[.int .i64 kd, .string nm, .slice nA nn nc, .int .i64 eo, .int .u64 eu, .string en, .slice eA ek ec, .int .i64 ao, .int .u64 au, .string an, .slice aA ak ac, .slice gA gn gc, .int .u64 lo, .int .u64 hi, .slice bA bn bc, .slice lA ln lc] 50 (0, 0)) := by rw [← hW3]; exact heap_alloc_new _ _
  have hb23 : Below W2.heap.size W2 W3 := by rw [← hW3]; exact (Below.refl _ W2).alloc (Nat.le_refl _) _
  have hb3 := Below.next hb2 hb23
  have hK3 : Box1 W3 k 3 (.int .i64 0) := hK2.go hb23 (blk_lt hK2)
  have h30 := Lib.hid (lines30_any (some ⟨W2.heap.size, 0, none⟩) 1 1 W3)
  have hrn := run_it_nil
  have hX3 := Lib.hid hX3
  have hb3 := Lib.hid hb3
  have hK3 := Lib.hid hK3
  clear hX1 hb1 hX2 hb12 hb2 hb23 hK2
  refine (callsIn_wide (n := 8)).1 (callsIn_of_wp_marks Tryz.func27 rfl trivial ?_ rfl)
  simp only [Tryz.ntmps27, List.size_toArray, List.length_cons, List.length_nil, Nat.reduceAdd, Nat.reduceSub, Array.replicate_succ, Array.replicate_zero, List.push_toArray, List.append_toArray, List.nil_append, List.cons_append]
  refine wpIn_wide.2 ?_
  go_wp2_with fail
  refine h30.out.mono ?_
  rintro e w4 ⟨rfl, hw4⟩
  have hb4 : Below W3.heap.size W3 w4 := by rw [hw4]; exact (Below.refl _ W3).alloc (Nat.le_refl _) _
  have hbx : w4.heap[W3.heap.size]? = some (.cells #[.slice (some ⟨W2.heap.size, 0, none⟩) 1 1] 48 (0, 0)) := by rw [hw4]; exact heap_alloc_new _ _
  have hX4 := (hb4.block _ (blk_lt hX3.out)).trans hX3.out
  have hK4 := hK3.out.go hb4 (blk_lt hK3.out)
  have hb4 := Below.next hb3.out hb4
  have hSt := hS.out w4 W2.heap.size hb4 hX4
  have hX4 := Lib.hid hX4
  have hK4 := Lib.hid hK4
  have hb4 := Lib.hid hb4
  have hbx := Lib.hid hbx
  have hSt := Lib.hid hSt
  clear hw4 q0 q1 q2 q3 q4 q5 q6 q7 q8 q9 q10 q11 q12 q13 q14 q15 fk ck hz
  go_wp2_with fail
  refine (wpIn_wide (n := 8)).1 (wpIn_range_lines w4 (hE0.out.below hb4.out) [x] (some ⟨W2.heap.size, 0, none⟩) 1 W3.heap.size hSt.out hc0.out (Below.refl _ _) hbx.out rfl (fun pre V => Below W.heap.size W V ∧ Box1 V k 3 (.int .i64 0)) ?grow ?put ⟨hb4.out, hK4.out⟩ (fun y => ((#[.agg #[.int .i64 kd, .string nm, .slice nA nn nc, .int .i64 eo, .int .u64 eu, .string en, .slice eA ek ec, .int .i64 ao, .int .u64 au, .string an, .slice aA ak ac, .slice gA gn gc, .int .u64 lo, .int .u64 hi, .slice bA bn bc, .slice lA ln lc], .int .i64 m, .pointer (some ⟨W.heap.size, 0, none⟩), undef, .bool false, .pointer (some ⟨k, 0, none⟩), .func (.func 81) #[] #[.pointer (some ⟨W3.heap.size, 0, none⟩)], .agg #[.int .i64 kd, .string nm, .slice nA nn nc, .int .i64 eo, .int .u64 eu, .string en, .slice eA ek ec, .int .i64 ao, .int .u64 au, .string an, .slice aA ak ac, .slice gA gn gc, .int .u64 lo, .int .u64 hi, .slice bA bn bc, .slice lA ln lc], .slice (some ⟨W2.heap.size, 0, none⟩) 1 1, .func (.func 81) #[] #[.pointer (some ⟨W3.heap.size, 0, none⟩)], .func (.func 81) #[] #[.pointer (some ⟨W3.heap.size, 0, none⟩)], .bool false, .func (.func 81) #[] #[.pointer (some ⟨W3.heap.size, 0, none⟩)], undef, undef, undef, undef, undef, undef, undef] : Array Value).setIfInBounds 13 (.int .i64 (y.1 : Int))).setIfInBounds 14 (.string y.2)) ?assign ?body ?done)
  case assign =>
    intro l y V K hK
    exact wpIn_skip hK
  case grow => exact fun xs V V' h _ hb => ⟨Below.next h.1 hb, h.2.go hb (blk_lt h.2)⟩
  case put => exact fun xs V l o o' h hl hlo ho => ⟨below_put h.1 (Nat.le_trans hb4.out.size hl) o', h.2.put hlo ho o'⟩
  case body =>
    intro l pre y rest V hl hV hJ hpre
    rw [hi0.out] at hpre
    simp at hpre
  case done =>
    rintro De V hDe ⟨hJ, hkV⟩ hK
    have ck := hkV.c
    have hJ := Lib.hid hJ
    have hK := Lib.hid hK
    have hlo := Lib.hid (Nat.le_trans hb4.out.size hDe)
    go_wp2_with fail
    exact leaves_marks [De] _ (fun D' hD' => by rw [List.mem_singleton.1 hD']; exact hK.out) (by simp) ⟨_, by simp [results, Tryz.f27, go_sem], rfl, shut_below [De] _ (fun D' hD' => by rw [List.mem_singleton.1 hD']; exact hlo.out) hJ.out⟩
end Go.Proofs.YtnahgfdoiflacaaGreatDoor
