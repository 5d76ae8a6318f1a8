/- A statement with what its kind names. -/
import Derived.Test.YtnahgfdoiflacaaGreatDoorDD
import Derived.Test.YtnahgfdoiflacaaGreatDoorCJ
import Derived.BigRegion
import Derived.Deep.Cut
set_option linter.unusedSimpArgs false
set_option linter.unusedVariables false
namespace Go.Proofs.YtnahgfdoiflacaaGreatDoor
open Go.RowKit Go.Lib Go.Shelf


set_option maxRecDepth 100000 in
set_option maxHeartbeats 16000000 in
theorem named1_any (r : StC) (hk : r.kd = 1) (W : World) : Calls Tryz.prog 166 #[vlT r] W (ValPost (vlT (namedC r)) W) := by
  rw [show namedC r = ⟨1, r.nm, sl0, r.e, ec0, sl0, 0, 0, sl0, sl0⟩ by unfold namedC; simp [hk]]
  obtain ⟨kd, nm, ⟨nA, nn, nc⟩, ⟨eo, eu, en, ⟨eA, ek, ec⟩⟩, ⟨ao, au, an, ⟨aA, ak, ac⟩⟩, ⟨gA, gn, gc⟩, lo, hi, ⟨bA, bn, bc⟩, ⟨lA, ln, lc⟩⟩ := r
  dsimp only at hk
  subst hk
  unfold vlT
  dsimp only [sl0, ec0]
  obtain ⟨W1, hW1⟩ : ∃ W1, W.alloc (.cells #[.int .i64 1, .string nm, .slice nA nn nc, .int .i64 eo, .int .u64 eu, .string en, .slice eA ek ec, .int .i64 ao, .int .u64 au, .string an, .slice aA ak ac, .slice gA gn gc, .int .u64 lo, .int .u64 hi, .slice bA bn bc, .slice lA ln lc] 50) = W1 := ⟨_, rfl⟩
  have hb1 : Below W.heap.size W W1 := by rw [← hW1]; exact (Below.refl _ W).alloc (Nat.le_refl _) _
  have hX : W1.heap[W.heap.size]? = some (.cells #[.int .i64 1, .string nm, .slice nA nn nc, .int .i64 eo, .int .u64 eu, .string en, .slice eA ek ec, .int .i64 ao, .int .u64 au, .string an, .slice aA ak ac, .slice gA gn gc, .int .u64 lo, .int .u64 hi, .slice bA bn bc, .slice lA ln lc] 50 (0, 0)) := by rw [← hW1]; exact heap_alloc_new _ _
  obtain ⟨p0, p1, p2, p3, p4, p5, p6, p7, p8, p9, p10, p11, p12, p13, p14, p15⟩ := box16 hX
  have q1 : W.heap.size < W1.heap.size := blk_lt hX
  have q2 : W.heap.size < W1.heap.size + 1 := by omega
  have hb1 := Lib.hid hb1
  clear hX
  go_enter Tryz.func166, Tryz.ntmps166
  go_wp2_with fail
  go_region
  all_goals
    go_wp2_with fail
    refine bodyPost_ret (v := .agg #[.int .i64 1, .string nm, .slice none 0 0, .int .i64 eo, .int .u64 eu, .string en, .slice eA ek ec, .int .i64 0, .int .u64 0, .string ⟨#[]⟩, .slice none 0 0, .slice none 0 0, .int .u64 0, .int .u64 0, .slice none 0 0, .slice none 0 0]) ?_ rfl ⟨rfl, hb1.out.trans (((below_drew1 (Below.box2 (Below.box2 (Below.refl _ _) _) _))).mono hb1.out.size)⟩
    simp [results, Tryz.f166, go_sem]

set_option maxRecDepth 100000 in
set_option maxHeartbeats 16000000 in
theorem named2_any (r : StC) (hk : r.kd = 2) (W : World) : Calls Tryz.prog 166 #[vlT r] W (ValPost (vlT (namedC r)) W) := by
  rw [show namedC r = ⟨2, r.nm, sl0, r.e, r.a, sl0, 0, 0, sl0, sl0⟩ by unfold namedC; simp [hk]]
  obtain ⟨kd, nm, ⟨nA, nn, nc⟩, ⟨eo, eu, en, ⟨eA, ek, ec⟩⟩, ⟨ao, au, an, ⟨aA, ak, ac⟩⟩, ⟨gA, gn, gc⟩, lo, hi, ⟨bA, bn, bc⟩, ⟨lA, ln, lc⟩⟩ := r
  dsimp only at hk
  subst hk
  unfold vlT
  dsimp only [sl0, ec0]
  obtain ⟨W1, hW1⟩ : ∃ W1, W.alloc (.cells #[.int .i64 2, .string nm, .slice nA nn nc, .int .i64 eo, .int .u64 eu, .string en, .slice eA ek ec, .int .i64 ao, .int .u64 au, .string an, .slice aA ak ac, .slice gA gn gc, .int .u64 lo, .int .u64 hi, .slice bA bn bc, .slice lA ln lc] 50) = W1 := ⟨_, rfl⟩
  have hb1 : Below W.heap.size W W1 := by rw [← hW1]; exact (Below.refl _ W).alloc (Nat.le_refl _) _
  have hX : W1.heap[W.heap.size]? = some (.cells #[.int .i64 2, .string nm, .slice nA nn nc, .int .i64 eo, .int .u64 eu, .string en, .slice eA ek ec, .int .i64 ao, .int .u64 au, .string an, .slice aA ak ac, .slice gA gn gc, .int .u64 lo, .int .u64 hi, .slice bA bn bc, .slice lA ln lc] 50 (0, 0)) := by rw [← hW1]; exact heap_alloc_new _ _
  obtain ⟨p0, p1, p2, p3, p4, p5, p6, p7, p8, p9, p10, p11, p12, p13, p14, p15⟩ := box16 hX
  have q1 : W.heap.size < W1.heap.size := blk_lt hX
  have q2 : W.heap.size < W1.heap.size + 1 := by omega
  have hb1 := Lib.hid hb1
  clear hX
  go_enter Tryz.func166, Tryz.ntmps166
  go_wp2_with fail
  go_region
  all_goals
    go_wp2_with fail
    refine bodyPost_ret (v := .agg #[.int .i64 2, .string nm, .slice none 0 0, .int .i64 eo, .int .u64 eu, .string en, .slice eA ek ec, .int .i64 ao, .int .u64 au, .string an, .slice aA ak ac, .slice none 0 0, .int .u64 0, .int .u64 0, .slice none 0 0, .slice none 0 0]) ?_ rfl ⟨rfl, hb1.out.trans (((below_drew1 (Below.box2 (Below.box2 (Below.refl _ _) _) _))).mono hb1.out.size)⟩
    simp [results, Tryz.f166, go_sem]

set_option maxRecDepth 100000 in
set_option maxHeartbeats 16000000 in
theorem named3_any (r : StC) (hk : r.kd = 3) (W : World) : Calls Tryz.prog 166 #[vlT r] W (ValPost (vlT (namedC r)) W) := by
  rw [show namedC r = ⟨3, ⟨#[]⟩, sl0, r.e, ec0, sl0, 0, 0, r.bd, r.el⟩ by unfold namedC; simp [hk]]
  obtain ⟨kd, nm, ⟨nA, nn, nc⟩, ⟨eo, eu, en, ⟨eA, ek, ec⟩⟩, ⟨ao, au, an, ⟨aA, ak, ac⟩⟩, ⟨gA, gn, gc⟩, lo, hi, ⟨bA, bn, bc⟩, ⟨lA, ln, lc⟩⟩ := r
  dsimp only at hk
  subst hk
  unfold vlT
  dsimp only [sl0, ec0]
  obtain ⟨W1, hW1⟩ : ∃ W1, W.alloc (.cells #[.int .i64 3, .string nm, .slice nA nn nc, .int .i64 eo, .int .u64 eu, .string en, .slice eA ek ec, .int .i64 ao, .int .u64 au, .string an, .slice aA ak ac, .slice gA gn gc, .int .u64 lo, .int .u64 hi, .slice bA bn bc, .slice lA ln lc] 50) = W1 := ⟨_, rfl⟩
  have hb1 : Below W.heap.size W W1 := by rw [← hW1]; exact (Below.refl _ W).alloc (Nat.le_refl _) _
  have hX : W1.heap[W.heap.size]? = some (.cells #[.int .i64 3, .string nm, .slice nA nn nc, .int .i64 eo, .int .u64 eu, .string en, .slice eA ek ec, .int .i64 ao, .int .u64 au, .string an, .slice aA ak ac, .slice gA gn gc, .int .u64 lo, .int .u64 hi, .slice bA bn bc, .slice lA ln lc] 50 (0, 0)) := by rw [← hW1]; exact heap_alloc_new _ _
  obtain ⟨p0, p1, p2, p3, p4, p5, p6, p7, p8, p9, p10, p11, p12, p13, p14, p15⟩ := box16 hX
  have q1 : W.heap.size < W1.heap.size := blk_lt hX
  have q2 : W.heap.size < W1.heap.size + 1 := by omega
  have hb1 := Lib.hid hb1
  clear hX
  go_enter Tryz.func166, Tryz.ntmps166
  go_wp2_with fail
  go_region
  all_goals
    go_wp2_with fail
    refine bodyPost_ret (v := .agg #[.int .i64 3, .string ⟨#[]⟩, .slice none 0 0, .int .i64 eo, .int .u64 eu, .string en, .slice eA ek ec, .int .i64 0, .int .u64 0, .string ⟨#[]⟩, .slice none 0 0, .slice none 0 0, .int .u64 0, .int .u64 0, .slice bA bn bc, .slice lA ln lc]) ?_ rfl ⟨rfl, hb1.out.trans (((below_drew1 (Below.box2 (Below.box2 (Below.refl _ _) _) _))).mono hb1.out.size)⟩
    simp [results, Tryz.f166, go_sem]
end Go.Proofs.YtnahgfdoiflacaaGreatDoor
