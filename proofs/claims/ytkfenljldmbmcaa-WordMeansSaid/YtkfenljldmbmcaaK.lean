/- The contracts of Holds and Turned, and of the reference's Holds. -/
import Derived.Test.YtkfenljldmbmcaaJ
set_option linter.unusedSimpArgs false
set_option linter.unusedVariables false
namespace Go.Proofs.Ytkfenljldmbmcaa
open Go.RowKit Go.MapKept

theorem refDo_any (op wd a b : Int) (c z s o p : Bool) (w : World) (hw : MayW wd) (h : U64 a) (hb : U64 b) (hop : 1 ≤ op ∧ op ≤ 8) :
    Calls Try.prog 20 #[.int .i64 op, .int .i64 wd, .int .u64 a, .int .u64 b, .agg #[.bool c, .bool z, .bool s, .bool o, .bool p]] w (RefPost wd (doO op wd a b c) (doC op wd a b c) (doV op wd a b c) w) := by
  have : op = 1 ∨ op = 2 ∨ op = 3 ∨ op = 4 ∨ op = 5 ∨ op = 6 ∨ op = 7 ∨ op = 8 := by omega
  rcases this with rfl | rfl | rfl | rfl | rfl | rfl | rfl | rfl <;> cases c
  · exact refDo_1f wd a b z s o p w hw h hb
  · exact refDo_1t wd a b z s o p w hw h hb
  · exact refDo_2f wd a b z s o p w hw h hb
  · exact refDo_2t wd a b z s o p w hw h hb
  · exact refDo_3f wd a b z s o p w hw h hb
  · exact refDo_3t wd a b z s o p w hw h hb
  · exact refDo_4f wd a b z s o p w hw h hb
  · exact refDo_4t wd a b z s o p w hw h hb
  · exact refDo_5f wd a b z s o p w hw h hb
  · exact refDo_5t wd a b z s o p w hw h hb
  · exact refDo_6f wd a b z s o p w hw h hb
  · exact refDo_6t wd a b z s o p w hw h hb
  · exact refDo_7f wd a b z s o p w hw h hb
  · exact refDo_7t wd a b z s o p w hw h hb
  · exact refDo_8f wd a b z s o p w hw h hb
  · exact refDo_8t wd a b z s o p w hw h hb

/-- does a condition hold? -/
def holdsB (k : Int) (c z s o p : Bool) : Bool :=
  (if k / 2 = 0 then o else if k / 2 = 1 then c else if k / 2 = 2 then z else if k / 2 = 3 then c || z else if k / 2 = 4 then s else if k / 2 = 5 then p else if k / 2 = 6 then s != o else z || s != o) != (k % 2 == 1)
theorem sixteen {k : Int} (h : 0 ≤ k ∧ k ≤ 15) : k = 0 ∨ k = 1 ∨ k = 2 ∨ k = 3 ∨ k = 4 ∨ k = 5 ∨ k = 6 ∨ k = 7 ∨ k = 8 ∨ k = 9 ∨ k = 10 ∨ k = 11 ∨ k = 12 ∨ k = 13 ∨ k = 14 ∨ k = 15 := by omega

set_option maxHeartbeats 400000 in
theorem HoldsP_0 (c z s o p : Bool) (w : World) :
    Calls Try.prog 23 #[.int .i64 0, .agg #[.bool c, .bool z, .bool s, .bool o, .bool p]] w fun e w' => e = .returned (.tuple #[.bool (holdsB 0 c z s o p), .int .i64 0]) ∧ Below w.heap.size w w' := by
  have e1 : bits BinOp.andNot IntKind.i64 0 1 = 0 := by decide
  have e2 : bits BinOp.and IntKind.i64 0 1 = 0 := by decide
  go_enter Try.func23, Try.ntmps23
  go_wp2
  all_goals (go_ret2; refine ⟨?_, (Below.refl _ _).alloc (Nat.le_refl _) _⟩)
  all_goals simp [holdsB, bne, *]
set_option maxHeartbeats 400000 in
theorem HoldsP_1 (c z s o p : Bool) (w : World) :
    Calls Try.prog 23 #[.int .i64 1, .agg #[.bool c, .bool z, .bool s, .bool o, .bool p]] w fun e w' => e = .returned (.tuple #[.bool (holdsB 1 c z s o p), .int .i64 0]) ∧ Below w.heap.size w w' := by
  have e1 : bits BinOp.andNot IntKind.i64 1 1 = 0 := by decide
  have e2 : bits BinOp.and IntKind.i64 1 1 = 1 := by decide
  go_enter Try.func23, Try.ntmps23
  go_wp2
  all_goals (go_ret2; refine ⟨?_, (Below.refl _ _).alloc (Nat.le_refl _) _⟩)
  all_goals simp [holdsB, bne, *]
set_option maxHeartbeats 400000 in
theorem HoldsP_2 (c z s o p : Bool) (w : World) :
    Calls Try.prog 23 #[.int .i64 2, .agg #[.bool c, .bool z, .bool s, .bool o, .bool p]] w fun e w' => e = .returned (.tuple #[.bool (holdsB 2 c z s o p), .int .i64 0]) ∧ Below w.heap.size w w' := by
  have e1 : bits BinOp.andNot IntKind.i64 2 1 = 2 := by decide
  have e2 : bits BinOp.and IntKind.i64 2 1 = 0 := by decide
  go_enter Try.func23, Try.ntmps23
  go_wp2
  all_goals (go_ret2; refine ⟨?_, (Below.refl _ _).alloc (Nat.le_refl _) _⟩)
  all_goals simp [holdsB, bne, *]
set_option maxHeartbeats 400000 in
theorem HoldsP_3 (c z s o p : Bool) (w : World) :
    Calls Try.prog 23 #[.int .i64 3, .agg #[.bool c, .bool z, .bool s, .bool o, .bool p]] w fun e w' => e = .returned (.tuple #[.bool (holdsB 3 c z s o p), .int .i64 0]) ∧ Below w.heap.size w w' := by
  have e1 : bits BinOp.andNot IntKind.i64 3 1 = 2 := by decide
  have e2 : bits BinOp.and IntKind.i64 3 1 = 1 := by decide
  go_enter Try.func23, Try.ntmps23
  go_wp2
  all_goals (go_ret2; refine ⟨?_, (Below.refl _ _).alloc (Nat.le_refl _) _⟩)
  all_goals simp [holdsB, bne, *]
set_option maxHeartbeats 400000 in
theorem HoldsP_4 (c z s o p : Bool) (w : World) :
    Calls Try.prog 23 #[.int .i64 4, .agg #[.bool c, .bool z, .bool s, .bool o, .bool p]] w fun e w' => e = .returned (.tuple #[.bool (holdsB 4 c z s o p), .int .i64 0]) ∧ Below w.heap.size w w' := by
  have e1 : bits BinOp.andNot IntKind.i64 4 1 = 4 := by decide
  have e2 : bits BinOp.and IntKind.i64 4 1 = 0 := by decide
  go_enter Try.func23, Try.ntmps23
  go_wp2
  all_goals (go_ret2; refine ⟨?_, (Below.refl _ _).alloc (Nat.le_refl _) _⟩)
  all_goals simp [holdsB, bne, *]
set_option maxHeartbeats 400000 in
theorem HoldsP_5 (c z s o p : Bool) (w : World) :
    Calls Try.prog 23 #[.int .i64 5, .agg #[.bool c, .bool z, .bool s, .bool o, .bool p]] w fun e w' => e = .returned (.tuple #[.bool (holdsB 5 c z s o p), .int .i64 0]) ∧ Below w.heap.size w w' := by
  have e1 : bits BinOp.andNot IntKind.i64 5 1 = 4 := by decide
  have e2 : bits BinOp.and IntKind.i64 5 1 = 1 := by decide
  go_enter Try.func23, Try.ntmps23
  go_wp2
  all_goals (go_ret2; refine ⟨?_, (Below.refl _ _).alloc (Nat.le_refl _) _⟩)
  all_goals simp [holdsB, bne, *]
set_option maxHeartbeats 400000 in
theorem HoldsP_6 (c z s o p : Bool) (w : World) :
    Calls Try.prog 23 #[.int .i64 6, .agg #[.bool c, .bool z, .bool s, .bool o, .bool p]] w fun e w' => e = .returned (.tuple #[.bool (holdsB 6 c z s o p), .int .i64 0]) ∧ Below w.heap.size w w' := by
  have e1 : bits BinOp.andNot IntKind.i64 6 1 = 6 := by decide
  have e2 : bits BinOp.and IntKind.i64 6 1 = 0 := by decide
  go_enter Try.func23, Try.ntmps23
  go_wp2
  all_goals (go_ret2; refine ⟨?_, (Below.refl _ _).alloc (Nat.le_refl _) _⟩)
  all_goals simp [holdsB, bne, *]
set_option maxHeartbeats 400000 in
theorem HoldsP_7 (c z s o p : Bool) (w : World) :
    Calls Try.prog 23 #[.int .i64 7, .agg #[.bool c, .bool z, .bool s, .bool o, .bool p]] w fun e w' => e = .returned (.tuple #[.bool (holdsB 7 c z s o p), .int .i64 0]) ∧ Below w.heap.size w w' := by
  have e1 : bits BinOp.andNot IntKind.i64 7 1 = 6 := by decide
  have e2 : bits BinOp.and IntKind.i64 7 1 = 1 := by decide
  go_enter Try.func23, Try.ntmps23
  go_wp2
  all_goals (go_ret2; refine ⟨?_, (Below.refl _ _).alloc (Nat.le_refl _) _⟩)
  all_goals simp [holdsB, bne, *]
set_option maxHeartbeats 400000 in
theorem HoldsP_8 (c z s o p : Bool) (w : World) :
    Calls Try.prog 23 #[.int .i64 8, .agg #[.bool c, .bool z, .bool s, .bool o, .bool p]] w fun e w' => e = .returned (.tuple #[.bool (holdsB 8 c z s o p), .int .i64 0]) ∧ Below w.heap.size w w' := by
  have e1 : bits BinOp.andNot IntKind.i64 8 1 = 8 := by decide
  have e2 : bits BinOp.and IntKind.i64 8 1 = 0 := by decide
  go_enter Try.func23, Try.ntmps23
  go_wp2
  all_goals (go_ret2; refine ⟨?_, (Below.refl _ _).alloc (Nat.le_refl _) _⟩)
  all_goals simp [holdsB, bne, *]
set_option maxHeartbeats 400000 in
theorem HoldsP_9 (c z s o p : Bool) (w : World) :
    Calls Try.prog 23 #[.int .i64 9, .agg #[.bool c, .bool z, .bool s, .bool o, .bool p]] w fun e w' => e = .returned (.tuple #[.bool (holdsB 9 c z s o p), .int .i64 0]) ∧ Below w.heap.size w w' := by
  have e1 : bits BinOp.andNot IntKind.i64 9 1 = 8 := by decide
  have e2 : bits BinOp.and IntKind.i64 9 1 = 1 := by decide
  go_enter Try.func23, Try.ntmps23
  go_wp2
  all_goals (go_ret2; refine ⟨?_, (Below.refl _ _).alloc (Nat.le_refl _) _⟩)
  all_goals simp [holdsB, bne, *]
set_option maxHeartbeats 400000 in
theorem HoldsP_10 (c z s o p : Bool) (w : World) :
    Calls Try.prog 23 #[.int .i64 10, .agg #[.bool c, .bool z, .bool s, .bool o, .bool p]] w fun e w' => e = .returned (.tuple #[.bool (holdsB 10 c z s o p), .int .i64 0]) ∧ Below w.heap.size w w' := by
  have e1 : bits BinOp.andNot IntKind.i64 10 1 = 10 := by decide
  have e2 : bits BinOp.and IntKind.i64 10 1 = 0 := by decide
  go_enter Try.func23, Try.ntmps23
  go_wp2
  all_goals (go_ret2; refine ⟨?_, (Below.refl _ _).alloc (Nat.le_refl _) _⟩)
  all_goals simp [holdsB, bne, *]
set_option maxHeartbeats 400000 in
theorem HoldsP_11 (c z s o p : Bool) (w : World) :
    Calls Try.prog 23 #[.int .i64 11, .agg #[.bool c, .bool z, .bool s, .bool o, .bool p]] w fun e w' => e = .returned (.tuple #[.bool (holdsB 11 c z s o p), .int .i64 0]) ∧ Below w.heap.size w w' := by
  have e1 : bits BinOp.andNot IntKind.i64 11 1 = 10 := by decide
  have e2 : bits BinOp.and IntKind.i64 11 1 = 1 := by decide
  go_enter Try.func23, Try.ntmps23
  go_wp2
  all_goals (go_ret2; refine ⟨?_, (Below.refl _ _).alloc (Nat.le_refl _) _⟩)
  all_goals simp [holdsB, bne, *]
set_option maxHeartbeats 400000 in
theorem HoldsP_12 (c z s o p : Bool) (w : World) :
    Calls Try.prog 23 #[.int .i64 12, .agg #[.bool c, .bool z, .bool s, .bool o, .bool p]] w fun e w' => e = .returned (.tuple #[.bool (holdsB 12 c z s o p), .int .i64 0]) ∧ Below w.heap.size w w' := by
  have e1 : bits BinOp.andNot IntKind.i64 12 1 = 12 := by decide
  have e2 : bits BinOp.and IntKind.i64 12 1 = 0 := by decide
  go_enter Try.func23, Try.ntmps23
  go_wp2
  all_goals (go_ret2; refine ⟨?_, (Below.refl _ _).alloc (Nat.le_refl _) _⟩)
  all_goals simp [holdsB, bne, *]
set_option maxHeartbeats 400000 in
theorem HoldsP_13 (c z s o p : Bool) (w : World) :
    Calls Try.prog 23 #[.int .i64 13, .agg #[.bool c, .bool z, .bool s, .bool o, .bool p]] w fun e w' => e = .returned (.tuple #[.bool (holdsB 13 c z s o p), .int .i64 0]) ∧ Below w.heap.size w w' := by
  have e1 : bits BinOp.andNot IntKind.i64 13 1 = 12 := by decide
  have e2 : bits BinOp.and IntKind.i64 13 1 = 1 := by decide
  go_enter Try.func23, Try.ntmps23
  go_wp2
  all_goals (go_ret2; refine ⟨?_, (Below.refl _ _).alloc (Nat.le_refl _) _⟩)
  all_goals simp [holdsB, bne, *]
set_option maxHeartbeats 400000 in
theorem HoldsP_14 (c z s o p : Bool) (w : World) :
    Calls Try.prog 23 #[.int .i64 14, .agg #[.bool c, .bool z, .bool s, .bool o, .bool p]] w fun e w' => e = .returned (.tuple #[.bool (holdsB 14 c z s o p), .int .i64 0]) ∧ Below w.heap.size w w' := by
  have e1 : bits BinOp.andNot IntKind.i64 14 1 = 14 := by decide
  have e2 : bits BinOp.and IntKind.i64 14 1 = 0 := by decide
  go_enter Try.func23, Try.ntmps23
  go_wp2
  all_goals (go_ret2; refine ⟨?_, (Below.refl _ _).alloc (Nat.le_refl _) _⟩)
  all_goals simp [holdsB, bne, *]
set_option maxHeartbeats 400000 in
theorem HoldsP_15 (c z s o p : Bool) (w : World) :
    Calls Try.prog 23 #[.int .i64 15, .agg #[.bool c, .bool z, .bool s, .bool o, .bool p]] w fun e w' => e = .returned (.tuple #[.bool (holdsB 15 c z s o p), .int .i64 0]) ∧ Below w.heap.size w w' := by
  have e1 : bits BinOp.andNot IntKind.i64 15 1 = 14 := by decide
  have e2 : bits BinOp.and IntKind.i64 15 1 = 1 := by decide
  go_enter Try.func23, Try.ntmps23
  go_wp2
  all_goals (go_ret2; refine ⟨?_, (Below.refl _ _).alloc (Nat.le_refl _) _⟩)
  all_goals simp [holdsB, bne, *]
theorem HoldsP_any (k : Int) (c z s o p : Bool) (w : World) (hk : 0 ≤ k ∧ k ≤ 15) :
    Calls Try.prog 23 #[.int .i64 k, .agg #[.bool c, .bool z, .bool s, .bool o, .bool p]] w fun e w' => e = .returned (.tuple #[.bool (holdsB k c z s o p), .int .i64 0]) ∧ Below w.heap.size w w' := by
  rcases sixteen hk with rfl | rfl | rfl | rfl | rfl | rfl | rfl | rfl | rfl | rfl | rfl | rfl | rfl | rfl | rfl | rfl
  · exact HoldsP_0 c z s o p w
  · exact HoldsP_1 c z s o p w
  · exact HoldsP_2 c z s o p w
  · exact HoldsP_3 c z s o p w
  · exact HoldsP_4 c z s o p w
  · exact HoldsP_5 c z s o p w
  · exact HoldsP_6 c z s o p w
  · exact HoldsP_7 c z s o p w
  · exact HoldsP_8 c z s o p w
  · exact HoldsP_9 c z s o p w
  · exact HoldsP_10 c z s o p w
  · exact HoldsP_11 c z s o p w
  · exact HoldsP_12 c z s o p w
  · exact HoldsP_13 c z s o p w
  · exact HoldsP_14 c z s o p w
  · exact HoldsP_15 c z s o p w

set_option maxHeartbeats 400000 in
theorem HoldsP_no (k : Int) (c z s o p : Bool) (w : World) (hk : ¬ (0 ≤ k ∧ k ≤ 15)) :
    Calls Try.prog 23 #[.int .i64 k, .agg #[.bool c, .bool z, .bool s, .bool o, .bool p]] w fun e w' => e = .returned (.tuple #[.bool false, .int .i64 2]) ∧ Below w.heap.size w w' := by
  by_cases h0 : 0 ≤ k
  · have h1 : 15 < k := by omega
    clear hk
    go_enter Try.func23, Try.ntmps23
    go_wp2
    go_ret2
    exact ⟨rfl, (Below.refl _ _).alloc (Nat.le_refl _) _⟩
  · clear hk
    go_enter Try.func23, Try.ntmps23
    go_wp2
    go_ret2
    exact ⟨rfl, (Below.refl _ _).alloc (Nat.le_refl _) _⟩

def turnI (k : Int) : Int := if k % 2 = 0 then k + 1 else k - 1
set_option maxHeartbeats 1000000 in
theorem TurnedP_any (k : Int) (w : World) (hk : 0 ≤ k ∧ k ≤ 15) :
    Calls Try.prog 24 #[.int .i64 k] w fun e w' => e = .returned (.tuple #[.int .i64 (turnI k), .int .i64 0]) ∧ w = w' := by
  rcases sixteen hk with rfl | rfl | rfl | rfl | rfl | rfl | rfl | rfl | rfl | rfl | rfl | rfl | rfl | rfl | rfl | rfl
  all_goals
    go_enter Try.func24, Try.ntmps24
    go_wp2
    go_ret2
    exact ⟨by simp [turnI]; decide, rfl⟩
set_option maxHeartbeats 400000 in
theorem TurnedP_no (k : Int) (w : World) (hk : ¬ (0 ≤ k ∧ k ≤ 15)) :
    Calls Try.prog 24 #[.int .i64 k] w fun e w' => e = .returned (.tuple #[.int .i64 0, .int .i64 2]) ∧ w = w' := by
  by_cases h0 : 0 ≤ k
  · have h1 : 15 < k := by omega
    clear hk
    go_enter Try.func24, Try.ntmps24
    go_wp2
    go_ret2
    exact ⟨rfl, rfl⟩
  · clear hk
    go_enter Try.func24, Try.ntmps24
    go_wp2
    go_ret2
    exact ⟨rfl, rfl⟩

end Go.Proofs.Ytkfenljldmbmcaa
