/- The contract of the reference's Holds. -/
import Derived.Test.YtkfenljldmbmcaaK
set_option linter.unusedSimpArgs false
set_option linter.unusedVariables false
namespace Go.Proofs.Ytkfenljldmbmcaa
open Go.RowKit Go.MapKept

set_option maxHeartbeats 4000000 in
theorem Holds_any (k : Int) (c z s o p : Bool) (w : World) (hk : 0 ≤ k ∧ k ≤ 15) :
    Calls Try.prog 25 #[.int .i64 k, .agg #[.bool c, .bool z, .bool s, .bool o, .bool p]] w fun e w' => e = .returned (.bool (holdsB k c z s o p)) ∧ Below w.heap.size w w' := by
  rcases sixteen hk with rfl | rfl | rfl | rfl | rfl | rfl | rfl | rfl | rfl | rfl | rfl | rfl | rfl | rfl | rfl | rfl
  all_goals
    go_enter Try.func25, Try.ntmps25
    go_wp2
    all_goals (go_ret; refine ⟨ret_bool ?_, ((Below.refl _ _).alloc (Nat.le_refl _) _).alloc (by simp) _⟩)
    all_goals simp [holdsB, bne, *]

end Go.Proofs.Ytkfenljldmbmcaa
