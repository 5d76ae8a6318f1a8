/- The reference's MayOne. -/
import Derived.Test.YtmimmnjdgpdjlaaGreatDoorH5a
import Derived.Test.YtmimmnjdgpdjlaaGreatDoorH5b
import Derived.Test.YtmimmnjdgpdjlaaGreatDoorH5c
import Derived.Test.YtmimmnjdgpdjlaaGreatDoorH5d
set_option linter.unusedSimpArgs false
set_option linter.unusedVariables false
namespace Go.Proofs.YtmimmnjdgpdjlaaGreatDoor
open Go.RowKit Go.Lib Go.Shelf

theorem rmayOne_any (i : In) (hf : Fit i) (w : World) : Calls Tryz.prog 24 #[inV i] w (BoolPost (mayB i) w) := by
  by_cases ho : 1 ≤ i.op ∧ i.op ≤ 20
  · rcases op_cases ho with h | h | h | h | h | h | h | h | h | h | h | h | h | h | h | h | h | h | h | h
    · exact rmayOne3 i hf (by rw [h]; rfl) w
    · exact rmayOne5 i hf (by rw [h]; rfl) w
    · exact rmayOne9 i hf (by rw [h]; rfl) w
    · exact rmayOne10 i hf (by rw [h]; rfl) w
    · exact rmayOne19 i hf (by rw [h]; rfl) w
    · exact rmayOne21 i hf (by rw [h]; rfl) w
    · exact rmayOne33 i hf (by rw [h]; rfl) w
    · exact rmayOne37 i hf (by rw [h]; rfl) w
    · exact rmayOne1 i hf (by rw [h]; rfl) w
    · exact rmayOne1 i hf (by rw [h]; rfl) w
    · exact rmayOne3 i hf (by rw [h]; rfl) w
    · exact rmayOne3 i hf (by rw [h]; rfl) w
    · exact rmayOne5 i hf (by rw [h]; rfl) w
    · exact rmayOne65 i hf (by rw [h]; rfl) w
    · exact rmayOne3 i hf (by rw [h]; rfl) w
    · exact rmayOne67 i hf (by rw [h]; rfl) w
    · exact rmayOne128 i hf (by rw [h]; rfl) w
    · exact rmayOne192 i hf (by rw [h]; rfl) w
    · exact rmayOne128 i hf (by rw [h]; rfl) w
    · exact rmayOne0 i hf (by rw [h]; rfl) w
  · exact rmayOne0 i hf (by unfold maskP maskO; rw [if_neg ho]; rfl) w
end Go.Proofs.YtmimmnjdgpdjlaaGreatDoor
