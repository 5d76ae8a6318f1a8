/- The reference's Words. -/
import Derived.Test.YtkbmckmlnphpmaaGreatDoorL
set_option linter.unusedSimpArgs false
set_option linter.unusedVariables false
namespace Go.Proofs.YtkbmckmlnphpmaaGreatDoor
open Go.RowKit Go.Lib Go.Shelf

/-- the text of a line, byte by byte -/
def tailL (l : List Int) : List UInt8 := (l.map fun x => 32 :: Lib.decDigits x.toNat).flatten
theorem lineT_list (word : ByteArray) (l : List Int) : (lineT word l).data.toList = word.data.toList ++ tailL l := by
  unfold lineT joinT lineL tailL
  rw [List.map_cons]
  show (Lib.join _ _) = _
  rw [Lib.join_cons, Lib.joinTail, List.map_map, List.map_map]
  rfl
end Go.Proofs.YtkbmckmlnphpmaaGreatDoor
