/- PrettyBounds: the law's closed expressions and statements. -/
import Derived.Test.YtnahgfdoiflacaaGreatDoorGB
import Derived.Test.YtnahgfdoiflacaaGreatDoorFC
import Derived.Test.YtnahgfdoiflacaaGreatDoorEC
set_option linter.unusedSimpArgs false
set_option linter.unusedVariables false
namespace Go.Proofs.YtnahgfdoiflacaaGreatDoor
open Go.RowKit Go.Lib Go.Shelf

def yX : Ex := .node 2 0 ⟨#[121]⟩ []
def setS : St := .node 1 xT [] (deepE 62) zE [] 0 0 [] []
def moreS : St := .node 1 xT [] (deepE 63) zE [] 0 0 [] []
def lowS : St := .node 1 xT [] yX zE [] 1 0 [] []
def otherS : St := .node 4 ⟨#[]⟩ [] yX zE [] 0 0 [] [setS]
def zeroS : St := .node 4 ⟨#[]⟩ [] zE zE [] 0 0 [] []
def callS : St := .node 6 fT [] zE zE [] 0 0 [] []
theorem deep_n : exprN (deepE 63) = 0 ∧ exprN (deepE 64) = 2 := by decide +kernel
theorem set_n : (iterL [setS]).length = 1 := by decide +kernel
theorem more_n : iterL [moreS] = [] := by decide +kernel
theorem low_n : iterL [lowS] = [] := by decide +kernel
theorem other_n : iterL [otherS] = [] := by decide +kernel
theorem zero_n : iterL [zeroS] = [] := by decide +kernel
theorem call_n : (iterL [callS]).length = 1 := by decide +kernel
end Go.Proofs.YtnahgfdoiflacaaGreatDoor
