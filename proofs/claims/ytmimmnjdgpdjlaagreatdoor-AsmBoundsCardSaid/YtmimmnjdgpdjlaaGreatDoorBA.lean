/- Closed facts of AsmBounds. -/
import Derived.Test.YtmimmnjdgpdjlaaGreatDoorAE
set_option linter.unusedSimpArgs false
set_option linter.unusedVariables false
namespace Go.Proofs.YtmimmnjdgpdjlaaGreatDoor
open Go.RowKit Go.Lib Go.Shelf Go.MapKept
theorem readX_bad {s : List UInt8} {n : Nat} (h : readG s 0 [] = ([], n, false)) (hs : s.length ≤ 1000) : readX s = ([], n, 15) := by
  unfold readX
  rw [if_neg (by omega)]
  unfold readAll
  rw [h]
  rfl

theorem wr_0 : readX [114, 101, 116, 10] = ([], 1, 15) := by
  have hs : stepR [114, 101, 116, 10] = none := by kernel_rfl
  refine readX_bad ?_ (by decide)
  rw [readG_bad (by simp) hs]
theorem wr_1 : readX [9, 114, 101, 116, 10, 9, 114, 101, 116] = ([], 2, 15) := by
  have hs : stepR [9, 114, 101, 116, 10, 9, 114, 101, 116] = some ((⟨20, 0, 0, 0, 0, 0, 0, 0, 0, false, false, 0, 0⟩ : In), [9, 114, 101, 116]) := by kernel_rfl
  have hs2 : stepR [9, 114, 101, 116] = none := by kernel_rfl
  refine readX_bad ?_ (by decide)
  rw [readG_good (by simp) hs, readG_bad (by simp) hs2]
theorem wr_2 : readX [9, 76, 49, 58, 10] = ([], 1, 15) := by
  have hs : stepR [9, 76, 49, 58, 10] = none := by kernel_rfl
  refine readX_bad ?_ (by decide)
  rw [readG_bad (by simp) hs]
theorem wr_3 : readX [76, 49, 58, 10, 76, 49, 58, 10] = ([], 0, 15) := by
  have hs : stepR [76, 49, 58, 10, 76, 49, 58, 10] = some ((⟨19, 0, 0, 0, 0, 0, 0, 0, 0, false, false, 0, 1⟩ : In), [76, 49, 58, 10]) := by kernel_rfl
  have hs2 : stepR [76, 49, 58, 10] = some ((⟨19, 0, 0, 0, 0, 0, 0, 0, 0, false, false, 0, 1⟩ : In), []) := by kernel_rfl
  have hg : readG [76, 49, 58, 10, 76, 49, 58, 10] 0 [] = ([(⟨19, 0, 0, 0, 0, 0, 0, 0, 0, false, false, 0, 1⟩ : In), (⟨19, 0, 0, 0, 0, 0, 0, 0, 0, false, false, 0, 1⟩ : In)], 2, true) := by
    rw [readG_good (by simp) hs, readG_good (by simp) hs2, readG_nil]
    rfl
  unfold readX
  rw [if_neg (by simp)]
  unfold readAll
  rw [hg]
  have hm : mayAll [(⟨19, 0, 0, 0, 0, 0, 0, 0, 0, false, false, 0, 1⟩ : In), (⟨19, 0, 0, 0, 0, 0, 0, 0, 0, false, false, 0, 1⟩ : In)] = false := by kernel_rfl
  simp [hm]
theorem wr_4 : readX [76, 48, 49, 58, 10] = ([], 1, 15) := by
  have hs : stepR [76, 48, 49, 58, 10] = none := by kernel_rfl
  refine readX_bad ?_ (by decide)
  rw [readG_bad (by simp) hs]
theorem wr_5 : readX [10] = ([], 1, 15) := by
  have hs : stepR [10] = none := by kernel_rfl
  refine readX_bad ?_ (by decide)
  rw [readG_bad (by simp) hs]
theorem wr_6 : readX [9, 109, 111, 118, 113, 32, 37, 114, 97, 120, 44, 37, 114, 98, 120, 10] = ([], 1, 15) := by
  have hs : stepR [9, 109, 111, 118, 113, 32, 37, 114, 97, 120, 44, 37, 114, 98, 120, 10] = none := by kernel_rfl
  refine readX_bad ?_ (by decide)
  rw [readG_bad (by simp) hs]
theorem wr_7 : readX [9, 97, 100, 100, 113, 32, 36, 50, 49, 52, 55, 52, 56, 51, 54, 52, 56, 44, 32, 37, 114, 97, 120, 10] = ([], 1, 15) := by
  have hs : stepR [9, 97, 100, 100, 113, 32, 36, 50, 49, 52, 55, 52, 56, 51, 54, 52, 56, 44, 32, 37, 114, 97, 120, 10] = none := by kernel_rfl
  refine readX_bad ?_ (by decide)
  rw [readG_bad (by simp) hs]
theorem wr_8 : readX [9, 115, 104, 108, 113, 32, 36, 54, 52, 44, 32, 37, 114, 97, 120, 10] = ([], 1, 15) := by
  have hs : stepR [9, 115, 104, 108, 113, 32, 36, 54, 52, 44, 32, 37, 114, 97, 120, 10] = none := by kernel_rfl
  refine readX_bad ?_ (by decide)
  rw [readG_bad (by simp) hs]
theorem wr_9 : readX [9, 109, 111, 118, 113, 32, 40, 37, 114, 97, 120, 44, 37, 114, 115, 112, 44, 56, 41, 44, 32, 37, 114, 97, 120, 10] = ([], 1, 15) := by
  have hs : stepR [9, 109, 111, 118, 113, 32, 40, 37, 114, 97, 120, 44, 37, 114, 115, 112, 44, 56, 41, 44, 32, 37, 114, 97, 120, 10] = none := by kernel_rfl
  refine readX_bad ?_ (by decide)
  rw [readG_bad (by simp) hs]
theorem wr_10 : readX [9, 115, 101, 116, 98, 32, 37, 114, 98, 120, 10] = ([], 1, 15) := by
  have hs : stepR [9, 115, 101, 116, 98, 32, 37, 114, 98, 120, 10] = none := by kernel_rfl
  refine readX_bad ?_ (by decide)
  rw [readG_bad (by simp) hs]
theorem wr_11 : readX [9, 109, 111, 118, 113, 32, 36, 49, 44, 32, 37, 114, 97, 120, 10] = ([], 1, 15) := by
  have hs : stepR [9, 109, 111, 118, 113, 32, 36, 49, 44, 32, 37, 114, 97, 120, 10] = none := by kernel_rfl
  refine readX_bad ?_ (by decide)
  rw [readG_bad (by simp) hs]
theorem wr_12 : readX [9, 106, 122, 32, 76, 49, 10] = ([], 1, 15) := by
  have hs : stepR [9, 106, 122, 32, 76, 49, 10] = none := by kernel_rfl
  refine readX_bad ?_ (by decide)
  rw [readG_bad (by simp) hs]
theorem bl_0 : mayB ⟨13, 0, 0, 0, 15, 0, 18446744071562067968, 0, 0, false, false, 0, 0⟩ = true ∧ lineL ⟨13, 0, 0, 0, 15, 0, 18446744071562067968, 0, 0, false, false, 0, 0⟩ = [99, 109, 112, 113, 32, 36, 45, 50, 49, 52, 55, 52, 56, 51, 54, 52, 56, 44, 32, 37, 114, 49, 53] := ⟨by kernel_rfl, by kernel_rfl⟩
theorem bl_1 : mayB ⟨2, 0, 0, 0, 8, 0, 18446744073709551615, 0, 0, false, false, 0, 0⟩ = true ∧ lineL ⟨2, 0, 0, 0, 8, 0, 18446744073709551615, 0, 0, false, false, 0, 0⟩ = [109, 111, 118, 97, 98, 115, 113, 32, 36, 49, 56, 52, 52, 54, 55, 52, 52, 48, 55, 51, 55, 48, 57, 53, 53, 49, 54, 49, 53, 44, 32, 37, 114, 56] := ⟨by kernel_rfl, by kernel_rfl⟩
theorem bl_2 : mayB ⟨3, 0, 0, 0, 0, 0, 0, 0, 15, false, true, -2147483648, 0⟩ = true ∧ lineL ⟨3, 0, 0, 0, 0, 0, 0, 0, 15, false, true, -2147483648, 0⟩ = [109, 111, 118, 113, 32, 45, 50, 49, 52, 55, 52, 56, 51, 54, 52, 56, 40, 44, 37, 114, 49, 53, 44, 56, 41, 44, 32, 37, 114, 97, 120] := ⟨by kernel_rfl, by kernel_rfl⟩
theorem bl_3 : mayB ⟨3, 0, 0, 0, 0, 0, 0, 0, 0, false, false, 0, 0⟩ = true ∧ lineL ⟨3, 0, 0, 0, 0, 0, 0, 0, 0, false, false, 0, 0⟩ = [109, 111, 118, 113, 32, 48, 44, 32, 37, 114, 97, 120] := ⟨by kernel_rfl, by kernel_rfl⟩
theorem may_nil : mayAll [] = true := by kernel_rfl
end Go.Proofs.YtmimmnjdgpdjlaaGreatDoor
