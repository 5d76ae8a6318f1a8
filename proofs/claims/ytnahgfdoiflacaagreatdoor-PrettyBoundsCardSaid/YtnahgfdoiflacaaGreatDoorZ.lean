/- What the rows' condition gives: the library's variables. -/
import Derived.Test.YtnahgfdoiflacaaGreatDoorA
import Derived.ProofKit
import Derived.LaidMore
import Derived.OpenShut
import Derived.Stop.Joined
import Derived.Deep.DeepHandedRow
import Derived.MakeChecks
import Derived.Lib.LaidTab
import Derived.ChangeSlices
import Derived.ChangeMaps5
import Derived.LaidHandle
import Derived.LaidSub
set_option linter.unusedSimpArgs false
set_option linter.unusedVariables false
namespace Go.Proofs.YtnahgfdoiflacaaGreatDoor
open Go.RowKit Go.Lib Go.Shelf

def laidL : List (String × DataW Unit) := Rows.prettyExprsRow.laid
theorem gPow : Tryz.prog.globalNamed "internal/strconv.uint64pow10" = some 1 := by kernel_rfl
theorem gSp : Tryz.prog.globalNamed "strings.asciiSpace" = some 0 := by kernel_rfl
/-- a world that meets the condition: the door's own -/
noncomputable def laidWorld (os : Os) : World := World.doorLaid Tryz.prog 400 os
theorem door_met (os : Os) (args : Array Value) : laidMetH Tryz.prog laidL ((laidWorld os).forCall (fun _ _ => 0) ⟨#[], args, []⟩).memory :=
  laidMetH_of_parts3 (fuel := 8) (laidMet_of_run' 8 (by kernel_rfl) (by kernel_rfl)) (by kernel_rfl) (by kernel_rfl)
theorem tab_of_var {W : World} {ps : List MemPlace} {r : List (String × DataW Unit)} (h : DataW.LaidVars Tryz.prog W (("internal/strconv.uint64pow10", Rows.laid_internal_strconv_uint64pow10) :: r) ps) : Tab W := by
  obtain ⟨g', t', cs, fuel, p, q, hg', ht', hv, hd, _, _⟩ := h
  have hty : (Tryz.prog.globals[1]?).map (·.type) = some 178 := by kernel_rfl
  obtain rfl := Option.some.inj (gPow.symm.trans hg')
  obtain rfl := Option.some.inj (hty.symm.trans ht')
  have e : (Rows.laid_internal_strconv_uint64pow10 : DataW Unit) = tabData .u64 Lib.pow10Tab := by rfl
  rw [e] at hd
  have h2 := cells_of_tab (e := 23) (n := 20) Tryz.underlying178 Tryz.underlying23 (by kernel_rfl) (by kernel_rfl) hd
  unfold Tab TabIs
  rw [hv, ← h2]
theorem sp_of_var {W : World} {ps : List MemPlace} {r : List (String × DataW Unit)} (h : DataW.LaidVars Tryz.prog W (("strings.asciiSpace", Rows.laid_strings_asciiSpace) :: r) ps) : Lib.TabIs Tryz.prog W "strings.asciiSpace" .u8 Lib.asciiSpaceTab := by
  obtain ⟨g', t', cs, fuel, p, q, hg', ht', hv, hd, _, _⟩ := h
  have hty : (Tryz.prog.globals[0]?).map (·.type) = some 172 := by kernel_rfl
  obtain rfl := Option.some.inj (gSp.symm.trans hg')
  obtain rfl := Option.some.inj (hty.symm.trans ht')
  have e : (Rows.laid_strings_asciiSpace : DataW Unit) = tabData .u8 Lib.asciiSpaceTab := by kernel_rfl
  rw [e] at hd
  have h2 := cells_of_tab (e := 5) (n := 256) Tryz.underlying172 Tryz.underlying5 (by kernel_rfl) (by kernel_rfl) hd
  unfold TabIs
  rw [hv, ← h2]
theorem plainL : (laidL.filter fun x => x.2.handleName?.isNone) = [("math/bits.deBruijn32tab", Rows.laid_math_bits_deBruijn32tab), ("math/bits.deBruijn64tab", Rows.laid_math_bits_deBruijn64tab), ("internal/strconv.uint64pow10", Rows.laid_internal_strconv_uint64pow10), ("unicode.White_Space", Rows.laid_unicode_White_Space), ("strings.asciiSpace", Rows.laid_strings_asciiSpace)] := by rfl
theorem env_of_laid {W : World} (h : laidMetH Tryz.prog laidL W) : Env W := by
  obtain ⟨ha, hb⟩ := laidMetH_iff.1 h
  rw [plainL] at ha
  obtain ⟨ps, h0, _⟩ := ha
  obtain ⟨_, _, _, _, _, q1, _, _, _, _, h1, _⟩ := h0
  obtain ⟨_, _, _, _, _, q2, _, _, _, _, h2, _⟩ := h1
  have hT := tab_of_var h2
  obtain ⟨_, _, _, _, _, q3, _, _, _, _, h3, _⟩ := h2
  obtain ⟨_, _, _, _, _, q4, _, _, _, _, h4, _⟩ := h3
  exact ⟨hT, sp_of_var h4⟩
end Go.Proofs.YtnahgfdoiflacaaGreatDoor
