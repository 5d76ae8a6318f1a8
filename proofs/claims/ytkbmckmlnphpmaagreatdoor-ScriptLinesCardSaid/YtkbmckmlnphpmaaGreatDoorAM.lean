/- What words that came in give. -/
import Derived.Test.YtkbmckmlnphpmaaGreatDoorAL
import Derived.ChangeSlices
import Derived.ChangeMaps5
set_option linter.unusedSimpArgs false
set_option linter.unusedVariables false
namespace Go.Proofs.YtkbmckmlnphpmaaGreatDoor
open Go.ChangeShapes Go.WideShapes Go.ChangeAt Go.RowKit

theorem cells40 : Tryz.prog.cellsOf 40 = 1 := by kernel_rfl
theorem open_words {H : Type} {enc : TypeId × Value → H} {W : World} {a0 : Option Addr} {n cap : Nat} {d : DataW H} {p : List MemPlace}
    (hk : DataW.Trod enc Tryz.prog W 0 (fun _ => true) true 22 (.slice a0 n cap) d p) : ∃ L : List Int, L.length = n ∧ WAt W a0 L := by
  obtain ⟨fuel, hf⟩ := hk
  rcases open_ints Tryz.underlying22 Tryz.underlying40 cells40 hf with ⟨hcs, hx⟩ | ⟨a, len', cap', zs, hcs, _, hl, hm, hz, hx, hcell, hwf⟩
  · simp [Value.cells] at hcs
    obtain ⟨rfl, rfl, rfl⟩ := hcs
    exact ⟨[], rfl, (fun x hx => by cases hx), fun h => absurd h (Nat.lt_irrefl 0)⟩
  · simp [Value.cells] at hcs
    obtain ⟨rfl, rfl, rfl⟩ := hcs
    simp only [if_true] at hz
    have hlen : (zs.take n).length = n := by rw [List.length_take]; omega
    refine ⟨zs.take n, hlen, fun x hx => bounds_u64 (hwf x (List.mem_of_mem_take hx)), fun hn => ?_⟩
    rw [hlen] at hn
    obtain ⟨bb, bo, bs⟩ := a
    have h0 := hcell 0 (by omega)
    have hsp : bs = none := by simpa [Addr.add] using World.cell?_spot h0
    subst hsp
    refine ⟨bb, bo, rfl, fun j x hx => ?_⟩
    have hj : j < n := by have := (List.getElem?_eq_some_iff.1 hx).1; omega
    have h1 := hcell j (by omega)
    rw [Lib.add_plain] at h1
    rw [List.getElem?_take, if_pos hj] at hx
    rw [List.getD_eq_getElem?_getD, hx] at h1
    exact h1
end Go.Proofs.YtkbmckmlnphpmaaGreatDoor
