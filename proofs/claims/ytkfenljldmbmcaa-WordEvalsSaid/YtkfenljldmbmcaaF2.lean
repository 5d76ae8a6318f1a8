/- What a slice of words that came in gives. -/
import Derived.Test.YtkfenljldmbmcaaWEvals
import Derived.WalkKit
import Derived.ProofKit
import Derived.OpenShut
namespace Go.Proofs.Ytkfenljldmbmcaa
open Go.ChangeShapes Go.WideShapes Go.ChangeAt Go.RowKit
set_option linter.unusedSimpArgs false
set_option linter.unusedVariables false

theorem cells26 : Try.prog.cellsOf 26 = 1 := by kernel_rfl
theorem open_words {H : Type} {enc : TypeId × Value → H} {W : World} {a0 : Option Addr} {n cap : Nat} {d : DataW H} {p : List MemPlace}
    (hk : DataW.Trod enc Try.prog W 0 (fun _ => true) true 22 (.slice a0 n cap) d p) (hlt : ∀ x ∈ p, x.block < W.heap.size) : n ≤ maxLen ∧ ∃ zs, WordsAt W a0 n zs := by
  obtain ⟨fuel, hf⟩ := hk
  rcases open_ints Try.underlying22 Try.underlying26 cells26 hf with ⟨hcs, hx⟩ | ⟨a, len', cap', zs, hcs, _, hl, hm, hz, hx, hcell, hwz⟩
  · simp [Value.cells] at hcs
    obtain ⟨rfl, rfl, rfl⟩ := hcs
    exact ⟨Nat.zero_le _, [], fun i => by simp [U64], fun h => absurd h (by omega)⟩
  · simp [Value.cells] at hcs
    obtain ⟨rfl, rfl, rfl⟩ := hcs
    simp only [Prod.mk.injEq] at hx
    obtain ⟨rfl, rfl⟩ := hx
    simp only [if_true] at hz
    refine ⟨by omega, zs, fun i => ?_, fun h => ?_⟩
    · have := range_u64 hwz i
      rw [List.getD_eq_getElem?_getD]
      exact ⟨this.1, by omega⟩
    · obtain ⟨ab, ao, spot⟩ := a
      have hspot : spot = none := by simpa [Addr.add] using World.cell?_spot (hcell 0 (by omega))
      subst hspot
      refine ⟨ab, ao, rfl, ?_, fun i hi => ?_⟩
      · have := hlt (.cell ab (ao + 0)) (by simp only [MemPlace.row, List.mem_map, List.mem_range]; exact ⟨0, by omega, rfl⟩)
        exact this
      · have := hcell i (by omega)
        rw [Addr.add_lit] at this
        exact this
end Go.Proofs.Ytkfenljldmbmcaa
