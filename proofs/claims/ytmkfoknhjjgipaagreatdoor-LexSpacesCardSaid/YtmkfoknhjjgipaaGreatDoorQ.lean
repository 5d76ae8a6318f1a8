/- Tokens that came in. -/
import Derived.Test.YtmkfoknhjjgipaaGreatDoorN
import Derived.ProofKit
import Derived.OpenShut
import Derived.Deep.DeepHandedRow
import Derived.ChangeSlices
import Derived.Deep.Slices
set_option linter.unusedSimpArgs false
set_option linter.unusedVariables false
namespace Go.Proofs.YtmkfoknhjjgipaaGreatDoor
open Go.ChangeShapes Go.WideShapes Go.ChangeAt Go.RowKit Go.Deep

theorem cells48 : Tryz.prog.cellsOf 48 = 5 := by kernel_rfl
theorem cellsK : Tryz.prog.cellsOf 46 = 1 := by kernel_rfl
theorem cells9 : Tryz.prog.cellsOf 9 = 1 := by kernel_rfl
theorem cells23 : Tryz.prog.cellsOf 23 = 1 := by kernel_rfl
theorem cells3 : Tryz.prog.cellsOf 3 = 1 := by kernel_rfl
theorem toks_some {α : Type} {x : Option α} {xs : List α} {i : Nat} (h : x = xs[i]?) (hi : i < xs.length) : ∃ y, x = some y := ⟨xs[i], h.trans (List.getElem?_eq_getElem hi)⟩
theorem toks_five {cs : List Value} (h : cs.length = 5) : ∃ a b c d e, cs = [a, b, c, d, e] := by
  match cs, h with
  | [a, b, c, d, e], _ => exact ⟨a, b, c, d, e, rfl⟩
section
variable {H : Type} {enc : TypeId × Value → H} {W : World}
theorem tok_of {fuel : Nat} {cs : List Value} {x : DataW H × List MemPlace} (hf : DataW.trod enc Tryz.prog W 0 (fun _ => true) true fuel 48 cs = some x) : ∃ t : Ta, cs = taCells t := by
  obtain ⟨xs, n, _, _, hcl, hlen, hx⟩ := DataW.trod_struct Tryz.underlying48 hf
  rw [cells48] at hcl
  obtain ⟨v0, v1, v2, v3, v4, rfl⟩ := toks_five hcl
  have hlen : xs.length = 5 := hlen
  obtain ⟨y0, h0⟩ := toks_some (hx 0 _ rfl) (by omega)
  obtain ⟨y1, h1⟩ := toks_some (hx 1 _ rfl) (by omega)
  obtain ⟨y2, h2⟩ := toks_some (hx 2 _ rfl) (by omega)
  obtain ⟨y3, h3⟩ := toks_some (hx 3 _ rfl) (by omega)
  obtain ⟨y4, h4⟩ := toks_some (hx 4 _ rfl) (by omega)
  simp only [List.getElem_toArray, List.getElem_cons_zero, List.getElem_cons_succ] at h0 h1 h2 h3 h4
  rw [cellsK] at h0
  rw [cells9] at h1
  rw [cells23] at h2
  rw [cells3] at h3 h4
  obtain ⟨k, e0, _, k0⟩ := DataW.trod_int Tryz.underlying46 (show DataW.trod enc Tryz.prog W 0 (fun _ => true) true n 46 [v0] = some y0 from h0)
  obtain ⟨s, e1, _, _⟩ := DataW.trod_string Tryz.underlying9 (show DataW.trod enc Tryz.prog W 0 (fun _ => true) true n 9 [v1] = some y1 from h1)
  obtain ⟨u, e2, _, k2⟩ := DataW.trod_int Tryz.underlying23 (show DataW.trod enc Tryz.prog W 0 (fun _ => true) true n 23 [v2] = some y2 from h2)
  obtain ⟨l, e3, _, k3⟩ := DataW.trod_int Tryz.underlying3 (show DataW.trod enc Tryz.prog W 0 (fun _ => true) true n 3 [v3] = some y3 from h3)
  obtain ⟨c, e4, _, k4⟩ := DataW.trod_int Tryz.underlying3 (show DataW.trod enc Tryz.prog W 0 (fun _ => true) true n 3 [v4] = some y4 from h4)
  cases e0
  cases e1
  cases e2
  cases e3
  cases e4
  obtain ⟨u', rfl⟩ := Int.eq_ofNat_of_zero_le (bounds_u64 k2).1
  exact ⟨⟨k, s, u', l, c⟩, rfl⟩
theorem open_toks {a0 : Option Addr} {n cap : Nat} {d : DataW H} {p : List MemPlace} (hk : DataW.Trod enc Tryz.prog W 0 (fun _ => true) true 31 (.slice a0 n cap) d p) : ∃ L : List Ta, L.length = n ∧ TaAt W a0 L ∧ n ≤ 9223372036854775807 := by
  obtain ⟨fuel, hf⟩ := hk
  rcases open_slice Tryz.underlying31 hf with ⟨hcs, hx⟩ | ⟨a, len', cap', m, nn, D, Pl, hcs, hb, hl, hm, hmm, hx, hi⟩
  · simp [Value.cells] at hcs
    obtain ⟨rfl, rfl, rfl⟩ := hcs
    exact ⟨[], rfl, fun h => absurd h (Nat.lt_irrefl 0), by omega⟩
  · simp [Value.cells] at hcs
    obtain ⟨rfl, rfl, rfl⟩ := hcs
    simp only [if_true] at hmm
    subst hmm
    rw [cells48] at hi
    unfold maxLen at hm
    have key : ∀ i, ∃ q : Ta, i < n → ∀ j v, (taCells q)[j]? = some v → W.cell? ((a.add (i * 5)).add j) = some v := by
      intro i
      by_cases hin : i < n
      · obtain ⟨cs', hc, ht⟩ := hi i (by omega)
        obtain ⟨q, rfl⟩ := tok_of ht
        obtain ⟨_, hcl, hat⟩ := World.cells?_some hc
        exact ⟨q, fun _ j v hj => (hat j (by have := (List.getElem?_eq_some_iff.1 hj).1; simpa [taCells] using this)).trans hj⟩
      · exact ⟨⟨0, ⟨#[]⟩, 0, 0, 0⟩, fun h => absurd h hin⟩
    obtain ⟨g, hg⟩ := Classical.axiomOfChoice key
    refine ⟨(List.range n).map g, by simp, fun hn => ?_, by omega⟩
    have hn' : 0 < n := by simpa using hn
    obtain ⟨ab, ao, spot⟩ := a
    have h0 := hg 0 hn' 0 _ rfl
    have hspot : spot = none := by simpa [Addr.add] using World.cell?_spot h0
    subst hspot
    refine ⟨ab, ao, rfl, fun i q hq => ?_⟩
    rw [List.getElem?_map] at hq
    obtain ⟨i', hi', rfl⟩ := Option.map_eq_some_iff.1 hq
    have hlt' : i < n := by have := (List.getElem?_eq_some_iff.1 hi').1; simpa using this
    rw [List.getElem?_range hlt'] at hi'
    cases hi'
    have h1 : ∀ j v, (taCells (g i))[j]? = some v → W.cell? ⟨ab, ao + i * 5 + j, none⟩ = some v := fun j v hj => by
      have := hg i hlt' j v hj
      rwa [Lib.add_plain, Lib.add_plain] at this
    exact ⟨h1 0 _ rfl, h1 1 _ rfl, h1 2 _ rfl, h1 3 _ rfl, h1 4 _ rfl⟩
end
end Go.Proofs.YtmkfoknhjjgipaaGreatDoor
