/- A struct of flags among the arguments, opened. -/
import Derived.Test.YtkfenljldmbmcaaT6
import Derived.ProofKit
import Derived.OpenShut
import Derived.Lib.SmallJoins
set_option linter.unusedSimpArgs false
set_option linter.unusedVariables false
namespace Go.Proofs.Ytkfenljldmbmcaa
open Go.ChangeShapes Go.WideShapes Go.ChangeAt Go.RowKit

def fiveBools (fs : Array Field) : Bool := fs.toList.map (fun f => (f.type, f.offset)) == [(4, 0), (4, 1), (4, 2), (4, 3), (4, 4)]
theorem und34 : ∃ fs, Try.prog.underlying 34 = some (.struct fs) ∧ fiveBools fs = true := by
  have h : (match Try.prog.underlying 34 with | some (.struct fs) => fiveBools fs | _ => false) = true := by kernel_rfl
  split at h
  · rename_i fs hfs
    exact ⟨fs, hfs, h⟩
  · cases h
theorem five_of {fs : Array Field} (h : fiveBools fs = true) (i : Nat) (hi : i < 5) : ∃ f, fs[i]? = some f ∧ f.type = 4 ∧ f.offset = i := by
  have h' : fs.toList.map (fun f => (f.type, f.offset)) = [(4, 0), (4, 1), (4, 2), (4, 3), (4, 4)] := by simpa [fiveBools] using h
  have e : (fs.toList.map (fun f => (f.type, f.offset)))[i]? = some (4, i) := by
    rw [h']
    match i, hi with
    | 0, _ => rfl
    | 1, _ => rfl
    | 2, _ => rfl
    | 3, _ => rfl
    | 4, _ => rfl
  rw [List.getElem?_map] at e
  cases hf : fs.toList[i]? with
  | none => rw [hf] at e; cases e
  | some f =>
    rw [hf] at e
    simp at e
    exact ⟨f, by simpa using hf, e.1, e.2⟩
theorem arr5 {α : Type} {cs : Array α} (h : cs.size = 5) : ∃ c0 c1 c2 c3 c4, cs = #[c0, c1, c2, c3, c4] := by
  obtain ⟨l⟩ := cs
  match l, h with
  | [a, b, c, d, e], _ => exact ⟨a, b, c, d, e, rfl⟩

theorem open_flags {H : Type} {enc : TypeId × Value → H} {W : World} {r : Reach} {b0 base : Nat} {spare : Nat → Bool} {held : Bool} {v : Value} {d : DataW H} {p : List MemPlace}
    (hv : Value.okWide Try.prog W r b0 34 v) (h : DataW.Trod enc Try.prog W base spare held 34 v d p) :
    ∃ c z s o q : Bool, v = .agg #[.bool c, .bool z, .bool s, .bool o, .bool q] := by
  obtain ⟨fs, hfs, h5⟩ := und34
  obtain ⟨cs, rfl, hsz⟩ := okWide_struct hfs hv
  have h34 : Try.prog.cellsOf 34 = 5 := by kernel_rfl
  have h4 : Try.prog.cellsOf 4 = 1 := by kernel_rfl
  obtain ⟨c0, c1, c2, c3, c4, rfl⟩ := arr5 (hsz.trans h34)
  obtain ⟨fuel, hf⟩ := h
  obtain ⟨xs, n, _, _, _, hlen, hx⟩ := DataW.trod_struct hfs hf
  have key : ∀ i, i < 5 → ∃ b : Bool, #[c0, c1, c2, c3, c4][i]? = some (.bool b) := by
    intro i hi
    obtain ⟨f, e1, e2, e3⟩ := five_of h5 i hi
    have hlt : i < xs.length := by
      have := (Array.getElem?_eq_some_iff.1 e1).1
      omega
    have hg := hx i f e1
    obtain ⟨y, hy⟩ : ∃ y, xs[i]? = some y := ⟨xs[i], List.getElem?_eq_getElem hlt⟩
    rw [e2, e3, h4] at hg
    obtain ⟨b, hb, _⟩ := DataW.trod_bool Try.underlying4 (hg.trans (by first | exact hy | rfl))
    refine ⟨b, ?_⟩
    match i, hi with
    | 0, _ => simpa [Value.cells] using hb
    | 1, _ => simpa [Value.cells] using hb
    | 2, _ => simpa [Value.cells] using hb
    | 3, _ => simpa [Value.cells] using hb
    | 4, _ => simpa [Value.cells] using hb
  obtain ⟨b0, k0⟩ := key 0 (by omega)
  obtain ⟨b1, k1⟩ := key 1 (by omega)
  obtain ⟨b2, k2⟩ := key 2 (by omega)
  obtain ⟨b3, k3⟩ := key 3 (by omega)
  obtain ⟨b4, k4⟩ := key 4 (by omega)
  simp at k0 k1 k2 k3 k4
  subst k0; subst k1; subst k2; subst k3; subst k4
  exact ⟨b0, b1, b2, b3, b4, rfl⟩
end Go.Proofs.Ytkfenljldmbmcaa
