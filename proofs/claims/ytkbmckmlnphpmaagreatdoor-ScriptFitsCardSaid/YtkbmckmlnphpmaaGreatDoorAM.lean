/- What the rows' condition gives: the library's variables. From the rows' condition to what the walks ask of the library's variables. What words that came in give. -/
import Derived.Test.YtkbmckmlnphpmaaGreatDoorI
import Derived.ProofKit
import Derived.LaidMore
import Derived.OpenShut
import Derived.Stop.Joined
import Derived.Deep.DeepHandedRow
import Derived.MakeChecks
import Derived.Lib.LaidTab
import Derived.ChangeSlices
import Derived.ChangeMaps5
set_option linter.unusedSimpArgs false
set_option linter.unusedVariables false
namespace Go.Proofs.YtkbmckmlnphpmaaGreatDoor
open Go.RowKit Go.Lib Go.Shelf

def laidL : List (String × DataW Unit) := Rows.scriptWordsRow.laid
theorem gPow : Tryz.prog.globalNamed "internal/strconv.uint64pow10" = some 0 := by kernel_rfl
theorem gSyn : Tryz.prog.globalNamed "strconv.ErrSyntax" = some 2 := by kernel_rfl
theorem gRng : Tryz.prog.globalNamed "strconv.ErrRange" = some 3 := by kernel_rfl
theorem gFirst : Tryz.prog.globalNamed "unicode/utf8.first" = some 4 := by kernel_rfl
/-- a world that meets the condition: the door's own, the pinned table laid -/
noncomputable def laidWorld (os : Os) : World :=
  let w0 := World.doorLaid Tryz.prog 400 os
  { w0 with heap := w0.heap.modify 4 fun
      | .cells _ t frozen => .cells (Pinned.utf8FirstZ.map fun (z : Nat) => Value.int .u8 (z : Int)).toArray t frozen
      | o => o }
theorem door_met (os : Os) (args : Array Value) : laidMetH Tryz.prog laidL ((laidWorld os).forCall (fun _ _ => 0) ⟨#[], args, []⟩).memory :=
  laidMetH_of_parts3 (fuel := 8) (laidMet_of_run' 8 (by kernel_rfl) (by kernel_rfl)) (by kernel_rfl) (by kernel_rfl)
end Go.Proofs.YtkbmckmlnphpmaaGreatDoor
namespace Go.Proofs.YtkbmckmlnphpmaaGreatDoor
open Go.RowKit Go.Lib Go.Shelf

theorem trod_one_iface {H : Type} {enc : TypeId × Value → H} {P : Program} {w : World} {base : Nat} {sp : Nat → Bool} {held : Bool} {fuel : Nat} {t : TypeId} {ms : Array (String × TypeId)} {cs : List Value} {x : DataW H × List MemPlace}
    (ht : P.underlying t = some (.interface ms)) (h : DataW.trod enc P w base sp held fuel t cs = some x) : ∃ c, cs = [c] ∧ (c = .nilIface ∨ ∃ u v, c = .iface u v) := by
  cases fuel with
  | zero => simp [DataW.trod] at h
  | succ fuel =>
    simp only [DataW.trod, ht] at h
    match cs, h with
    | [], h => simp at h
    | [c], h =>
      refine ⟨c, rfl, ?_⟩
      cases c <;> simp at h ⊢
    | _ :: _ :: _, h => simp at h
theorem iface_of_var {W : World} {n : String} {g : Nat} {ps : List MemPlace} {d : DataW Unit} {r : List (String × DataW Unit)} (hg : Tryz.prog.globalNamed n = some g) (ht : (Tryz.prog.globals[g]?).map (·.type) = some 116) (h : DataW.LaidVars Tryz.prog W ((n, d) :: r) ps) :
    ∃ ev, W.cell? ⟨g, 0, none⟩ = some ev ∧ (ev = .nilIface ∨ ∃ te pe, ev = .iface te pe) := by
  obtain ⟨g', t', cs, fuel, p, q, hg', ht', hv, hd, _, _⟩ := h
  obtain rfl := Option.some.inj (hg.symm.trans hg')
  obtain rfl := Option.some.inj (ht.symm.trans ht')
  obtain ⟨c, hc, hcase⟩ := trod_one_iface Tryz.underlying116 hd
  have h0 := World.var?_cell hg hv 0
  have e : cs[0]? = some c := by
    have : cs.toList[0]? = some c := by rw [hc]; rfl
    simpa using this
  exact ⟨c, h0.trans e, hcase⟩
theorem tab_of_var {W : World} {ps : List MemPlace} {r : List (String × DataW Unit)} (h : DataW.LaidVars Tryz.prog W (("internal/strconv.uint64pow10", Rows.laid_internal_strconv_uint64pow10) :: r) ps) : Tab W := by
  obtain ⟨g', t', cs, fuel, p, q, hg', ht', hv, hd, _, _⟩ := h
  have hty : (Tryz.prog.globals[0]?).map (·.type) = some 167 := by kernel_rfl
  obtain rfl := Option.some.inj (gPow.symm.trans hg')
  obtain rfl := Option.some.inj (hty.symm.trans ht')
  have e : (Rows.laid_internal_strconv_uint64pow10 : DataW Unit) = tabData .u64 Lib.pow10Tab := by rfl
  rw [e] at hd
  have h2 := cells_of_tab (e := 40) (n := 20) Tryz.underlying167 Tryz.underlying40 (by kernel_rfl) (by kernel_rfl) hd
  unfold Tab TabIs
  rw [hv, ← h2]
theorem env_of_laid {W : World} (h : laidMetH Tryz.prog laidL W) (hsh : W.ShapedOpen Tryz.prog) : Env W := by
  rw [MakeChecks.laidMetH_plain _ _ _ (by kernel_rfl)] at h
  obtain ⟨ps, h0, _⟩ := h
  obtain ⟨_, _, _, _, _, q1, _, _, _, _, h1, _⟩ := h0
  obtain ⟨_, _, _, _, _, q2, _, _, _, _, h2, _⟩ := h1
  have hT := tab_of_var h2
  obtain ⟨_, _, _, _, _, q3, _, _, _, _, h3, _⟩ := h2
  obtain ⟨_, _, _, _, _, q4, _, _, _, _, h4, _⟩ := h3
  have hR := iface_of_var gRng (by kernel_rfl) h4
  obtain ⟨_, _, _, _, _, q5, _, _, _, _, h5, _⟩ := h4
  have hS := iface_of_var gSyn (by kernel_rfl) h5
  exact ⟨hT, hS, hR, Tryz.laysM146.s1_3 W hsh⟩
end Go.Proofs.YtkbmckmlnphpmaaGreatDoor
namespace Go.Proofs.YtkbmckmlnphpmaaGreatDoor
open Go.ChangeShapes Go.WideShapes Go.ChangeAt Go.RowKit

theorem cells40 : Tryz.prog.cellsOf 40 = 1 := by kernel_rfl
theorem open_words {H : Type} {enc : TypeId × Value → H} {W : World} {a0 : Option Addr} {n cap : Nat} {d : DataW H} {p : List MemPlace}
    (hk : DataW.Trod enc Tryz.prog W 0 (fun _ => true) true 22 (.slice a0 n cap) d p) : ∃ L : List Int, L.length = n ∧ WAt W a0 L := by
  obtain ⟨fuel, hf⟩ := hk
  rcases open_ints Tryz.underlying22 Tryz.underlying40 cells40 hf with ⟨hcs, hx⟩ | ⟨a, len', cap', zs, hcs, _, hl, hm, hz, hx, hcell, hwf⟩
  · simp [Value.cells] at hcs
    obtain ⟨rfl, rfl, rfl⟩ := hcs
    exact ⟨[], rfl, (fun x hx => by cases hx), fun h => absurd h (Nat.lt_irrefl 0)⟩
  · simp [Value.cells] at hcs
    obtain ⟨rfl, rfl, rfl⟩ := hcs
    simp only [if_true] at hz
    have hlen : (zs.take n).length = n := by rw [List.length_take]; omega
    refine ⟨zs.take n, hlen, fun x hx => bounds_u64 (hwf x (List.mem_of_mem_take hx)), fun hn => ?_⟩
    rw [hlen] at hn
    obtain ⟨bb, bo, bs⟩ := a
    have h0 := hcell 0 (by omega)
    have hsp : bs = none := by simpa [Addr.add] using World.cell?_spot h0
    subst hsp
    refine ⟨bb, bo, rfl, fun j x hx => ?_⟩
    have hj : j < n := by have := (List.getElem?_eq_some_iff.1 hx).1; omega
    have h1 := hcell j (by omega)
    rw [Lib.add_plain] at h1
    rw [List.getElem?_take, if_pos hj] at hx
    rw [List.getD_eq_getElem?_getD, hx] at h1
    exact h1
end Go.Proofs.YtkbmckmlnphpmaaGreatDoor
