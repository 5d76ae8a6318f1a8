/- What the rows' condition gives: the library's variables. -/
import Derived.Test.YtmimmnjdgpdjlaaGreatDoorP2
import Derived.ProofKit
import Derived.LaidMore
import Derived.OpenShut
import Derived.Stop.Joined
import Derived.Deep.DeepHandedRow
import Derived.MakeChecks
import Derived.Lib.LaidTab
import Derived.ChangeSlices
import Derived.ChangeMaps5
import Derived.LaidHandle
import Derived.LaidSub
set_option linter.unusedSimpArgs false
set_option linter.unusedVariables false
namespace Go.Proofs.YtmimmnjdgpdjlaaGreatDoor
open Go.RowKit Go.Lib Go.Shelf

def laidL : List (String × DataW Unit) := Rows.asmUnlinesRow.laid
theorem gPow : Tryz.prog.globalNamed "internal/strconv.uint64pow10" = some 3 := by kernel_rfl
theorem gSp : Tryz.prog.globalNamed "strings.asciiSpace" = some 0 := by kernel_rfl
theorem gSyn : Tryz.prog.globalNamed "strconv.ErrSyntax" = some 8 := by kernel_rfl
theorem gRng : Tryz.prog.globalNamed "strconv.ErrRange" = some 9 := by kernel_rfl
/-- a world that meets the condition: the door's own, the pinned table laid -/
noncomputable def laidWorld (os : Os) : World :=
  let w0 := World.doorLaid Tryz.prog 400 os
  { w0 with heap := w0.heap.modify 6 fun
      | .cells _ t frozen => .cells (Pinned.utf8FirstZ.map fun (z : Nat) => Value.int .u8 (z : Int)).toArray t frozen
      | o => o }
def keyP : MemPlace → Nat
  | .cell b off => 2 * (b * 300 + off)
  | .map b => 2 * b + 1
/-- places that are all different: their numbers as bits -/
def apartP : List MemPlace → Nat → Bool
  | [], _ => true
  | p :: ps, m => !m.testBit (keyP p) && apartP ps (m ||| 2 ^ keyP p)
theorem apartP_nodup : ∀ (ps : List MemPlace) (m : Nat), apartP ps m = true → ps.Nodup ∧ ∀ p ∈ ps, m.testBit (keyP p) = false
  | [], m, _ => ⟨List.nodup_nil, fun p h => by cases h⟩
  | p :: ps, m, h => by
    simp only [apartP, Bool.and_eq_true, Bool.not_eq_true'] at h
    obtain ⟨h1, h2⟩ := apartP_nodup ps _ h.2
    refine ⟨List.nodup_cons.2 ⟨fun hm => ?_, h1⟩, fun q hq => ?_⟩
    · have := h2 p hm
      rw [Nat.testBit_or, Nat.testBit_two_pow_self, Bool.or_true] at this
      cases this
    · rcases List.mem_cons.1 hq with rfl | hq
      · exact h.1
      · have := h2 q hq
        rw [Nat.testBit_or, Bool.or_eq_false_iff] at this
        exact this.1
theorem laidMet_of_bits {P : Program} {w : World} {l : List (String × DataW Unit)} (fuel : Nat) (h : (DataW.laidRun P w fuel (l.map (·.1))).map (·.1) = some l)
    (hr : (DataW.laidRun P w fuel (l.map (·.1))).map (fun x => apartP x.2 0 && laidRowsB P w x.2) = some true) : laidMet P l w := by
  cases hx : DataW.laidRun P w fuel (l.map (·.1)) with
  | none => simp [hx] at h
  | some x =>
    obtain ⟨l', ps⟩ := x
    simp only [hx, Option.map_some, Option.some.injEq] at h hr
    subst h
    simp only [Bool.and_eq_true] at hr
    exact laidMet_of_run fuel hx (decide_eq_true (apartP_nodup ps 0 hr.1).1) hr.2
theorem door_met (os : Os) (args : Array Value) : laidMetH Tryz.prog laidL ((laidWorld os).forCall (fun _ _ => 0) ⟨#[], args, []⟩).memory :=
  laidMetH_of_parts3 (fuel := 8) (laidMet_of_bits 8 (by kernel_rfl) (by kernel_rfl)) (by kernel_rfl) (by kernel_rfl)
theorem trod_one_iface {H : Type} {enc : TypeId × Value → H} {P : Program} {w : World} {base : Nat} {sp : Nat → Bool} {held : Bool} {fuel : Nat} {t : TypeId} {ms : Array (String × TypeId)} {cs : List Value} {x : DataW H × List MemPlace}
    (ht : P.underlying t = some (.interface ms)) (h : DataW.trod enc P w base sp held fuel t cs = some x) : ∃ c, cs = [c] ∧ (c = .nilIface ∨ ∃ u v, c = .iface u v) := by
  cases fuel with
  | zero => simp [DataW.trod] at h
  | succ fuel =>
    simp only [DataW.trod, ht] at h
    match cs, h with
    | [], h => simp at h
    | [c], h =>
      refine ⟨c, rfl, ?_⟩
      cases c <;> simp at h ⊢
    | _ :: _ :: _, h => simp at h
theorem iface_of_var {W : World} {n : String} {g : Nat} {ps : List MemPlace} {d : DataW Unit} {r : List (String × DataW Unit)} (hg : Tryz.prog.globalNamed n = some g) (ht : (Tryz.prog.globals[g]?).map (·.type) = some 95) (h : DataW.LaidVars Tryz.prog W ((n, d) :: r) ps) :
    ∃ ev, W.cell? ⟨g, 0, none⟩ = some ev ∧ (ev = .nilIface ∨ ∃ te pe, ev = .iface te pe) := by
  obtain ⟨g', t', cs, fuel, p, q, hg', ht', hv, hd, _, _⟩ := h
  obtain rfl := Option.some.inj (hg.symm.trans hg')
  obtain rfl := Option.some.inj (ht.symm.trans ht')
  obtain ⟨c, hc, hcase⟩ := trod_one_iface Tryz.underlying95 hd
  have h0 := World.var?_cell hg hv 0
  have e : cs[0]? = some c := by
    have : cs.toList[0]? = some c := by rw [hc]; rfl
    simpa using this
  exact ⟨c, h0.trans e, hcase⟩
theorem tab_of_var {W : World} {ps : List MemPlace} {r : List (String × DataW Unit)} (h : DataW.LaidVars Tryz.prog W (("internal/strconv.uint64pow10", Rows.laid_internal_strconv_uint64pow10) :: r) ps) : Tab W := by
  obtain ⟨g', t', cs, fuel, p, q, hg', ht', hv, hd, _, _⟩ := h
  have hty : (Tryz.prog.globals[3]?).map (·.type) = some 172 := by kernel_rfl
  obtain rfl := Option.some.inj (gPow.symm.trans hg')
  obtain rfl := Option.some.inj (hty.symm.trans ht')
  have e : (Rows.laid_internal_strconv_uint64pow10 : DataW Unit) = tabData .u64 Lib.pow10Tab := by rfl
  rw [e] at hd
  have h2 := cells_of_tab (e := 28) (n := 20) Tryz.underlying172 Tryz.underlying28 (by kernel_rfl) (by kernel_rfl) hd
  unfold Tab TabIs
  rw [hv, ← h2]
theorem sp_of_var {W : World} {ps : List MemPlace} {r : List (String × DataW Unit)} (h : DataW.LaidVars Tryz.prog W (("strings.asciiSpace", Rows.laid_strings_asciiSpace) :: r) ps) : Lib.TabIs Tryz.prog W "strings.asciiSpace" .u8 Lib.asciiSpaceTab := by
  obtain ⟨g', t', cs, fuel, p, q, hg', ht', hv, hd, _, _⟩ := h
  have hty : (Tryz.prog.globals[0]?).map (·.type) = some 132 := by kernel_rfl
  obtain rfl := Option.some.inj (gSp.symm.trans hg')
  obtain rfl := Option.some.inj (hty.symm.trans ht')
  have e : (Rows.laid_strings_asciiSpace : DataW Unit) = tabData .u8 Lib.asciiSpaceTab := by kernel_rfl
  rw [e] at hd
  have h2 := cells_of_tab (e := 5) (n := 256) Tryz.underlying132 Tryz.underlying5 (by kernel_rfl) (by kernel_rfl) hd
  unfold TabIs
  rw [hv, ← h2]
theorem env_of_laid {W : World} (h : laidMetH Tryz.prog laidL W) (hsh : W.ShapedOpen Tryz.prog) : Env W := by
  rw [MakeChecks.laidMetH_plain _ _ _ (by kernel_rfl)] at h
  obtain ⟨ps, h0, _⟩ := h
  obtain ⟨_, _, _, _, _, q1, _, _, _, _, h1, _⟩ := h0
  obtain ⟨_, _, _, _, _, q2, _, _, _, _, h2, _⟩ := h1
  have hT := tab_of_var h2
  obtain ⟨_, _, _, _, _, q3, _, _, _, _, h3, _⟩ := h2
  obtain ⟨_, _, _, _, _, q4, _, _, _, _, h4, _⟩ := h3
  have hR := iface_of_var gRng (by kernel_rfl) h4
  obtain ⟨_, _, _, _, _, q5, _, _, _, _, h5, _⟩ := h4
  have hS := iface_of_var gSyn (by kernel_rfl) h5
  obtain ⟨_, _, _, _, _, q6, _, _, _, _, h6, _⟩ := h5
  obtain ⟨_, _, _, _, _, q7, _, _, _, _, h7, _⟩ := h6
  exact ⟨hT, hS, hR, sp_of_var h7, Go.Proofs.cell_of_shapedOpen_int (zero := #[.int .i64 0]) (t := 3) hsh (of_decide_eq_true (by kernel_rfl)) (by kernel_rfl) rfl (by kernel_rfl) (by kernel_rfl) Tryz.underlying3⟩
end Go.Proofs.YtmimmnjdgpdjlaaGreatDoor
