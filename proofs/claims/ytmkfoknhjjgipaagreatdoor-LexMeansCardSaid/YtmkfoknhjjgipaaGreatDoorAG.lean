/- A region within a round is walked as outside. -/
import Derived.Test.YtmkfoknhjjgipaaGreatDoorAE
set_option linter.unusedSimpArgs false
set_option linter.unusedVariables false
namespace Go.Proofs.YtmkfoknhjjgipaaGreatDoor
open Go.RowKit Go.Lib Go.Shelf

theorem wpIn_round {o : Oper} {n l : Nat} {P : Program} {a : Act} {w : World} {K : Act → World → Prop} {Q : Exit → Act → World → Prop} (hnd : ∀ c, o.op ≠ .defer c) (h : o.wpIn Fence.wide n P a w K Q) : o.wpIn (Fence.wide.inRound l) n P a w K Q := by
  unfold Oper.wpIn at h ⊢
  rw [Oper.semAt_plain _ _ _ hnd] at h ⊢
  refine ⟨fun _ _ => trivial, ?_⟩
  have h := h.2
  revert h
  generalize (execOp a.eval o).run P w = r
  intro h
  cases r with
  | ok x w' =>
    cases x with
    | enter f args => exact ⟨h.1, trivial, h.2.2⟩
    | row row args => exact ⟨h.1, h.2⟩
    | round l f tmps assign body => exact ⟨h.1, trivial, h.2.2⟩
    | _ => exact h
  | halt x w' => cases x <;> exact h
theorem wpOpIn_round {n l i : Nat} {P : Program} {ops : Array Oper} {a : Act} {w : World} {K K' : Act → World → Prop} {Q : Exit → Act → World → Prop} (hnd : ∀ o, o ∈ ops → ∀ c, o.op ≠ .defer c) (hK : ∀ a w, K a w → K' a w) (h : wpOpIn Fence.wide n P ops Q i K a w) : wpOpIn (Fence.wide.inRound l) n P ops Q i K' a w := by
  have h := wpOpIn_mono hK h
  unfold wpOpIn at h ⊢
  split
  · rename_i ho; simpa only [ho] using h
  · rename_i o ho
    simp only [ho] at h
    split
    · rename_i hw; simp only [hw, if_true] at h; exact wpIn_round (hnd o (Array.mem_of_getElem? ho)) h
    · rename_i hw; simp only [hw] at h; exact ⟨fun _ _ => trivial, h.2⟩
theorem wpAnyIn_round {n l : Nat} {P : Program} {md : Region.Mode} {ops : Array Oper} {Q : Exit → Act → World → Prop} (hnd : ∀ o, o ∈ ops → ∀ c, o.op ≠ .defer c) : ∀ (fuel : Nat) (listed : Array Bool) (a : Act) (w : World),
    wpAnyIn Fence.wide n P md ops Q fuel listed a w → wpAnyIn (Fence.wide.inRound l) n P md ops Q fuel listed a w
  | 0, _, _, _, h => h
  | fuel + 1, _, _, _, h => ⟨h.1, fun i hi => wpOpIn_round hnd (fun a w => wpAnyIn_round hnd fuel _ a w) (h.2 i hi)⟩
theorem wpIn_region_any_r {n l id : Nat} {P : Program} {L : List Oper} {Q : Exit → Act → World → Prop} {a : Act} {w : World} (hnd : noDefer L = true) (hm : P.follows .mixedOrders = true)
    (h : wpAnyIn Fence.wide n P .any L.toArray Q L.toArray.size (Array.replicate L.toArray.size false) a w.drew) : (Code.region id L.toArray true).wpIn (Fence.wide.inRound l) n P Q a w :=
  wpIn_region_any hm (wpAnyIn_round (noDefer_spec hnd) _ _ _ _ h)
end Go.Proofs.YtmkfoknhjjgipaaGreatDoor
