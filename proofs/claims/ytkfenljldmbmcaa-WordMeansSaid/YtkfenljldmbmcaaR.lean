/- A region that draws its order, by an invariant: whatever may come up next keeps it. -/
import Derived.Test.YtkfenljldmbmcaaK
set_option linter.unusedSimpArgs false
set_option linter.unusedVariables false
namespace Go.Proofs.Ytkfenljldmbmcaa
open Go.RowKit Go.MapKept

section
variable {P : Program} {md : Region.Mode} {ops : Array Oper} {Q : Exit → Act → World → Prop}

/-- i is listed too -/
def alsoL (L : Nat → Bool) (i : Nat) : Nat → Bool := fun j => if j = i then true else L j
theorem getD_set (listed : Array Bool) (i : Nat) (hi : i < listed.size) : (fun j => (listed.setIfInBounds i true).getD j false) = alsoL (fun j => listed.getD j false) i := by
  funext j
  unfold alsoL
  by_cases h : j = i
  · subst h; simp [Array.getD, hi]
  · rw [if_neg h]
    show (listed.setIfInBounds i true).getD j false = listed.getD j false
    simp only [Array.getD_eq_getD_getElem?]
    rw [Array.getElem?_setIfInBounds_ne (Ne.symm h)]

theorem ready_spec {listed : Array Bool} {i : Nat} (h : i ∈ Region.ready md ops listed) : ∃ o, ops[i]? = some o ∧ listed.getD i true = false ∧ ∀ e ∈ o.after, Region.binds md e = true → listed.getD e.on false = true := by
  unfold Region.ready at h
  simp only [List.mem_filter, List.mem_range, Bool.and_eq_true, Bool.not_eq_true'] at h
  obtain ⟨hlt, h1, h2⟩ := h
  obtain ⟨o, ho⟩ : ∃ o, ops[i]? = some o := ⟨ops[i], Array.getElem?_eq_getElem hlt⟩
  refine ⟨o, ho, h1, ?_⟩
  rw [ho] at h2
  simp only [Option.map_some, Option.getD_some, Array.all_eq_true] at h2
  intro e he hb
  obtain ⟨j, hj, rfl⟩ := Array.mem_iff_getElem.1 he
  have := h2 j hj
  simpa [hb] using this

theorem ready_all {listed : Array Bool} (hsz : listed.size = ops.size) (hac : ∀ (i : Nat) (o : Oper), ops[i]? = some o → ∀ e ∈ o.after, e.on < i) (h : Region.ready md ops listed = []) : ∀ i, i < ops.size → listed.getD i false = true := by
  intro i
  induction i using Nat.strongRecOn with
  | _ i ih =>
    intro hi
    cases hl : listed.getD i false with
    | true => rfl
    | false =>
      exfalso
      have hm : i ∈ Region.ready md ops listed := by
        unfold Region.ready
        simp only [List.mem_filter, List.mem_range, Bool.and_eq_true, Bool.not_eq_true']
        have hg : ops[i]? = some ops[i] := Array.getElem?_eq_getElem hi
        refine ⟨hi, ?_, ?_⟩
        · have : i < listed.size := by omega
          simpa [Array.getD, this] using hl
        · rw [hg]
          simp only [Option.map_some, Option.getD_some, Array.all_eq_true, Bool.or_eq_true, Bool.not_eq_true']
          intro j hj
          right
          have := hac i _ hg _ (Array.getElem_mem hj)
          exact ih _ this (by omega)
      rw [h] at hm
      cases hm

theorem wpAny_inv (I : (Nat → Bool) → Act → World → Prop) (hac : ∀ (i : Nat) (o : Oper), ops[i]? = some o → ∀ e ∈ o.after, e.on < i)
    (hstep : ∀ (L : Nat → Bool) (a : Act) (w : World) (i : Nat) (o : Oper), ops[i]? = some o → L i = false → (∀ e ∈ o.after, Region.binds md e = true → L e.on = true) → I L a w →
      if Region.wanted o (yielded ops a.tmps) = true then Oper.wp P o a w (I (alsoL L i)) Q else I (alsoL L i) (a.put o.dst undef) w)
    (hend : ∀ (L : Nat → Bool) (a : Act) (w : World), (∀ i : Nat, i < ops.size → L i = true) → I L a w → Q .normal a w) :
    ∀ (fuel : Nat) (listed : Array Bool) (a : Act) (w : World), listed.size = ops.size → listed.toList.countP (fun b => !b) ≤ fuel → I (fun j => listed.getD j false) a w → wpAny P md ops Q fuel listed a w := by
  intro fuel
  induction fuel with
  | zero =>
    intro listed a w hsz hc hI
    have hall : ∀ i, i < ops.size → listed.getD i false = true := by
      intro i hi
      have h0 : listed.toList.countP (fun b => !b) = 0 := by omega
      rw [List.countP_eq_zero] at h0
      have hi' : i < listed.size := by omega
      have := h0 listed[i] (by simp)
      simpa [Array.getD, hi'] using this
    refine ⟨?_, hend _ a w hall hI⟩
    rcases hr : Region.ready md ops listed with _ | ⟨i, r⟩
    · rfl
    · exfalso
      obtain ⟨o, ho, hf, _⟩ := ready_spec (md := md) (ops := ops) (listed := listed) (i := i) (by rw [hr]; simp)
      have hlt : i < ops.size := (Array.getElem?_eq_some_iff.1 ho).1
      have h1 := hall i hlt
      have hi' : i < listed.size := by omega
      simp [Array.getD, hi'] at h1 hf
      rw [h1] at hf; cases hf
  | succ fuel ih =>
    intro listed a w hsz hc hI
    refine ⟨fun hr => hend _ a w (ready_all hsz hac hr) hI, ?_⟩
    intro i hi
    obtain ⟨o, ho, hf, hdep⟩ := ready_spec hi
    have hlt : i < ops.size := (Array.getElem?_eq_some_iff.1 ho).1
    have hi' : i < listed.size := by omega
    have hf' : listed[i] = false := by simpa [Array.getD, hi'] using hf
    have hcnt : (listed.setIfInBounds i true).toList.countP (fun b => !b) ≤ fuel := by
      have hi2 : i < listed.toList.length := by simpa using hi'
      have e1 : listed.toList[i] = false := by simpa using hf'
      rw [Array.toList_setIfInBounds, List.countP_set hi2, e1]
      have hc' := hc
      generalize List.countP (fun b => !b) listed.toList = m at hc' ⊢
      simp
      omega
    have hs := hstep _ a w i o ho (by simpa [Array.getD, hi'] using hf') hdep hI
    refine wpOp_step ho (fun K' hK => ?_)
    by_cases hw : Region.wanted o (yielded ops a.tmps) = true
    · rw [if_pos hw] at hs ⊢
      refine Oper.wp_mono (fun a' w' hI' => hK _ _ (ih _ a' w' (by simpa using hsz) hcnt ?_)) hs
      rw [getD_set listed i hi']; exact hI'
    · rw [if_neg hw] at hs ⊢
      refine hK _ _ (ih _ _ _ (by simpa using hsz) hcnt ?_)
      rw [getD_set listed i hi']; exact hs

theorem wp_region_inv {id : Nat} {a : Act} {w : World} (hm : P.follows .mixedOrders = true) (I : (Nat → Bool) → Act → World → Prop) (hac : ∀ (i : Nat) (o : Oper), ops[i]? = some o → ∀ e ∈ o.after, e.on < i)
    (h0 : I (fun _ => false) a w.drew)
    (hstep : ∀ (L : Nat → Bool) (a : Act) (w : World) (i : Nat) (o : Oper), ops[i]? = some o → L i = false → (∀ e ∈ o.after, Region.binds .any e = true → L e.on = true) → I L a w →
      if Region.wanted o (yielded ops a.tmps) = true then Oper.wp P o a w (I (alsoL L i)) Q else I (alsoL L i) (a.put o.dst undef) w)
    (hend : ∀ (L : Nat → Bool) (a : Act) (w : World), (∀ i : Nat, i < ops.size → L i = true) → I L a w → Q .normal a w) : (Code.region id ops true).wp P Q a w := by
  refine wp_region_any hm (wpAny_inv I hac hstep hend _ _ _ _ (by simp) (by have := List.countP_le_length (p := fun b => !b) (l := List.replicate ops.size false); simpa using this) ?_)
  have : (fun j => (Array.replicate ops.size false).getD j false) = fun _ => false := by
    funext j
    simp only [Array.getD]
    split <;> simp
  rw [this]
  exact h0
end

end Go.Proofs.Ytkfenljldmbmcaa
