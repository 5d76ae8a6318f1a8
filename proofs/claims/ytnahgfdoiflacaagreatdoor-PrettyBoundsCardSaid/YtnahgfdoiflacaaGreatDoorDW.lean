/- A region that draws its order: its head is quiet in a class of worlds, its tail comes in one order. Lines of statements, lines of a program, its text: the model; how long they are. -/
import Derived.Test.YtnahgfdoiflacaaGreatDoorO
import Derived.StillTail
import Derived.OrdersIn
import Derived.TacticsInMore
import Derived.ControlIn
import Derived.Test.YtnahgfdoiflacaaGreatDoorDU
import Derived.Test.YtnahgfdoiflacaaGreatDoorX
set_option linter.unusedSimpArgs false
set_option linter.unusedVariables false
namespace Go.Proofs.YtnahgfdoiflacaaGreatDoor
open Go.RowKit Go.Lib Go.Shelf

section
variable {P : Program} {ops : Array Oper} {md : Region.Mode} {C : World → Prop}
/-- the head, whatever order is picked: nothing of the tail comes up -/
def wpAnyM (P : Program) (md : Region.Mode) (ops : Array Oper) (C : World → Prop) (n : Nat) (L : Array Bool → Act → Prop) : Nat → Array Bool → Act → Prop
  | 0, listed, a => L listed a
  | f + 1, listed, a =>
    Region.ready md ops listed ≠ [] ∧ ∀ i ∈ Region.ready md ops listed, i < n ∧ qOp P ops C i (wpAnyM P md ops C n L f (listed.setIfInBounds i true)) a
theorem wpAny_of_headM {n g : Nat} {L : Array Bool → Act → Prop} {Q' : Exit → Act → World → Prop} (hL : ∀ listed a w, C w → L listed a → wpAny P md ops Q' g listed a w) :
    ∀ (f : Nat) (listed : Array Bool) (a : Act) (w : World), C w → wpAnyM P md ops C n L f listed a → wpAny P md ops Q' (f + g) listed a w
  | 0, listed, a, w, hw, h => by rw [Nat.zero_add]; exact hL _ _ _ hw h
  | f + 1, listed, a, w, hw, h => by
    rw [show f + 1 + g = (f + g) + 1 by omega]
    exact ⟨fun h0 => absurd h0 h.1, fun i hi => wpOp_of_qOp hw (fun a' w' hw' h' => wpAny_of_headM hL f _ a' w' hw' h') (h.2 i hi).2⟩
theorem Oper.wpIn_of_quiet {m : Nat} {o : Oper} {a : Act} {K : Act → Prop} {K' : Act → World → Prop} {Q' : Exit → Act → World → Prop} {w : World} (hw : C w) (h : ∀ a w', C w' → K a → K' a w') (hh : o.quiet P a C K) : o.wpIn Fence.wide m P a w K' Q' := by
  obtain ⟨v, h1, h2⟩ := hh
  have h3 := h1 w hw
  unfold Oper.quietAt at h3
  refine ⟨fun f _ => trivial, ?_⟩
  show Oper.uponIn Fence.wide m P o a K' Q' ((o.semAt none a.eval).run P w)
  rw [Oper.semAt_none]
  generalize (execOp a.eval o).run P w = r at *
  cases r with
  | ok n w' =>
    cases n <;> simp only [Oper.quietUpon] at h3 <;> simp only [Oper.uponIn]
    case value u =>
      obtain ⟨e1, e2⟩ := h3
      rw [e1, e2]
      exact h _ _ hw h2
    case skip =>
      obtain ⟨e1, e2⟩ := h3
      rw [e1, ← e2]
      exact h _ _ hw h2
    case enter f args =>
      obtain ⟨e1, hc⟩ := h3
      rw [e1]
      refine ⟨fun hd => absurd hd (by simp [Fence.wide]), (callsIn_wide.2 hc).mono fun e w'' ⟨he, hw''⟩ => ?_⟩
      subst he
      exact h _ _ hw'' h2
  | halt x w' => simp only [Oper.quietUpon] at h3
theorem wpOpIn_of_qOp {m i : Nat} {a : Act} {K : Act → Prop} {K' : Act → World → Prop} {Q' : Exit → Act → World → Prop} {w : World} (hC : C w) (h : ∀ a w', C w' → K a → K' a w') (hh : qOp P ops C i K a) : wpOpIn Fence.wide m P ops Q' i K' a w := by
  unfold qOp at hh
  unfold wpOpIn
  split
  · rename_i ho; simp only [ho] at hh; exact h _ _ hC hh
  · rename_i o ho
    simp only [ho] at hh
    split
    · rename_i hw; simp only [hw, if_true] at hh; exact Oper.wpIn_of_quiet hC h hh
    · rename_i hw; simp only [hw] at hh; exact ⟨fun f _ => trivial, h _ _ hC hh⟩
theorem wpAnyIn_of_headM {m n g : Nat} {L : Array Bool → Act → Prop} {Q' : Exit → Act → World → Prop} (hL : ∀ listed a w, C w → L listed a → wpAnyIn Fence.wide m P md ops Q' g listed a w) :
    ∀ (f : Nat) (listed : Array Bool) (a : Act) (w : World), C w → wpAnyM P md ops C n L f listed a → wpAnyIn Fence.wide m P md ops Q' (f + g) listed a w
  | 0, listed, a, w, hw, h => by rw [Nat.zero_add]; exact hL _ _ _ hw h
  | f + 1, listed, a, w, hw, h => by
    rw [show f + 1 + g = (f + g) + 1 by omega]
    exact ⟨fun h0 => absurd h0 h.1, fun i hi => wpOpIn_of_qOp hw (fun a' w' hw' h' => wpAnyIn_of_headM hL f _ a' w' hw' h') (h.2 i hi).2⟩

theorem wpAnyM_first {n i : Nat} {oi : Oper} {v : Value} {L : Array Bool → Act → Prop} (hi : ops[i]? = some oi) (hsel : ∀ (j : Nat) (o : Oper) cs b, ops[j]? = some o → o.op ≠ .select cs b)
    (hs : Region.sinkB md ops n = true) (hc : Region.chainB md ops n = true) (hn : n < ops.size) (hin : i < n)
    (hdone : ∀ listed a, L listed a → ∀ j ∈ Region.ready md ops listed, n ≤ j) :
    ∀ (f : Nat) (listed : Array Bool) (a : Act), HeadInv md ops n listed →
      (∀ j oj, ops[j]? = some oj → j ≠ i → listed.getD j true = false → (∀ e ∈ oj.after, Region.binds md e = true → e.on ≠ i) → oi.apart ops oj = true) →
      i ∈ Region.ready md ops listed → YieldsIn P ops C oi v a →
      wpAnyM P md ops C n L f (listed.setIfInBounds i true) (a.put oi.dst v) → wpAnyM P md ops C n L (f + 1) listed a := by
  intro f
  induction f with
  | zero =>
    intro listed a inv _ hr hy H
    have hun := (mem_ready.1 hr).1
    refine ⟨fun h => (by rw [h] at hr; cases hr), fun j hj => ?_⟩
    have hjn : j < n := by
      rcases Nat.lt_or_ge j n with h | h
      · exact h
      · exact absurd hj (tail_waits hs hc hn inv _ i rfl hin hun j h)
    refine ⟨hjn, ?_⟩
    by_cases hji : j = i
    · subst hji; exact hy.qOp hi H
    · have := hdone _ _ H j (ready_mono hj hji)
      omega
  | succ f ih =>
    intro listed a inv hfree hr hy H
    have hun := (mem_ready.1 hr).1
    refine ⟨fun h => (by rw [h] at hr; cases hr), fun j hj => ?_⟩
    have hjn : j < n := by
      rcases Nat.lt_or_ge j n with h | h
      · exact h
      · exact absurd hj (tail_waits hs hc hn inv _ i rfl hin hun j h)
    refine ⟨hjn, ?_⟩
    by_cases hji : j = i
    · subst hji; exact hy.qOp hi H
    · have h1 := (H.2 j (ready_mono hj hji)).2
      obtain ⟨hjun, oj, hoj, hall⟩ := mem_ready.1 hj
      have hnot : ∀ e ∈ oj.after, Region.binds md e = true → e.on ≠ i := fun e he hb heq => by
        have h1 := hall e he hb
        rw [heq, getD_both hun] at h1
        cases h1
      have h2 := qOp_put hoj (hfree j oj hoj hji hjun hnot) (fun cs b => hsel i oi cs b hi) (fun cs b => hsel j oj cs b hoj) hy h1
      have hfree' : ∀ k ok, ops[k]? = some ok → k ≠ i → (listed.setIfInBounds j true).getD k true = false →
          (∀ e ∈ ok.after, Region.binds md e = true → e.on ≠ i) → oi.apart ops ok = true := fun k ok hk hki hun hno => by
        refine hfree k ok hk hki ?_ hno
        by_cases hjk : j = k
        · subst hjk; exact hjun
        · rw [getD_set_ne true hjk] at hun; exact hun
      refine qOp_mono (fun a' h3 => ih (listed.setIfInBounds j true) a' (inv.set hj hjn) hfree' (ready_mono hr (Ne.symm hji)) h3.1 ?_) h2
      rw [Array.setIfInBounds_comm _ _ hji]
      exact h3.2
theorem wpAnyM_lex {n g : Nat} {Lq : Act → Prop} (hsel : Region.noSelect ops = true) (hs : Region.sinkB md ops n = true) (hc : Region.chainB md ops n = true) (hn : n < ops.size) :
    ∀ (l : List Oper) (k : Nat) (listed : Array Bool) (a : Act), (∀ j, j < l.length → l[j]? = ops[k + j]?) → k + l.length = n → HeadInv md ops n listed →
    Region.lexHead md ops g l.length k listed = true → wpQuiet P ops C Lq l a →
    wpAnyM P md ops C n (fun listed' a' => Region.seqB md ops g n listed' = true ∧ Lq a') l.length listed a
  | [], k, listed, a, _, hk, _, hB, h => by
    have : k = n := by simpa using hk
    subst this
    exact ⟨by simpa [Region.lexHead] using hB, h⟩
  | o :: l, k, listed, a, hl, hk, inv, hB, h => by
    have h0 : ops[k]? = some o := by simpa using (hl 0 (by simp)).symm
    simp only [List.length_cons, Region.lexHead, Bool.and_eq_true] at hB
    obtain ⟨⟨hr, hf⟩, hB'⟩ := hB
    have hkn : k < n := by simp only [List.length_cons] at hk; omega
    have hr' : k ∈ Region.ready md ops listed := by simpa using hr
    have hst : qOp P ops C k (wpQuiet P ops C Lq l) a := by unfold qOp; simp only [h0]; exact h
    obtain ⟨v, hy, hK⟩ := yieldsIn_of_qOp h0 hst
    exact wpAnyM_first h0 (Region.noSelect_spec hsel) hs hc hn hkn (fun listed' a' hL => seqB_ready hL.1) l.length listed a inv (Region.free_spec h0 hf) hr' hy
      (wpAnyM_lex hsel hs hc hn l (k + 1) _ _ (fun j hj => by have := hl (j + 1) (by simp; omega); simpa [Nat.add_assoc, Nat.add_comm 1 j] using this) (by simp only [List.length_cons] at hk; omega) (inv.set hr' hkn) hB' hK)
theorem wpAnyIn_of_seq {m : Nat} {Q' : Exit → Act → World → Prop} : ∀ (l : List Oper) (k : Nat) (listed : Array Bool) (a : Act) (w : World), (∀ j, l[j]? = ops[k + j]?) →
    Region.seqB md ops l.length k listed = true → wpListIn Fence.wide m P ops Q' l a w → wpAnyIn Fence.wide m P md ops Q' l.length listed a w
  | [], _, _, _, _, _, hB, h => ⟨by simpa [Region.seqB] using hB, h⟩
  | o :: l, k, listed, a, w, hl, hB, h => by
    have h0 : ops[k]? = some o := by simpa using (hl 0).symm
    simp only [List.length_cons, Region.seqB, Bool.and_eq_true, decide_eq_true_eq] at hB
    refine ⟨fun h1 => (by rw [hB.1] at h1; cases h1), fun i hi => ?_⟩
    rw [hB.1] at hi
    have hik : i = k := by simpa using hi
    subst hik
    have hw : wpOpIn Fence.wide m P ops Q' i (wpListIn Fence.wide m P ops Q' l) a w := by unfold wpOpIn; simp only [h0]; exact h
    exact wpOpIn_mono (fun a' w' h' => wpAnyIn_of_seq l (i + 1) _ a' w' (fun j => by have := hl (j + 1); simpa [Nat.add_assoc, Nat.add_comm 1 j] using this) hB.2 h') hw
theorem quiet_tail_head {a : Act} {l : List Oper} {Lq : Act → Prop} (n : Nat) (hB : Region.lexTailB .any l.toArray n = true) (h : wpQuiet P l.toArray C Lq (l.take n) a) :
    n + (l.toArray.size - n) = l.toArray.size ∧ wpAnyM P .any l.toArray C n (fun listed' a' => Region.seqB .any l.toArray (l.toArray.size - n) n listed' = true ∧ Lq a') n (Array.replicate l.toArray.size false) a := by
  simp only [Region.lexTailB, Bool.and_eq_true, decide_eq_true_eq] at hB
  obtain ⟨⟨⟨⟨hsel, hn⟩, hs⟩, hc⟩, hlex⟩ := hB
  have hn' : n < l.length := by simpa using hn
  have htl : (l.take n).length = n := by simp; omega
  have inv0 : HeadInv .any l.toArray n (Array.replicate l.toArray.size false) :=
    ⟨by simp, fun j oj _ hl => (by rw [getD_replicate_false] at hl; cases hl), fun t _ ht => getD_in (by simpa using ht) (getD_replicate_false _ _)⟩
  have H := wpAnyM_lex (md := .any) (g := l.toArray.size - n) hsel hs hc hn (l.take n) 0 _ a (fun j hj => by
    have hj' : j < n := by rw [htl] at hj; exact hj
    simp [hj']) (by simpa using htl) inv0 (by rw [htl]; exact hlex) h
  rw [htl] at H
  exact ⟨by omega, H⟩
/-- the head quiet in a class of worlds, the tail in its one order -/
theorem wp_region_quiet_tail {id : Nat} {Q : Exit → Act → World → Prop} {a : Act} {w : World} {l : List Oper} (n : Nat) (hm : P.follows .mixedOrders = true) (hB : Region.lexTailB .any l.toArray n = true) (hC : C { w with drawn := w.drawn + 1 })
    (h : wpQuiet P l.toArray C (fun a' => ∀ w', C w' → wpList P l.toArray Q (l.drop n) a' w') (l.take n) a) : (Code.region id l.toArray true).wp P Q a w := by
  obtain ⟨he, H⟩ := quiet_tail_head n hB h
  refine wp_region_any hm ?_
  have hdl : (l.drop n).length = l.toArray.size - n := by simp
  have := wpAny_of_headM (Q' := Q) (g := l.toArray.size - n) (fun listed a' w' hw' hL => by
    have := wpAny_of_seq (md := .any) (Q' := Q) (l.drop n) n listed a' w' (fun j => by simp [List.getElem?_drop]) (by rw [hdl]; exact hL.1) (hL.2 w' hw')
    rwa [hdl] at this) _ _ _ _ hC H
  rw [he] at this
  exact this
theorem wpIn_region_quiet_tail {m id : Nat} {Q : Exit → Act → World → Prop} {a : Act} {w : World} {l : List Oper} (n : Nat) (hm : P.follows .mixedOrders = true) (hB : Region.lexTailB .any l.toArray n = true) (hC : C { w with drawn := w.drawn + 1 })
    (h : wpQuiet P l.toArray C (fun a' => ∀ w', C w' → wpListIn Fence.wide m P l.toArray Q (l.drop n) a' w') (l.take n) a) : (Code.region id l.toArray true).wpIn Fence.wide m P Q a w := by
  obtain ⟨he, H⟩ := quiet_tail_head n hB h
  refine wpIn_region_any hm ?_
  have hdl : (l.drop n).length = l.toArray.size - n := by simp
  have := wpAnyIn_of_headM (m := m) (Q' := Q) (g := l.toArray.size - n) (fun listed a' w' hw' hL => by
    have := wpAnyIn_of_seq (m := m) (md := .any) (Q' := Q) (l.drop n) n listed a' w' (fun j => by simp [List.getElem?_drop]) (by rw [hdl]; exact hL.1) (hL.2 w' hw')
    rwa [hdl] at this) _ _ _ _ hC H
  rw [he] at this
  exact this
end
/-- the worlds that have grown out of w -/
theorem wp_region_below_tail {P : Program} {id : Nat} {Q : Exit → Act → World → Prop} {a : Act} {w : World} {l : List Oper} (n : Nat) (hm : P.follows .mixedOrders = true) (hB : Region.lexTailB .any l.toArray n = true)
    (h : wpQuiet P l.toArray (fun w' => ∃ s : Sub w, w' = s.val) (fun a' => ∀ w', (∃ s : Sub w, w' = s.val) → wpList P l.toArray Q (l.drop n) a' w') (l.take n) a) : (Code.region id l.toArray true).wp P Q a w :=
  wp_region_quiet_tail (C := fun w' => ∃ s : Sub w, w' = s.val) n hm hB ⟨⟨{ w with drawn := w.drawn + 1 }, (Below.refl _ _).drew⟩, rfl⟩ h
theorem wpIn_region_below_tail {m : Nat} {P : Program} {id : Nat} {Q : Exit → Act → World → Prop} {a : Act} {w : World} {l : List Oper} (n : Nat) (hm : P.follows .mixedOrders = true) (hB : Region.lexTailB .any l.toArray n = true)
    (h : wpQuiet P l.toArray (fun w' => ∃ s : Sub w, w' = s.val) (fun a' => ∀ w', (∃ s : Sub w, w' = s.val) → wpListIn Fence.wide m P l.toArray Q (l.drop n) a' w') (l.take n) a) : (Code.region id l.toArray true).wpIn Fence.wide m P Q a w :=
  wpIn_region_quiet_tail (C := fun w' => ∃ s : Sub w, w' = s.val) n hm hB ⟨⟨{ w with drawn := w.drawn + 1 }, (Below.refl _ _).drew⟩, rfl⟩ h
end Go.Proofs.YtnahgfdoiflacaaGreatDoor
namespace Go.Proofs.YtnahgfdoiflacaaGreatDoor
open Go.RowKit Go.Lib Go.Shelf

abbrev Ln := Nat × ByteArray
def endB : ByteArray := ⟨#[125]⟩
def elseB : ByteArray := ⟨#[125, 32, 101, 108, 115, 101, 32, 123]⟩
def flatK (k : Int) : Bool := decide (k < 3) || k == 6
mutual
def linesS (t : Nat) : St → List Ln
  | .node kd nm ns e a ars lo hi bd el =>
    (t, headB (.node kd nm ns e a ars lo hi bd el)) :: (if flatK kd then [] else linesL (t + 1) bd ++ ((if el.isEmpty then [] else (t, elseB) :: linesL (t + 1) el) ++ [(t, endB)]))
def linesL (t : Nat) : List St → List Ln
  | [] => []
  | x :: r => linesS t x ++ linesL t r
end
theorem linesS_eq (t : Nat) (x : St) : linesS t x = (t, headB x) :: (if flatK x.kd then [] else linesL (t + 1) x.bd ++ ((if x.el.isEmpty then [] else (t, elseB) :: linesL (t + 1) x.el) ++ [(t, endB)])) := by
  cases x
  rw [linesS]
  rfl
theorem linesL_append (t : Nat) : ∀ l m : List St, linesL t (l ++ m) = linesL t l ++ linesL t m
  | [], m => by rw [linesL]; rfl
  | x :: l, m => by rw [List.cons_append, linesL, linesL_append t l m, linesL, List.append_assoc]
theorem linesL_nil (t : Nat) : linesL t [] = [] := by rw [linesL]
theorem linesL_take (t : Nat) {L : List St} {k : Nat} {x : St} (h : L[k]? = some x) : linesL t (L.take (k + 1)) = linesL t (L.take k) ++ linesS t x := by
  rw [List.take_add_one, h, linesL_append]
  show _ ++ linesL t [x] = _
  rw [linesL, linesL, List.append_nil]
theorem linesL_split (t : Nat) {L : List St} {k : Nat} {x : St} (h : L[k]? = some x) : linesL t L = linesL t (L.take k) ++ (linesS t x ++ linesL t (L.drop (k + 1))) := by
  have hk : k < L.length := (List.getElem?_eq_some_iff.1 h).1
  have e : L = L.take k ++ (x :: L.drop (k + 1)) := by
    have h2 : L.drop k = x :: L.drop (k + 1) := by
      rw [List.drop_eq_getElem_cons hk]
      congr 1
      exact Option.some.inj ((List.getElem?_eq_getElem hk).symm.trans h)
    rw [← h2, List.take_append_drop]
  conv => lhs; rw [e]
  rw [linesL_append, linesL]
/-- lines are not long -/
def LnsOk (t n : Nat) (l : List Ln) : Prop := l.length ≤ 3 * n ∧ ∀ x ∈ l, x.1 ≤ t + n ∧ x.2.size ≤ 24 * n + 100
theorem LnsOk.nil (t n : Nat) : LnsOk t n [] := ⟨by simp, fun x hx => by cases hx⟩
theorem LnsOk.app {t n m : Nat} {l k : List Ln} (h : LnsOk t n l) (g : LnsOk t m k) : LnsOk t (n + m) (l ++ k) := by
  refine ⟨by rw [List.length_append]; have := h.1; have := g.1; omega, fun x hx => ?_⟩
  rcases List.mem_append.1 hx with hx | hx
  · have := h.2 x hx; omega
  · have := g.2 x hx; omega
theorem headB_len (w : World) (x : St) (r : StC) (h : SNow w x r) : (headB x).size ≤ 24 * cntS x + 100 := by
  have hc := cntS_bd x
  have s1 := txS_size x.e
  have s2 := txS_size x.a
  have s3 := numT_len x.lo h.loh
  have s4 := numT_len x.hi h.hih
  rw [size_list] at s3 s4
  have t5 := join_len (x.ars.map fun x => (txS x).data.toList)
  have t6 := sum_txS x.ars
  have t7 := listT_le x.ns
  have t5' : (listT (x.ars.map txS)).size = (Lib.join (x.ars.map fun x => (txS x).data.toList) [44, 32]).length := by rw [listT_size, List.map_map]; rfl
  rw [List.length_map] at t5
  have z1 : (⟨#[32, 61, 32]⟩ : ByteArray).size = 3 := rfl
  have z2 : (⟨#[59]⟩ : ByteArray).size = 1 := rfl
  have z3 : (⟨#[91]⟩ : ByteArray).size = 1 := rfl
  have z4 : (⟨#[93, 32, 61, 32]⟩ : ByteArray).size = 4 := rfl
  have z5 : (⟨#[105, 102, 32]⟩ : ByteArray).size = 3 := rfl
  have z6 : (⟨#[32, 123]⟩ : ByteArray).size = 2 := rfl
  have z7 : (⟨#[119, 104, 105, 108, 101, 32]⟩ : ByteArray).size = 6 := rfl
  have z8 : (⟨#[102, 111, 114, 32]⟩ : ByteArray).size = 4 := rfl
  have z9 : (⟨#[32]⟩ : ByteArray).size = 1 := rfl
  have z10 : (⟨#[40]⟩ : ByteArray).size = 1 := rfl
  have z11 : (⟨#[41, 59]⟩ : ByteArray).size = 2 := rfl
  unfold headB callB
  split
  · simp only [ByteArray.size_append]; omega
  · split
    · simp only [ByteArray.size_append]; omega
    · split
      · simp only [ByteArray.size_append]; omega
      · split
        · simp only [ByteArray.size_append]; omega
        · split
          · simp only [ByteArray.size_append]; omega
          · split
            · simp only [ByteArray.size_append]; omega
            · simp only [ByteArray.size_append]; omega
theorem linesS_ok {w : World} {x : St} {r : StC} (h : SNow w x r) (hb : ∀ t, LnsOk t (cntSs x.bd) (linesL t x.bd)) (he : ∀ t, LnsOk t (cntSs x.el) (linesL t x.el)) (t : Nat) : LnsOk t (cntS x) (linesS t x) := by
  have hc := cntS_bd x
  have h1 := headB_len w x r h
  have h2 := hb (t + 1)
  have h3 := he (t + 1)
  have z1 : endB.size = 1 := rfl
  have z2 : elseB.size = 8 := rfl
  have len_el : x.el.isEmpty = false → 1 ≤ cntSs x.el := fun hx => by
    cases he' : x.el with
    | nil => rw [he'] at hx; cases hx
    | cons y z => rw [cntSs]; have := cntS_pos y; omega
  rw [linesS_eq]
  split
  · refine ⟨by simp; omega, fun y hy => ?_⟩
    obtain rfl := List.mem_singleton.1 hy
    exact ⟨by show t ≤ _; omega, h1⟩
  · split
    · refine ⟨?_, fun y hy => ?_⟩
      · have := h2.1
        simp only [List.nil_append, List.length_cons, List.length_append, List.length_nil]
        omega
      · simp only [List.nil_append, List.mem_cons, List.mem_append, List.not_mem_nil, or_false] at hy
        rcases hy with rfl | hy | rfl
        · exact ⟨by show t ≤ _; omega, h1⟩
        · have := h2.2 y hy; omega
        · exact ⟨by show t ≤ _; omega, by show endB.size ≤ _; omega⟩
    · rename_i hne
      have := len_el (by simpa using hne)
      refine ⟨?_, fun y hy => ?_⟩
      · have := h2.1
        have := h3.1
        simp only [List.length_cons, List.length_append, List.length_nil]
        omega
      · simp only [List.mem_cons, List.mem_append, List.not_mem_nil, or_false] at hy
        rcases hy with rfl | hy | (rfl | hy) | rfl
        · exact ⟨by show t ≤ _; omega, h1⟩
        · have := h2.2 y hy; omega
        · exact ⟨by show t ≤ _; omega, by show elseB.size ≤ _; omega⟩
        · have := h3.2 y hy; omega
        · exact ⟨by show t ≤ _; omega, by show endB.size ≤ _; omega⟩
theorem linesL_ok {w : World} {L : List St} {A : Option Addr} (h : StsAt w L A) : ∀ t, LnsOk t (cntSs L) (linesL t L) := by
  refine StsAt.all (M := fun L _ => ∀ t, LnsOk t (cntSs L) (linesL t L)) (fun L A h ih t => ?_) L A h
  have hS : ∀ (i : Nat) (x : St), L[i]? = some x → LnsOk t (cntS x) (linesS t x) := fun i x hx => by
    obtain ⟨blk, off, y, r, _, hy, _, hn, hb, he⟩ := h.at_ (List.getElem?_eq_some_iff.1 hx).1
    obtain rfl : y = x := Option.some.inj (hy.symm.trans hx)
    exact linesS_ok hn ((ih i y r.bd.a hx).1 hb) ((ih i y r.el.a hx).2 he) t
  clear ih h
  induction L with
  | nil => rw [linesL]; exact LnsOk.nil _ _
  | cons x r ihr =>
    rw [linesL, cntSs]
    exact (hS 0 x rfl).app (ihr fun i y hy => hS (i + 1) y hy)

/-! a program's lines -/
def spB : ByteArray := ⟨#[32]⟩
def regB (r : RegC) : ByteArray := (⟨#[114, 101, 103, 105, 111, 110, 32]⟩ : ByteArray) ++ r.nm ++ ⟨#[32]⟩ ++ itoaB r.ad ++ ⟨#[32]⟩ ++ itoaB r.sz ++ ⟨(secT r.sc).toArray⟩ ++ ⟨#[59]⟩
def paramB (v : VarC) : ByteArray := v.nm ++ ⟨(secT v.sc).toArray⟩
def fnHd (f : Fn) : ByteArray := (⟨#[102, 110, 32]⟩ : ByteArray) ++ f.nm ++ ⟨#[40]⟩ ++ listT (f.ps.map paramB) ++ ⟨#[41]⟩
def fnRt (f : Fn) : ByteArray := if f.rs.length = 0 then fnHd f else fnHd f ++ ((⟨#[32, 45, 62, 32]⟩ : ByteArray) ++ listT f.rs)
def fnB (f : Fn) : ByteArray := fnRt f ++ ⟨#[32, 123]⟩
def linesF (f : Fn) : List Ln := (0, fnB f) :: (f.vs.map (fun v => (1, varB v)) ++ (linesL 1 f.bd ++ [(0, endB)]))
def linesFs (fs : List Fn) : List Ln := (fs.map linesF).flatten
def linesP (p : Pg) : List Ln := p.rs.map (fun r => (0, regB r)) ++ linesFs p.fs
/-- lines' text -/
def textL (l : List Ln) : List UInt8 := (l.map fun x => (lineT x.1 x.2).data.toList).flatten
def textP (p : Pg) : ByteArray := ⟨(textL (linesP p)).toArray⟩
theorem textL_nil : textL [] = [] := rfl
theorem textL_app (l m : List Ln) : textL (l ++ m) = textL l ++ textL m := by simp [textL]
theorem textL_one (x : Ln) : textL [x] = (lineT x.1 x.2).data.toList := by simp [textL]
theorem lineT_size (t : Nat) (s : ByteArray) : (lineT t s).size = t + s.size + 1 := by
  have e10 : (⟨#[10]⟩ : ByteArray).size = 1 := rfl
  unfold lineT
  rw [ByteArray.size_append, ByteArray.size_append, repeat_size, e10]
theorem textL_len (T S : Nat) : ∀ l : List Ln, (∀ x ∈ l, x.1 ≤ T ∧ x.2.size ≤ S) → (textL l).length ≤ l.length * (T + S + 1)
  | [], _ => by simp [textL]
  | x :: l, h => by
    have h1 := textL_len T S l (fun y hy => h y (List.mem_cons_of_mem _ hy))
    have h2 := h x List.mem_cons_self
    have h3 := lineT_size x.1 x.2
    have e : textL (x :: l) = (lineT x.1 x.2).data.toList ++ textL l := by simp [textL]
    rw [e, List.length_append, size_list, List.length_cons, Nat.add_mul]
    omega
theorem linesFs_take {L : List Fn} {k : Nat} {x : Fn} (h : L[k]? = some x) : linesFs (L.take (k + 1)) = linesFs (L.take k) ++ linesF x := by
  rw [List.take_add_one, h]
  simp [linesFs]
end Go.Proofs.YtnahgfdoiflacaaGreatDoor
