/- A program with one empty function: whether it can be told; its text. -/
import Derived.Test.YtnahgfdoiflacaaGreatDoorU
import Derived.Test.YtnahgfdoiflacaaGreatDoorS
import Derived.Test.YtnahgfdoiflacaaGreatDoorT
import Derived.RangeFuncLeaves
import Derived.RangeFuncNested
import Derived.RangeFuncBound
import Derived.RangeFuncCalls
import Derived.RangeFuncBox
import Derived.OwnWalkIn
import Derived.TacticsInMore
import Derived.LoopNIn
import Derived.LoopIn
import Derived.LoopN
import Derived.Handy
set_option linter.unusedSimpArgs false
set_option linter.unusedVariables false
namespace Go.Proofs.YtnahgfdoiflacaaGreatDoor
open Go.RowKit Go.Lib Go.Shelf

theorem below_put {B l : Nat} {w W : World} (h : Below B w W) (hl : B ≤ l) (o' : Obj) : Below B w (W.putObj l o') :=
  h.trans ⟨rfl, rfl, rfl, by simp, fun k hk => World.putObj_heap_other (by omega)⟩
theorem own_put {W : World} {base l : Nat} {t : TypeId} {sz n : Nat} {v : Value} {L : List Value} {o : Obj} (h : W.ownsRow base t sz v n L) (hl : W.heap[l]? = some o) (ho : o.isCells = false) (o' : Obj) : (W.putObj l o').ownsRow base t sz v n L := by
  refine h.kept (grownBy_putObj' W l o') ?_
  obtain ⟨_, hcase⟩ := h
  rcases hcase with ⟨hv, _⟩ | ⟨g, cap, cur, hv, _, hh, _⟩
  · left; rw [hv]; simp [Value.ownBlock]
  · right
    rw [hv]
    simp only [Value.ownBlock]
    intro e
    injection e with e
    subst e
    rw [hh] at hl
    cases hl
    cases ho
attribute [local go_sem] Oper.semAt_some
/-! marks of loops that are over -/
def mks (Ds : List Nat) : List Deferred := Ds.map fun D => { target := .collected D, args := #[] }
def shutAll : List Nat → World → World
  | [], W => W
  | D :: Ds, W => shutAll Ds (W.putObj D (.deferred none))
theorem leaves_marks {F : Fence} {n : Nat} {P : Program} {fn : Func} {tmps : Array Value} {R : Ending → World → Prop} : ∀ (Ds : List Nat) (W : World), (∀ D ∈ Ds, W.heap[D]? = some (.deferred (some []))) → Ds.Nodup →
    LeavesIn F n P fn tmps R [] .returning (shutAll Ds W) → LeavesInM F n P fn tmps R (mks Ds) .returning W
  | [], W, _, _, h => h
  | D :: Ds, W, hk, hn, h => by
    obtain ⟨h1, h2⟩ := List.nodup_cons.1 hn
    refine ⟨by simp, .inl ⟨D, _, rfl, run_takeDeferred (hk D (by simp)), leaves_marks Ds _ (fun D' hD' => ?_) h2 h⟩⟩
    exact (World.putObj_heap_other (by rintro rfl; exact h1 hD')).trans (hk D' (by simp [hD']))
theorem shut_below {B : Nat} {w : World} : ∀ (Ds : List Nat) (W : World), (∀ D ∈ Ds, B ≤ D) → Below B w W → Below B w (shutAll Ds W)
  | [], W, _, h => h
  | D :: Ds, W, hk, h => shut_below Ds _ (fun D' hD' => hk D' (by simp [hD'])) (below_put h (hk D (by simp)) _)

/-! a text that is being built, as the world grows -/
theorem BuilderAt.go {B b : Nat} {p : Value} {bs : List Value} {W W' : World} (h : Lib.BuilderAt 87 5 B b p bs W) (hb : Below W.heap.size W W') : Lib.BuilderAt 87 5 B b p bs W' := by
  obtain ⟨h1, v, h2, h3, h4⟩ := h
  exact ⟨h1, v, (hb.block b (blk_lt h2)).trans h2, h3.kept (row := none) ⟨hb.os, hb.tape, hb.output, hb.size, fun i hi _ => hb.block i hi⟩ (Classical.em _), h4⟩
theorem BuilderAt.pu {B b l : Nat} {p : Value} {bs : List Value} {W : World} {o : Obj} (h : Lib.BuilderAt 87 5 B b p bs W) (hl : W.heap[l]? = some o) (ho : o.isCells = false) (o' : Obj) : Lib.BuilderAt 87 5 B b p bs (W.putObj l o') := by
  obtain ⟨h1, v, h2, h3, h4⟩ := h
  refine ⟨h1, v, ?_, own_put h3 hl ho o', h4⟩
  have hne : b ≠ l := by
    rintro rfl
    rw [h2] at hl
    cases hl
    cases ho
  exact (World.putObj_heap_other hne).trans h2
theorem IsBuilder.go {B b : Nat} {bs : List Value} {W W' : World} (h : Lib.IsBuilder 87 5 B b bs W) (hb : Below W.heap.size W W') : Lib.IsBuilder 87 5 B b bs W' := h.elim (fun h => .inl (BuilderAt.go h hb)) (fun h => .inr (BuilderAt.go h hb))
theorem IsBuilder.pu {B b l : Nat} {bs : List Value} {W : World} {o : Obj} (h : Lib.IsBuilder 87 5 B b bs W) (hl : W.heap[l]? = some o) (ho : o.isCells = false) (o' : Obj) : Lib.IsBuilder 87 5 B b bs (W.putObj l o') := h.elim (fun h => .inl (BuilderAt.pu h hl ho o')) (fun h => .inr (BuilderAt.pu h hl ho o'))
theorem IsBuilder.cells {B b : Nat} {bs : List Value} {W : World} (h : Lib.IsBuilder 87 5 B b bs W) : ∃ cs, W.heap[b]? = some (.cells cs 87 (0, 0)) := by
  rcases h with ⟨_, v, h, _⟩ | ⟨_, v, h, _⟩
  · exact ⟨_, h⟩
  · exact ⟨_, h⟩
theorem IsBuilder.lo {B b : Nat} {bs : List Value} {W : World} (h : Lib.IsBuilder 87 5 B b bs W) : B ≤ b := by
  rcases h with ⟨h, _⟩ | ⟨h, _⟩ <;> exact h

set_option maxRecDepth 100000 in
set_option maxHeartbeats 2000000 in
theorem deepNil_any (W : World) : Calls Tryz.prog 28 #[.slice none 0 0] W (IntPost 0 W) := by
  have hk : Calls Tryz.prog 79 #[.slice none 0 0, .func (.func 80) #[] #[]] W (IntPost 0 W) := by
    go_enter Tryz.func79, Tryz.ntmps79
    go_wp2
    go_rounds 1
    go_ret
    exact ⟨rfl, Below.refl _ _⟩
  have hk := Lib.hid hk
  go_enter Tryz.func28, Tryz.ntmps28
  go_wp2_with fail
  refine hk.out.mono ?_
  rintro e w1 ⟨rfl, hb⟩
  go_wp2
  go_ret
  exact ⟨rfl, hb⟩
set_option maxRecDepth 100000 in
set_option maxHeartbeats 2000000 in
theorem mayNil_any (W : World) : Calls Tryz.prog 68 #[.slice none 0 0] W (BoolPost true W) := by
  have hd := Lib.hid (deepNil_any W)
  have ha := Lib.hid (fun W' => allT_any 115 (enters_of Tryz.func115 (by kernel_rfl) rfl) (fun _ => true) W' [] none (CellsAt.nil none) 0 W' (Below.refl _ _) (by simp) (fun i x hx => by simp at hx))
  go_enter Tryz.func68, Tryz.ntmps68
  go_wp2_with fail
  refine hd.out.mono ?_
  rintro e w1 ⟨rfl, hb⟩
  go_wp2_with fail
  refine (ha.out w1).mono ?_
  rintro e w2 ⟨rfl, hb2⟩
  go_wp2
  go_ret
  exact ⟨rfl, Below.next hb hb2⟩
def fT : ByteArray := ⟨#[102]⟩
theorem name_f : nameB fT = true := by decide +kernel
set_option maxRecDepth 100000 in
set_option maxHeartbeats 2000000 in
theorem fn63_f (W : World) : Calls Tryz.prog 63 #[.agg #[.string fT, .slice none 0 0, .slice none 0 0, .slice none 0 0, .slice none 0 0]] W (BoolPost true W) := by
  have hx := Lib.hid (heap_alloc_new W (.cells #[.string fT, .slice none 0 0, .slice none 0 0, .slice none 0 0, .slice none 0 0] 54))
  obtain ⟨W1, hW1⟩ : ∃ W1, W.alloc (.cells #[.string fT, .slice none 0 0, .slice none 0 0, .slice none 0 0, .slice none 0 0] 54) = W1 := ⟨_, rfl⟩
  have hb1 : Below W.heap.size W W1 := by rw [← hW1]; exact (Below.refl _ W).alloc (Nat.le_refl _) _
  have hx1 : W1.heap[W.heap.size]? = some (.cells #[.string fT, .slice none 0 0, .slice none 0 0, .slice none 0 0, .slice none 0 0] 54 (0, 0)) := by rw [← hW1]; exact heap_alloc_new _ _
  have hn := name_any fT W1 (by decide)
  rw [name_f] at hn
  have hn := Lib.hid hn
  have hv := Lib.hid (fun (g : Nat) (hent : ∀ args w, (callFunc g args).run Tryz.prog w = .ok (.enter g args) w) (W' : World) => allV_any g hent (fun _ => true) W' [] none (CellsAt.nil none) 0 W' (Below.refl _ _) (by simp) (fun i x hx => by simp at hx))
  have hs := Lib.hid (fun (W' : World) => allS_any 62 (enters_of Tryz.func62 (by kernel_rfl) rfl) (fun _ => true) W' [] none (CellsAt.nil none) 0 W' (Below.refl _ _) (by simp) (fun i x hx => by simp at hx))
  have hm := Lib.hid mayNil_any
  have hW1' := Lib.hid hW1
  have hb1 := Lib.hid hb1
  have hx1 := Lib.hid hx1
  have e65 := Lib.hid (enters_of Tryz.func65 (by kernel_rfl) rfl)
  have e66 := Lib.hid (enters_of Tryz.func66 (by kernel_rfl) rfl)
  clear hx hW1
  have cells : ∀ W2 : World, Below W1.heap.size W1 W2 → W2.cell? ⟨W.heap.size, 0, none⟩ = some (.string fT) ∧ W2.cell? ⟨W.heap.size, 1, none⟩ = some (.slice none 0 0) ∧ W2.cell? ⟨W.heap.size, 2, none⟩ = some (.slice none 0 0) ∧ W2.cell? ⟨W.heap.size, 3, none⟩ = some (.slice none 0 0) ∧ W2.cell? ⟨W.heap.size, 4, none⟩ = some (.slice none 0 0) := fun W2 hb => by
    have h := (hb.block W.heap.size (blk_lt hx1.out)).trans hx1.out
    exact ⟨by rw [blk_cell h]; rfl, by rw [blk_cell h]; rfl, by rw [blk_cell h]; rfl, by rw [blk_cell h]; rfl, by rw [blk_cell h]; rfl⟩
  have cells := Lib.hid cells
  obtain ⟨g0, g1, g2, g3, g4⟩ := cells.out W1 (Below.refl _ _)
  go_enter Tryz.func63, Tryz.ntmps63
  go_wp2_with fail
  rw [hW1'.out]
  go_wp2_with fail
  refine hn.out.mono ?_
  rintro e w1 ⟨rfl, hb2⟩
  have hb2 := Lib.hid hb2
  clear g0 g1 g2 g3 g4
  obtain ⟨g0, g1, g2, g3, g4⟩ := cells.out _ hb2.out
  go_wp2_with fail
  refine (hv.out 65 e65.out _).mono ?_
  rintro e w2 ⟨rfl, hb3⟩
  have hb3 := Lib.hid (Below.next hb2.out hb3)
  clear g0 g1 g2 g3 g4
  obtain ⟨g0, g1, g2, g3, g4⟩ := cells.out _ hb3.out
  go_wp2_with fail
  refine (hv.out 66 e66.out _).mono ?_
  rintro e w2 ⟨rfl, hb4⟩
  have hb4 := Lib.hid (Below.next hb3.out hb4)
  clear g0 g1 g2 g3 g4
  obtain ⟨g0, g1, g2, g3, g4⟩ := cells.out _ hb4.out
  go_wp2_with fail
  refine (hs.out _).mono ?_
  rintro e w2 ⟨rfl, hb5⟩
  have hb5 := Lib.hid (Below.next hb4.out hb5)
  clear g0 g1 g2 g3 g4
  obtain ⟨g0, g1, g2, g3, g4⟩ := cells.out _ hb5.out
  go_wp2_with fail
  refine (hm.out _).mono ?_
  rintro e w2 ⟨rfl, hb6⟩
  have hb6 := Lib.hid (Below.next hb5.out hb6)
  go_wp2
  go_ret
  exact ⟨rfl, Below.next hb1.out hb6.out⟩
/-- the one function lies -/
def fC : FnC := ⟨fT, ⟨none, 0, 0⟩, ⟨none, 0, 0⟩, ⟨none, 0, 0⟩, ⟨none, 0, 0⟩⟩
def FAt (fb : Nat) (W : World) : Prop := W.heap[fb]? = some (.cells #[.string fT, .slice none 0 0, .slice none 0 0, .slice none 0 0, .slice none 0 0] 54 (0, 0))
theorem FAt.cells {fb : Nat} {W : World} (h : FAt fb W) : CellsAt 5 cellsF W [fC] (some ⟨fb, 0, none⟩) := by
  refine ⟨fb, 0, fun _ => rfl, fun i x hx j hj => ?_⟩
  have hi := (List.getElem?_eq_some_iff.1 hx).1
  obtain rfl : i = 0 := by simpa using hi
  cases hx
  rw [show 0 + 0 * 5 + j = j by omega, blk_cell h]
  rcases (show j = 0 ∨ j = 1 ∨ j = 2 ∨ j = 3 ∨ j = 4 by omega) with rfl | rfl | rfl | rfl | rfl <;> rfl
set_option maxRecDepth 100000 in
set_option maxHeartbeats 2000000 in
theorem mayP_f (fb c : Nat) (W : World) (h : FAt fb W) : Calls Tryz.prog 20 #[.agg #[.slice none 0 0, .slice (some ⟨fb, 0, none⟩) 1 c]] W (BoolPost true W) := by
  have hr := Lib.hid (fun (W' : World) => allR_any 61 (enters_of Tryz.func61 (by kernel_rfl) rfl) (fun _ => true) W' [] none (CellsAt.nil none) 0 W' (Below.refl _ _) (by simp) (fun i x hx => by simp at hx))
  have hf := Lib.hid (fun (W' : World) (hb : Below W.heap.size W W') => allF_any 63 (enters_of Tryz.func63 (by kernel_rfl) rfl) (fun _ => true) W [fC] (some ⟨fb, 0, none⟩) h.cells c W' hb (by simp) (fun i x hx W'' hb => by
    have hi := (List.getElem?_eq_some_iff.1 hx).1
    obtain rfl : i = 0 := by simpa using hi
    cases hx
    exact fn63_f W''))
  have hx := Lib.hid (heap_alloc_new W (.cells #[.slice none 0 0, .slice (some ⟨fb, 0, none⟩) 1 c] 39))
  clear h
  go_enter Tryz.func20, Tryz.ntmps20
  go_wp2_with fail
  refine (hr.out _).mono ?_
  rintro e w1 ⟨rfl, hb1⟩
  have hxx := (hb1.block W.heap.size (by simp)).trans hx.out
  have g1 : w1.cell? ⟨W.heap.size, 1, none⟩ = some (.slice (some ⟨fb, 0, none⟩) 1 c) := by rw [blk_cell hxx]; rfl
  have hb1 := Lib.hid (Below.next ((Below.refl _ W).alloc (Nat.le_refl _) _) hb1)
  clear hxx
  go_wp2_with fail
  refine (hf.out _ hb1.out).mono ?_
  rintro e w2 ⟨rfl, hb2⟩
  have hb2 := Lib.hid (Below.next hb1.out hb2)
  go_wp2
  go_ret
  exact ⟨rfl, hb2.out⟩
end Go.Proofs.YtnahgfdoiflacaaGreatDoor

