/- Regions that draw, within a round; boxes of one cell. -/
import Derived.Test.YtmimmnjdgpdjlaaGreatDoorAK
import Derived.Test.YtmimmnjdgpdjlaaGreatDoorAL
set_option linter.unusedSimpArgs false
set_option linter.unusedVariables false
namespace Go.Proofs.YtmimmnjdgpdjlaaGreatDoor
open Go.RowKit Go.Lib Go.Shelf

def noDefer (l : List Oper) : Bool := l.all fun o => match o.op with | .defer _ => false | _ => true
theorem noDefer_spec {l : List Oper} (h : noDefer l = true) : ∀ o, o ∈ l.toArray → ∀ c, o.op ≠ .defer c := by
  intro o ho c he
  have := List.all_eq_true.1 h o (by simpa using ho)
  rw [he] at this
  cases this
theorem wpIn_round {o : Oper} {n l : Nat} {P : Program} {a : Act} {w : World} {K : Act → World → Prop} {Q : Exit → Act → World → Prop} (hnd : ∀ c, o.op ≠ .defer c) (h : o.wpIn Fence.wide n P a w K Q) : o.wpIn (Fence.wide.inRound l) n P a w K Q := by
  unfold Oper.wpIn at h ⊢
  rw [Oper.semAt_plain _ _ _ hnd] at h ⊢
  refine ⟨fun _ _ => trivial, ?_⟩
  have h := h.2
  revert h
  generalize (execOp a.eval o).run P w = r
  intro h
  cases r with
  | ok x w' =>
    cases x with
    | enter f args => exact ⟨h.1, trivial, h.2.2⟩
    | row row args => exact ⟨h.1, h.2⟩
    | round l f tmps assign body => exact ⟨h.1, trivial, h.2.2⟩
    | _ => exact h
  | halt x w' => cases x <;> exact h
theorem wpOpIn_round {n l i : Nat} {P : Program} {ops : Array Oper} {a : Act} {w : World} {K K' : Act → World → Prop} {Q : Exit → Act → World → Prop} (hnd : ∀ o, o ∈ ops → ∀ c, o.op ≠ .defer c) (hK : ∀ a w, K a w → K' a w) (h : wpOpIn Fence.wide n P ops Q i K a w) : wpOpIn (Fence.wide.inRound l) n P ops Q i K' a w := by
  have h := wpOpIn_mono hK h
  unfold wpOpIn at h ⊢
  split
  · rename_i ho; simpa only [ho] using h
  · rename_i o ho
    simp only [ho] at h
    split
    · rename_i hw; simp only [hw, if_true] at h; exact wpIn_round (hnd o (Array.mem_of_getElem? ho)) h
    · rename_i hw; simp only [hw] at h; exact ⟨fun _ _ => trivial, h.2⟩
theorem wpAnyIn_round {n l : Nat} {P : Program} {md : Region.Mode} {ops : Array Oper} {Q : Exit → Act → World → Prop} (hnd : ∀ o, o ∈ ops → ∀ c, o.op ≠ .defer c) : ∀ (fuel : Nat) (listed : Array Bool) (a : Act) (w : World),
    wpAnyIn Fence.wide n P md ops Q fuel listed a w → wpAnyIn (Fence.wide.inRound l) n P md ops Q fuel listed a w
  | 0, _, _, _, h => h
  | fuel + 1, _, _, _, h => ⟨h.1, fun i hi => wpOpIn_round hnd (fun a w => wpAnyIn_round hnd fuel _ a w) (h.2 i hi)⟩
theorem wpIn_region_any_r {n l id : Nat} {P : Program} {L : List Oper} {Q : Exit → Act → World → Prop} {a : Act} {w : World} (hnd : noDefer L = true) (hm : P.follows .mixedOrders = true)
    (h : wpAnyIn Fence.wide n P .any L.toArray Q L.toArray.size (Array.replicate L.toArray.size false) a w.drew) : (Code.region id L.toArray true).wpIn (Fence.wide.inRound l) n P Q a w :=
  wpIn_region_any hm (wpAnyIn_round (noDefer_spec hnd) _ _ _ _ h)
theorem wpIn_region_below_tail_r {m ll : Nat} {P : Program} {id : Nat} {Q : Exit → Act → World → Prop} {a : Act} {w : World} {l : List Oper} (n : Nat) (hnd : noDefer l = true) (hm : P.follows .mixedOrders = true) (hB : Region.lexTailB .any l.toArray n = true)
    (h : wpQuiet P l.toArray (fun w' => ∃ s : Sub w, w' = s.val) (fun a' => ∀ w', (∃ s : Sub w, w' = s.val) → wpListIn Fence.wide m P l.toArray Q (l.drop n) a' w') (l.take n) a) : (Code.region id l.toArray true).wpIn (Fence.wide.inRound ll) m P Q a w := by
  obtain ⟨he, H⟩ := quiet_tail_head n hB h
  refine wpIn_region_any_r hnd hm ?_
  have hdl : (l.drop n).length = l.toArray.size - n := by simp
  have := wpAnyIn_of_headM (m := m) (Q' := Q) (g := l.toArray.size - n) (fun listed a' w' hw' hL => by
    have := wpAnyIn_of_seq (m := m) (md := .any) (Q' := Q) (l.drop n) n listed a' w' (fun j => by simp [List.getElem?_drop]) (by rw [hdl]; exact hL.1) (hL.2 w' hw')
    rwa [hdl] at this) _ _ _ w.drew ⟨⟨w.drew, (Below.refl _ _).drew⟩, rfl⟩ H
  rw [he] at this
  exact this
def Box1 (W : World) (b : Nat) (t : TypeId) (v : Value) : Prop := W.heap[b]? = some (.cells #[v] t (0, 0))
theorem Box1.c {W : World} {b : Nat} {t : TypeId} {v : Value} (h : Box1 W b t v) : W.cell? ⟨b, 0, none⟩ = some v := by rw [blk_cell h]; rfl
theorem Box1.f {W : World} {b : Nat} {t : TypeId} {v : Value} (h : Box1 W b t v) : W.frozen? ⟨b, 0, none⟩ = false := by simp [World.frozen?, show W.heap[b]? = _ from h]
theorem Box1.set {W : World} {b : Nat} {t : TypeId} {v u : Value} (h : Box1 W b t v) : Box1 (W.setCell ⟨b, 0, none⟩ u) b t u := set1o h
theorem Box1.alloc {W : World} {b : Nat} {t : TypeId} {v : Value} (h : Box1 W b t v) (o : Obj) : Box1 (W.alloc o) b t v := (heap_alloc_old _ _ (blk_lt h)).trans h
theorem Box1.other {W : World} {b b' : Nat} {t : TypeId} {v : Value} (h : Box1 W b t v) (hne : b ≠ b') (u : Value) : Box1 (W.setCell ⟨b', 0, none⟩ u) b t v := (Go.Deep.blk_setCell_other _ _ _ _ hne).trans h
theorem Box1.go {W W' : World} {b : Nat} {t : TypeId} {v : Value} (h : Box1 W b t v) (hb : Below W.heap.size W W') : Box1 W' b t v := (hb.block _ (blk_lt h)).trans h
theorem Box1.pu {W : World} {b l : Nat} {t : TypeId} {v : Value} {o : Obj} (h : Box1 W b t v) (hl : W.heap[l]? = some o) (ho : o.isCells = false) (o' : Obj) : Box1 (W.putObj l o') b t v := by
  refine (World.putObj_heap_other ?_).trans h
  rintro rfl
  rw [show W.heap[_]? = _ from h] at hl
  cases hl
  cases ho
/-- what once has in hand -/
structure OnI (w0 : World) (want : ByteArray) (most : Int) (g : Nat) (r : Bool) (cnt : Int) (gt : ByteArray) (W : World) : Prop where
  bel : Below w0.heap.size w0 W
  b4 : Box1 W w0.heap.size 9 (.string want)
  b5 : Box1 W (w0.heap.size + 1) 3 (.int .i64 most)
  b6 : Box1 W (w0.heap.size + 1 + 1) 4 (.bool r)
  b7 : Box1 W (w0.heap.size + 1 + 1 + 1) 3 (.int .i64 cnt)
  b9 : Box1 W g 9 (.string gt)
theorem OnI.go {w0 : World} {want : ByteArray} {most : Int} {g : Nat} {r : Bool} {cnt : Int} {gt : ByteArray} {W W' : World} (h : OnI w0 want most g r cnt gt W) (hb : Below W.heap.size W W') : OnI w0 want most g r cnt gt W' :=
  ⟨Below.next h.bel hb, h.b4.go hb, h.b5.go hb, h.b6.go hb, h.b7.go hb, h.b9.go hb⟩
theorem OnI.pu {w0 : World} {want : ByteArray} {most : Int} {g : Nat} {r : Bool} {cnt : Int} {gt : ByteArray} {W : World} {l : Nat} {o : Obj} (h : OnI w0 want most g r cnt gt W) (hw : w0.heap.size ≤ l) (hl : W.heap[l]? = some o) (ho : o.isCells = false) (o' : Obj) : OnI w0 want most g r cnt gt (W.putObj l o') :=
  ⟨below_put h.bel hw o', h.b4.pu hl ho o', h.b5.pu hl ho o', h.b6.pu hl ho o', h.b7.pu hl ho o', h.b9.pu hl ho o'⟩
theorem OnI.got {w0 : World} {want : ByteArray} {most : Int} {g : Nat} {r : Bool} {cnt : Int} {gt : ByteArray} {W : World} (h : OnI w0 want most g r cnt gt W) (hg : w0.heap.size + 1 + 1 + 1 < g) (s : ByteArray) : OnI w0 want most g r cnt s (W.setCell ⟨g, 0, none⟩ (.string s)) :=
  ⟨h.bel.setCell (p := ⟨g, 0, none⟩) (by show w0.heap.size ≤ g; omega) _, h.b4.other (by omega) _, h.b5.other (by omega) _, h.b6.other (by omega) _, h.b7.other (by omega) _, h.b9.set⟩
theorem OnI.num {w0 : World} {want : ByteArray} {most : Int} {g : Nat} {r : Bool} {cnt : Int} {gt : ByteArray} {W : World} (h : OnI w0 want most g r cnt gt W) (hg : w0.heap.size + 1 + 1 + 1 < g) (n : Int) : OnI w0 want most g r n gt (W.setCell ⟨w0.heap.size + 1 + 1 + 1, 0, none⟩ (.int .i64 n)) :=
  ⟨h.bel.setCell (p := ⟨w0.heap.size + 1 + 1 + 1, 0, none⟩) (by show w0.heap.size ≤ w0.heap.size + 1 + 1 + 1; omega) _, h.b4.other (by omega) _, h.b5.other (by omega) _, h.b6.other (by omega) _, h.b7.set, h.b9.other (by omega) _⟩
theorem OnI.res {w0 : World} {want : ByteArray} {most : Int} {g : Nat} {r : Bool} {cnt : Int} {gt : ByteArray} {W : World} (h : OnI w0 want most g r cnt gt W) (hg : w0.heap.size + 1 + 1 + 1 < g) (b : Bool) : OnI w0 want most g b cnt gt (W.setCell ⟨w0.heap.size + 1 + 1, 0, none⟩ (.bool b)) :=
  ⟨h.bel.setCell (p := ⟨w0.heap.size + 1 + 1, 0, none⟩) (by show w0.heap.size ≤ w0.heap.size + 1 + 1; omega) _, h.b4.other (by omega) _, h.b5.other (by omega) _, h.b6.set, h.b7.other (by omega) _, h.b9.other (by omega) _⟩
end Go.Proofs.YtmimmnjdgpdjlaaGreatDoor
