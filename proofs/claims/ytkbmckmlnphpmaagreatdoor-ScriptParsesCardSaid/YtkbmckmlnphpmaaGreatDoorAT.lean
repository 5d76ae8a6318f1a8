/- The reference's one: how the input that is read lies. -/
import Derived.Test.YtkbmckmlnphpmaaGreatDoorAS
import Derived.Test.YtkbmckmlnphpmaaGreatDoorAP3
import Derived.Test.YtkbmckmlnphpmaaGreatDoorAR
set_option linter.unusedSimpArgs false
set_option linter.unusedVariables false
namespace Go.Proofs.YtkbmckmlnphpmaaGreatDoor
open Go.RowKit Go.Lib Go.Shelf

theorem bit_any (b : Bool) (w : World) : Calls Tryz.prog 90 #[.bool b] w fun e w' => e = .returned (.int .i64 (if b then 1 else 0)) ∧ w = w' := by
  cases b
  all_goals
    go_enter Tryz.func90, Tryz.ntmps90
    go_wp2
    go_ret
    exact ⟨rfl, rfl⟩

/-- the input that is being read lies -/
structure InI (w0 w : World) (I : Nat) (args : List Int) (regs : List (List Int)) (F : Nat → Prop) (A : Option Addr) (ca : Nat) (vr : Value) (rs : List Value) : Prop where
  lt : ∀ b, F b → b < w.heap.size ∧ w0.heap.size < b ∧ b ≠ I
  blk : w.heap[I]? = some (.cells #[.slice A args.length ca, vr] 39 (0, 0))
  bI : w0.heap.size < I
  zero : w.heap[w0.heap.size]? = some (.cells zAsk 42 (0, 0))
  fr : ∀ g, vr.ownBlock = some g → ¬ F g
  wargs : WF F w A args
  alen : args.length ≤ 64
  own : w.ownsRow (I + 1) 22 1 vr regs.length rs
  wregs : RegVals F w rs regs
  rlen : regs.length ≤ 16
  below : Below w0.heap.size w0 w
theorem InI.go {w0 w w' : World} {I : Nat} {args : List Int} {regs : List (List Int)} {F : Nat → Prop} {A : Option Addr} {ca : Nat} {vr : Value} {rs : List Value} (h : InI w0 w I args regs F A ca vr rs) (hb : Below w.heap.size w w') : InI w0 w' I args regs F A ca vr rs := by
  have hag : Agree F w w' := fun b hF => hb.block b (h.lt b hF).1
  have hk : w.grownBy w' none := ⟨hb.os, hb.tape, hb.output, hb.size, fun i hi _ => hb.block i hi⟩
  exact ⟨fun b hF => ⟨Nat.lt_of_lt_of_le (h.lt b hF).1 hb.size, (h.lt b hF).2⟩, (hb.block I (blk_lt h.blk)).trans h.blk, h.bI, (hb.block _ (blk_lt h.zero)).trans h.zero, h.fr, h.wargs.go (fun _ x => x) hag, h.alen, h.own.kept hk (Classical.em _), h.wregs.go (fun _ x => x) hag, h.rlen, Below.next h.below hb⟩
/-- one more list of words -/
theorem InI.more {w0 w w1 w4 : World} {I : Nat} {args : List Int} {regs : List (List Int)} {F : Nat → Prop} {A : Option Addr} {ca : Nat} {vr : Value} {rs : List Value} (h : InI w0 w I args regs F A ca vr rs)
    (hb : Below w.heap.size w w1) {B : Option Addr} {c g cap : Nat} {l : List Int} (hA : WNew w.heap.size w1 B l) (hl : l.length ≤ 512) (hn : regs.length < 16) {o : Obj}
    (hown : w4.ownsRow (I + 1) 22 1 (.slice (some ⟨g, 0, none⟩) (regs.length + 1) cap) (regs.length + 1) (rs ++ [.slice B l.length c])) (hg : (w1.alloc o).grownBy w4 vr.ownBlock) (hat : vr.ownBlock = some g ∨ g = (w1.alloc o).heap.size) :
    InI w0 (w4.setCell ⟨I, 1, none⟩ (.slice (some ⟨g, 0, none⟩) (regs.length + 1) cap)) I args (regs ++ [l]) (fun b => F b ∨ (w.heap.size ≤ b ∧ b < w1.heap.size)) A ca (.slice (some ⟨g, 0, none⟩) (regs.length + 1) cap) (rs ++ [.slice B l.length c]) := by
  have h1 := h.go hb
  have hI := blk_lt h.blk
  have hsz1 := hb.size
  have hsa : (w1.alloc o).heap.size = w1.heap.size + 1 := by simp
  have hgs := hg.size
  have hbI := h.bI
  have hgI : I < g := by
    rcases hat with h6 | h6
    · have := (h.own.lt g h6).1; omega
    · omega
  have hvI : ∀ b, vr.ownBlock = some b → I < b ∧ b < w.heap.size := fun b e => by have := h.own.lt b e; omega
  have hold : ∀ b, b < w1.heap.size → b ≠ I → vr.ownBlock ≠ some b → (w4.setCell ⟨I, 1, none⟩ (.slice (some ⟨g, 0, none⟩) (regs.length + 1) cap)).heap[b]? = w1.heap[b]? := fun b hb1 hb2 hb3 => by
    rw [set_other hb2, hg.block b (by omega) (fun e => hb3 e.symm), heap_alloc_old w1 o hb1]
  have hag : Agree F w1 (w4.setCell ⟨I, 1, none⟩ (.slice (some ⟨g, 0, none⟩) (regs.length + 1) cap)) := fun b hF =>
    hold b (h1.lt b hF).1 (h.lt b hF).2.2 (fun e => h.fr b e hF)
  have hWA : WF (fun b => F b ∨ (w.heap.size ≤ b ∧ b < w1.heap.size)) (w4.setCell ⟨I, 1, none⟩ (.slice (some ⟨g, 0, none⟩) (regs.length + 1) cap)) B l := by
    refine ⟨hA.1, fun hn => ?_⟩
    obtain ⟨blk, e, h2, hcc⟩ := hA.2 hn
    have hbl := cell_some_lt (hcc 0 l[0] (by simp))
    refine ⟨blk, 0, e, .inr ⟨h2, hbl⟩, fun i x hx => ?_⟩
    rw [Nat.zero_add]
    refine (World.cell?_of_block (a := ⟨blk, i, none⟩) (hold blk hbl (by omega) (fun e => ?_))).trans (hcc i x hx)
    have := (hvI blk e).2
    omega
  have hk : w4.grownBy (w4.setCell ⟨I, 1, none⟩ (.slice (some ⟨g, 0, none⟩) (regs.length + 1) cap)) (some I) := ⟨rfl, rfl, rfl, by rw [set_size]; exact Nat.le_refl _, fun i _ hne => set_other (fun e => hne (by rw [e]))⟩
  have hbI4 : w4.heap[I]? = some (.cells #[.slice A args.length ca, vr] 39 (0, 0)) := by
    rw [hg.block I (by omega) (fun e => by have := (hvI I e.symm).1; omega), heap_alloc_old w1 o (by omega)]
    exact h1.blk
  refine ⟨?_, ?_, h.bI, ?_, ?_, h1.wargs.go (fun b hF => .inl hF) hag, h.alen, ?_, (h1.wregs.go (fun b hF => .inl hF) hag).snoc (by omega) hWA, by simp; omega, ?_⟩
  · rw [set_size]
    rintro b (hF | hF)
    · have := h1.lt b hF; exact ⟨by omega, this.2⟩
    · have hw0 := h.below.size; omega
  · have := set_same (o := 1) (v := .slice (some ⟨g, 0, none⟩) (regs.length + 1) cap) hbI4
    exact this
  · rw [hold _ (by omega) (by omega) (fun e => by have := (hvI _ e).1; omega)]
    exact h1.zero
  · intro g' hg'
    simp [Value.ownBlock] at hg'
    subst hg'
    rintro (hF | hF)
    · rcases hat with h6 | h6
      · exact h.fr g h6 hF
      · have := (h.lt g hF).1; omega
    · rcases hat with h6 | h6
      · have := (hvI g h6).2; omega
      · omega
  · have h7 := hown.kept hk (.inr (by simp [Value.ownBlock]; omega))
    simpa using h7
  · have hw0 := h.below.size
    have e1 : Below w0.heap.size w0 (w1.alloc o) := h1.below.alloc h1.below.size _
    have e2 : Below w0.heap.size w0 w4 := e1.grown hg e1.size (fun g' e => by have := hvI g' e; omega)
    exact e2.setCell (by show w0.heap.size ≤ I; omega) _
/-- the asking that has been read lies -/
theorem InI.done {w0 w w' : World} {I : Nat} {args : List Int} {regs : List (List Int)} {F : Nat → Prop} {A Ar : Option Addr} {ca cr : Nat} {rs : List Value} (h : InI w0 w I args regs F A ca (.slice Ar regs.length cr) rs)
    (hAr : 0 < regs.length → ∃ g, Ar = some ⟨g, 0, none⟩ ∧ I + 1 ≤ g ∧ g < w.heap.size ∧ ∀ i v, rs[i]? = some v → w.cell? ⟨g, i, none⟩ = some v)
    (ho : ∀ b, b < w.heap.size → b ≠ w0.heap.size → w'.heap[b]? = w.heap[b]?) (k st fu : Int) : AskF (fun b => w0.heap.size ≤ b) w' ⟨k, args, regs, st, fu⟩ A Ar := by
  have hbI := h.bI
  have hag : Agree F w w' := fun b hF => ho b (h.lt b hF).1 (by have := (h.lt b hF).2.1; omega)
  have hF0 : ∀ b, F b → w0.heap.size ≤ b := fun b hF => by have := (h.lt b hF).2.1; omega
  refine ⟨h.wargs.go hF0 hag, fun hn => ?_, h.alen, h.rlen⟩
  obtain ⟨g, e1, e2, e3, e4⟩ := hAr hn
  refine ⟨g, 0, e1, by show w0.heap.size ≤ g; omega, fun i ws hi => ?_⟩
  obtain ⟨A', c', h7, h8, h9⟩ := h.wregs.2 i ws hi
  refine ⟨A', c', ?_, h8, h9.go hF0 hag⟩
  rw [Nat.zero_add]
  exact (World.cell?_of_block (a := ⟨g, i, none⟩) (ho g e3 (by omega))).trans (e4 i _ h7)
def OnePost (ls : List ByteArray) (at_ : Nat) (w : World) (e : Ending) (w' : World) : Prop :=
  ∃ (a : Ask) (A1 A2 : Option Addr) (c1 c2 nx : Nat) (ok : Bool), e = .returned (.tuple #[askVal a A1 c1 A2 c2, .int .i64 nx, .bool ok]) ∧ Below w.heap.size w w' ∧
   (ok = true → at_ < nx ∧ nx ≤ ls.length ∧ AskF (fun b => w.heap.size ≤ b) w' a A1 A2 ∧ ∀ out args regs, runL ⟨out, args, regs, false⟩ ((ls.take nx).drop at_) = some ⟨out ++ [a], a.args, a.regs, false⟩) ∧
   (ok = false → at_ ≤ nx ∧ nx ≤ ls.length ∧ ∀ out args regs, ∃ r', runL ⟨out, args, regs, false⟩ ((ls.take nx).drop at_) = some r' ∧ (∀ s, ls[nx]? = some s → takeM r' s = none) ∧ (nx = ls.length → r'.on = true))
theorem drop_take_snoc {ls : List ByteArray} {i j : Nat} {x : ByteArray} (h : ls[j]? = some x) (hij : i ≤ j) : (ls.take (j + 1)).drop i = (ls.take j).drop i ++ [x] := by
  have hj := (List.getElem?_eq_some_iff.1 h).1
  rw [List.take_add_one, h, List.drop_append_of_le_length (by rw [List.length_take]; omega)]
  rfl
end Go.Proofs.YtkbmckmlnphpmaaGreatDoor
