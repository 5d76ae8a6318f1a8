/- A region that draws its order, whose operations read, and whose callees make memory of their own: one walk in the text's order. -/
import Derived.Test.YtageahpgcjnkpaaA
import Derived.Laws.Rows
set_option linter.unusedSimpArgs false
set_option linter.unusedVariables false
namespace Go.Proofs.Ytageahpgcjnkpaa
open Go.RowKit

/-- the worlds that have grown out of w -/
def Sub (w : World) : Type := { w' : World // Below w.heap.size w w' }
instance (w : World) : Nonempty (Sub w) := ⟨⟨w, Below.refl _ _⟩⟩
theorem wp_region_below {P : Program} {id : Nat} {Q : Exit → Act → World → Prop} {a : Act} {w : World} {l : List Oper} (hm : P.follows .mixedOrders = true) (hB : Region.lexB .any l.toArray = true)
    (h : wpQuiet P l.toArray (fun w' => ∃ s : Sub w, w' = s.val) (fun a' => ∀ w', (∃ s : Sub w, w' = s.val) → Q .normal a' w') l a) : (Code.region id l.toArray true).wp P Q a w :=
  wp_region_quiet (C := fun w' => ∃ s : Sub w, w' = s.val) hm hB ⟨⟨{ w with drawn := w.drawn + 1 }, (Below.refl _ _).drew⟩, rfl⟩ (by simpa using h)
theorem Sub.cell {w : World} {b o : Nat} {v : Value} (h : w.cell? ⟨b, o, none⟩ = some v) : ∀ s : Sub w, s.val.cell? ⟨b, o, none⟩ = some v :=
  fun s => (s.property.cell (p := ⟨b, o, none⟩) (World.block_lt_of_cell? w _ h)).trans h
theorem Sub.call {P : Program} {f : FuncId} {args : Array Value} {w : World} {s : Sub w} {v : Value} (h : Calls P f args s.val fun e w' => e = .returned v ∧ Below s.val.heap.size s.val w') :
    Calls P f args s.val fun e w'' => e = .returned v ∧ ∃ t : Sub w, w'' = t.val :=
  h.mono fun _ w'' ⟨he, hb⟩ => ⟨he, ⟨w'', Below.next s.property hb⟩, rfl⟩
/-- a region in a block of its own -/
def Box4 (w : World) (b : Nat) (r : Reg) : Prop :=
  w.cell? ⟨b, 0, none⟩ = some (.string r.name) ∧ w.cell? ⟨b, 1, none⟩ = some (.int .i64 r.addr) ∧ w.cell? ⟨b, 2, none⟩ = some (.int .i64 r.size) ∧ w.cell? ⟨b, 3, none⟩ = some (.bool r.sec)
theorem Box4.sub {w : World} {b : Nat} {r : Reg} (h : Box4 w b r) : (∀ s : Sub w, s.val.cell? ⟨b, 0, none⟩ = some (.string r.name)) ∧ (∀ s : Sub w, s.val.cell? ⟨b, 1, none⟩ = some (.int .i64 r.addr)) ∧
    (∀ s : Sub w, s.val.cell? ⟨b, 2, none⟩ = some (.int .i64 r.size)) ∧ (∀ s : Sub w, s.val.cell? ⟨b, 3, none⟩ = some (.bool r.sec)) :=
  ⟨Sub.cell h.1, Sub.cell h.2.1, Sub.cell h.2.2.1, Sub.cell h.2.2.2⟩
theorem Box4.below {w w' : World} {B b : Nat} {r : Reg} (h : Box4 w b r) (hb : Below B w w') (hlt : b < B) : Box4 w' b r :=
  ⟨(hb.cell (p := ⟨b, 0, none⟩) hlt).trans h.1, (hb.cell (p := ⟨b, 1, none⟩) hlt).trans h.2.1, (hb.cell (p := ⟨b, 2, none⟩) hlt).trans h.2.2.1, (hb.cell (p := ⟨b, 3, none⟩) hlt).trans h.2.2.2⟩
theorem box4_of {w : World} {b : Nat} {r : Reg} {t : TypeId} (h : w.heap[b]? = some (.cells #[.string r.name, .int .i64 r.addr, .int .i64 r.size, .bool r.sec] t (0, 0))) : Box4 w b r := by
  refine ⟨?_, ?_, ?_, ?_⟩ <;> (rw [cell_of_row _ _ _ _ _ _ h]; rfl)
theorem box4_new (w : World) (r : Reg) (t : TypeId) : Box4 (w.alloc (.cells #[.string r.name, .int .i64 r.addr, .int .i64 r.size, .bool r.sec] t)) w.heap.size r := box4_of (heap_alloc_new w _)
end Go.Proofs.Ytageahpgcjnkpaa
