/- Regions whose callees make memory: one walk in the text's order. -/
import Derived.Test.YtkbmckmlnphpmaaGreatDoorI
import Derived.BigQuiet
import Derived.Laws.Rows
set_option linter.unusedSimpArgs false
set_option linter.unusedVariables false
namespace Go.Proofs.YtkbmckmlnphpmaaGreatDoor
open Go.RowKit Go.Lib Go.Shelf

/-- the worlds that have grown out of w -/
def Sub (w : World) : Type := { w' : World // Below w.heap.size w w' }
instance (w : World) : Nonempty (Sub w) := ⟨⟨w, Below.refl _ _⟩⟩
theorem wp_region_below {P : Program} {id : Nat} {Q : Exit → Act → World → Prop} {a : Act} {w : World} {l : List Oper} (hm : P.follows .mixedOrders = true) (hB : Region.lexB .any l.toArray = true)
    (h : wpQuiet P l.toArray (fun w' => ∃ s : Sub w, w' = s.val) (fun a' => ∀ w', (∃ s : Sub w, w' = s.val) → Q .normal a' w') l a) : (Code.region id l.toArray true).wp P Q a w :=
  wp_region_quiet (C := fun w' => ∃ s : Sub w, w' = s.val) hm hB ⟨⟨{ w with drawn := w.drawn + 1 }, (Below.refl _ _).drew⟩, rfl⟩ (by simpa using h)
theorem Sub.cell {w : World} {b o : Nat} {v : Value} (h : w.cell? ⟨b, o, none⟩ = some v) : ∀ s : Sub w, s.val.cell? ⟨b, o, none⟩ = some v :=
  fun s => (s.property.cell (p := ⟨b, o, none⟩) (World.block_lt_of_cell? w _ h)).trans h
theorem Sub.call {P : Program} {f : FuncId} {args : Array Value} {w : World} {s : Sub w} {v : Value} (h : Calls P f args s.val fun e w' => e = .returned v ∧ Below s.val.heap.size s.val w') :
    Calls P f args s.val fun e w'' => e = .returned v ∧ ∃ t : Sub w, w'' = t.val :=
  h.mono fun _ w'' ⟨he, hb⟩ => ⟨he, ⟨w'', Below.next s.property hb⟩, rfl⟩
end Go.Proofs.YtkbmckmlnphpmaaGreatDoor
