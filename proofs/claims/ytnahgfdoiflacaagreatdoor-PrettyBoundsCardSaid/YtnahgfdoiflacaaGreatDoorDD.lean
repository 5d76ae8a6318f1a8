/- A statement with what its kind names: the values. -/
import Derived.Test.YtnahgfdoiflacaaGreatDoorCB
set_option linter.unusedSimpArgs false
set_option linter.unusedVariables false
namespace Go.Proofs.YtnahgfdoiflacaaGreatDoor
open Go.RowKit Go.Lib Go.Shelf

def sl0 : Sl := ⟨none, 0, 0⟩
def ec0 : EC := ⟨0, 0, ⟨#[]⟩, sl0⟩
/-- what a kind names of a statement's parts -/
def namedC (r : StC) : StC :=
  if r.kd = 1 then ⟨1, r.nm, sl0, r.e, ec0, sl0, 0, 0, sl0, sl0⟩
  else if r.kd = 2 then ⟨2, r.nm, sl0, r.e, r.a, sl0, 0, 0, sl0, sl0⟩
  else if r.kd = 3 then ⟨3, ⟨#[]⟩, sl0, r.e, ec0, sl0, 0, 0, r.bd, r.el⟩
  else if r.kd = 4 then ⟨4, ⟨#[]⟩, sl0, r.e, ec0, sl0, 0, 0, r.bd, sl0⟩
  else if r.kd = 5 then ⟨5, r.nm, sl0, ec0, ec0, sl0, r.lo, r.hi, r.bd, sl0⟩
  else ⟨r.kd, r.nm, r.ns, ec0, ec0, r.ar, 0, 0, sl0, sl0⟩
def ValPost (v : Value) (w : World) (e : Ending) (w' : World) : Prop := e = .returned v ∧ Below w.heap.size w w'
end Go.Proofs.YtnahgfdoiflacaaGreatDoor
