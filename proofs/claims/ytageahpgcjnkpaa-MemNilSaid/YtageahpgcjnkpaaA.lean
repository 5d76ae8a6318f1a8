/- Plain definitions for the laws of memories: regions, how they lie. -/
import Derived.Test.YtageahpgcjnkpaaRows
import Derived.WalkKit
import Derived.WalkSpells
import Derived.WalkLawsBesides
import Derived.Laws.BitsAllLaws
import Derived.Lib.Hide
import Derived.Deep.QuietTactic
import Derived.BigQuiet
import Derived.Deep.RegionWith
import Derived.Deep.RegionHeld3
import Derived.StillTailTactics
import Derived.ArgAppend
import Derived.Below
set_option linter.unusedSimpArgs false
set_option linter.unusedVariables false
namespace Go.Proofs.Ytageahpgcjnkpaa
open Go.RowKit

/-- a region -/
structure Reg where
  name : ByteArray
  addr : Int
  size : Int
  sec : Bool
instance : Inhabited Reg := ⟨⟨⟨#[]⟩, 0, 0, false⟩⟩

def Reg.val (r : Reg) : Value := .agg #[.string r.name, .int .i64 r.addr, .int .i64 r.size, .bool r.sec]
def Reg.cells (r : Reg) : List Value := [.string r.name, .int .i64 r.addr, .int .i64 r.size, .bool r.sec]
/-- its fields are of their types -/
def Reg.Wf (r : Reg) : Prop := (-9223372036854775808 ≤ r.addr ∧ r.addr ≤ 9223372036854775807) ∧ (-9223372036854775808 ≤ r.size ∧ r.size ≤ 9223372036854775807) ∧ r.name.size ≤ 9223372036854775807

def Reg.end_ (r : Reg) : Int := r.addr + 8 * r.size
/-- a region that may be, by itself -/
def mayB (r : Reg) : Bool := decide (1 ≤ r.name.size) && decide (r.name.size ≤ 16) && decide (1 ≤ r.size) && decide (r.size ≤ 512) && decide (0 ≤ r.addr) && decide (r.addr % 8 = 0) && decide (r.addr ≤ 49152 - 8 * r.size)
/-- two that can't be together -/
def meetB (a b : Reg) : Bool := (a.name.toList == b.name.toList) || (decide (a.addr < b.end_) && decide (b.addr < a.end_))
def mayAt (L : List Reg) (i : Nat) : Bool := mayB (L.getD i default) && (List.range i).all fun k => !(meetB (L.getD i default) (L.getD k default))
def mayL (L : List Reg) : Bool := decide (L.length ≤ 16) && (List.range L.length).all (mayAt L)

theorem mayB_iff (r : Reg) : mayB r = true ↔ (1 ≤ r.name.size ∧ r.name.size ≤ 16 ∧ 1 ≤ r.size ∧ r.size ≤ 512 ∧ 0 ≤ r.addr ∧ r.addr % 8 = 0 ∧ r.addr ≤ 49152 - 8 * r.size) := by
  simp [mayB, and_assoc]

/-- a region's cells from an offset of a block on -/
def RegAt (w : World) (blk o : Nat) (r : Reg) : Prop :=
  w.cell? ⟨blk, o, none⟩ = some (.string r.name) ∧ w.cell? ⟨blk, o + 1, none⟩ = some (.int .i64 r.addr) ∧ w.cell? ⟨blk, o + 2, none⟩ = some (.int .i64 r.size) ∧ w.cell? ⟨blk, o + 3, none⟩ = some (.bool r.sec)
/-- a slice that reads as regions, its block below B -/
def RegsAt (w : World) (B : Nat) (A : Option Addr) (n : Nat) (L : List Reg) : Prop :=
  L.length = n ∧ (∀ r ∈ L, r.Wf) ∧ (0 < n → ∃ blk off, A = some ⟨blk, off, none⟩ ∧ blk < B ∧ ∀ i r, L[i]? = some r → RegAt w blk (off + i * 4) r)

theorem RegAt.keep {w w' : World} {blk o : Nat} {r : Reg} (h : RegAt w blk o r) (hk : ∀ p : Addr, p.block = blk → w'.cell? p = w.cell? p) : RegAt w' blk o r :=
  ⟨(hk _ rfl).trans h.1, (hk _ rfl).trans h.2.1, (hk _ rfl).trans h.2.2.1, (hk _ rfl).trans h.2.2.2⟩
theorem RegAt.below {w w' : World} {B blk o : Nat} {r : Reg} (h : RegAt w blk o r) (hb : Below B w w') (hlt : blk < B) : RegAt w' blk o r := h.keep fun p hp => hb.cell (by rw [hp]; exact hlt)
theorem RegsAt.keep {w w' : World} {B n : Nat} {A : Option Addr} {L : List Reg} (h : RegsAt w B A n L) (hk : ∀ p : Addr, p.block < B → w'.cell? p = w.cell? p) : RegsAt w' B A n L := by
  obtain ⟨hl, hw, hc⟩ := h
  refine ⟨hl, hw, fun hn => ?_⟩
  obtain ⟨blk, off, rfl, hb, hi⟩ := hc hn
  exact ⟨blk, off, rfl, hb, fun i r hr => (hi i r hr).keep fun p hp => hk p (by rw [hp]; exact hb)⟩
theorem RegsAt.below {w w' : World} {B n : Nat} {A : Option Addr} {L : List Reg} (h : RegsAt w B A n L) (hb : Below B w w') : RegsAt w' B A n L := h.keep fun p hp => hb.cell hp
theorem RegsAt.more {w : World} {B B' n : Nat} {A : Option Addr} {L : List Reg} (h : RegsAt w B A n L) (hB : B ≤ B') : RegsAt w B' A n L := by
  obtain ⟨hl, hw, hc⟩ := h
  refine ⟨hl, hw, fun hn => ?_⟩
  obtain ⟨blk, off, rfl, hb, hi⟩ := hc hn
  exact ⟨blk, off, rfl, by omega, hi⟩
theorem RegsAt.at_ {w : World} {B n k : Nat} {A : Option Addr} {L : List Reg} (h : RegsAt w B A n L) (hk : k < n) :
    ∃ blk off r, A = some ⟨blk, off, none⟩ ∧ blk < B ∧ L[k]? = some r ∧ RegAt w blk (off + k * 4) r ∧ r.Wf := by
  obtain ⟨hl, hw, hc⟩ := h
  obtain ⟨blk, off, rfl, hb, hi⟩ := hc (by omega)
  have e : L[k]? = some (L[k]'(by omega)) := List.getElem?_eq_getElem (by omega)
  exact ⟨blk, off, _, rfl, hb, e, hi k _ e, hw _ (List.mem_of_getElem? e)⟩

theorem ret_int {k : IntKind} {a b : Int} (h : a = b) : Ending.returned (.int k a) = .returned (.int k b) := by rw [h]
theorem ret_bool {a b : Bool} (h : a = b) : Ending.returned (.bool a) = .returned (.bool b) := by rw [h]
theorem below_drewN {B : Nat} {a w : World} (h : Below B a w) (n : Nat) : Below B a (w.drewN n) := ⟨h.os, h.tape, h.output, h.size, h.block⟩
theorem Below.next {w w1 w2 : World} (h : Below w.heap.size w w1) (h2 : Below w1.heap.size w1 w2) : Below w.heap.size w w2 := h.trans (h2.mono h.size)
theorem Below.after {w w1 w2 : World} {o : Obj} (h : Below w.heap.size w w1) (h2 : Below (w1.alloc o).heap.size (w1.alloc o) w2) : Below w.heap.size w w2 := Below.next (h.alloc h.size o) h2
theorem bcell {W w1 : World} (hb : Below W.heap.size W w1) : (∀ b o, b < W.heap.size → w1.cell? ⟨b, o, none⟩ = W.cell? ⟨b, o, none⟩) ∧ (∀ b o, b < W.heap.size → w1.frozen? ⟨b, o, none⟩ = W.frozen? ⟨b, o, none⟩) :=
  ⟨fun b o h => hb.cell (p := ⟨b, o, none⟩) h, fun b o h => hb.frozen (p := ⟨b, o, none⟩) h⟩
end Go.Proofs.Ytageahpgcjnkpaa
