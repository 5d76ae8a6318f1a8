/- The reader of a script: its state, how it lies. -/
import Derived.Test.YtkbmckmlnphpmaaGreatDoorV
import Derived.Deep.AppendLies
set_option linter.unusedSimpArgs false
set_option linter.unusedVariables false
namespace Go.Proofs.YtkbmckmlnphpmaaGreatDoor
open Go.RowKit Go.Lib Go.Shelf

structure Ask where
  k : Int
  args : List Int
  regs : List (List Int)
  st : Int
  fu : Int
deriving DecidableEq
structure RSt where
  l : List Ask
  args : List Int
  regs : List (List Int)
  on : Bool
def inW : ByteArray := ⟨#[105, 110]⟩
def withW : ByteArray := ⟨#[119, 105, 116, 104]⟩
/-- a line is taken -/
def takeM (r : RSt) (s : ByteArray) : Option RSt :=
  match r.on with
  | false => (match unwM s with | some (p, l) => if p = inW ∧ l.length ≤ 64 then some ⟨r.l, l, [], true⟩ else none | none => none)
  | true =>
    (match unwM s with
    | some (p, l) => if p = withW then (if l.length ≤ 512 ∧ r.regs.length < 16 then some ⟨r.l, r.args, r.regs ++ [l], true⟩ else none)
        else (match unlineM s with | some (k, st, fu) => some ⟨r.l ++ [⟨k, r.args, r.regs, st, fu⟩], r.args, r.regs, false⟩ | none => none)
    | none => none)

/-- words in blocks of F -/
def WF (F : Nat → Prop) (w : World) (A : Option Addr) (ws : List Int) : Prop :=
  (∀ x ∈ ws, 0 ≤ x ∧ x ≤ 18446744073709551615) ∧ (0 < ws.length → ∃ blk off, A = some ⟨blk, off, none⟩ ∧ F blk ∧ ∀ i x, ws[i]? = some x → w.cell? ⟨blk, off + i, none⟩ = some (.int .u64 x))
/-- values that are lists of words -/
def RegVals (F : Nat → Prop) (w : World) (vs : List Value) (W : List (List Int)) : Prop :=
  vs.length = W.length ∧ ∀ (i : Nat) (ws : List Int), W[i]? = some ws → ∃ A c, vs[i]? = some (Value.slice A ws.length c) ∧ ws.length ≤ 4000000 ∧ WF F w A ws
def WsF (F : Nat → Prop) (w : World) (A : Option Addr) (W : List (List Int)) : Prop :=
  0 < W.length → ∃ blk off, A = some ⟨blk, off, none⟩ ∧ F blk ∧ ∀ i ws, W[i]? = some ws → ∃ A' c, w.cell? ⟨blk, off + i, none⟩ = some (.slice A' ws.length c) ∧ ws.length ≤ 4000000 ∧ WF F w A' ws
def askCells (a : Ask) (A1 : Option Addr) (c1 : Nat) (A2 : Option Addr) (c2 : Nat) : List Value := [.int .i64 a.k, .slice A1 a.args.length c1, .slice A2 a.regs.length c2, .int .u64 a.st, .int .i64 a.fu]
/-- an asking's parts lie -/
def AskF (F : Nat → Prop) (w : World) (a : Ask) (A1 A2 : Option Addr) : Prop := WF F w A1 a.args ∧ WsF F w A2 a.regs ∧ a.args.length ≤ 64 ∧ a.regs.length ≤ 16
def AskVals (F : Nat → Prop) (w : World) : List Value → List Ask → Prop
  | vs, [] => vs = []
  | vs, a :: L => ∃ A1 c1 A2 c2 r, vs = askCells a A1 c1 A2 c2 ++ r ∧ AskF F w a A1 A2 ∧ AskVals F w r L

/-- worlds that agree on F -/
def Agree (F : Nat → Prop) (w w' : World) : Prop := ∀ b, F b → w'.heap[b]? = w.heap[b]?
theorem WF.go {F F' : Nat → Prop} {w w' : World} {A : Option Addr} {ws : List Int} (h : WF F w A ws) (hF : ∀ b, F b → F' b) (ha : Agree F w w') : WF F' w' A ws := by
  refine ⟨h.1, fun hn => ?_⟩
  obtain ⟨blk, off, e, hb, hc⟩ := h.2 hn
  exact ⟨blk, off, e, hF _ hb, fun i x hx => (World.cell?_of_block (a := ⟨blk, off + i, none⟩) (ha blk hb)).trans (hc i x hx)⟩
theorem WF.wat {F : Nat → Prop} {w : World} {A : Option Addr} {ws : List Int} (h : WF F w A ws) : WAt w A ws :=
  ⟨h.1, fun hn => by obtain ⟨blk, off, e, _, hc⟩ := h.2 hn; exact ⟨blk, off, e, hc⟩⟩
theorem RegVals.go {F F' : Nat → Prop} {w w' : World} {vs : List Value} {W : List (List Int)} (h : RegVals F w vs W) (hF : ∀ b, F b → F' b) (ha : Agree F w w') : RegVals F' w' vs W := by
  refine ⟨h.1, fun i ws hi => ?_⟩
  obtain ⟨A, c, h1, h2, h3⟩ := h.2 i ws hi
  exact ⟨A, c, h1, h2, h3.go hF ha⟩
theorem WsF.go {F F' : Nat → Prop} {w w' : World} {A : Option Addr} {W : List (List Int)} (h : WsF F w A W) (hF : ∀ b, F b → F' b) (ha : Agree F w w') : WsF F' w' A W := by
  intro hn
  obtain ⟨blk, off, e, hb, hc⟩ := h hn
  refine ⟨blk, off, e, hF _ hb, fun i ws hi => ?_⟩
  obtain ⟨A', c, h1, h2, h3⟩ := hc i ws hi
  exact ⟨A', c, (World.cell?_of_block (a := ⟨blk, off + i, none⟩) (ha blk hb)).trans h1, h2, h3.go hF ha⟩
theorem AskVals.go {F F' : Nat → Prop} {w w' : World} (hF : ∀ b, F b → F' b) (ha : Agree F w w') : ∀ {L : List Ask} {vs : List Value}, AskVals F w vs L → AskVals F' w' vs L
  | [], _, h => h
  | a :: L, _, ⟨A1, c1, A2, c2, r, e, ⟨h1, h2, h3, h4⟩, h5⟩ => ⟨A1, c1, A2, c2, r, e, ⟨h1.go hF ha, h2.go hF ha, h3, h4⟩, AskVals.go hF ha h5⟩
theorem AskVals.snoc {F : Nat → Prop} {w : World} {a : Ask} {A1 A2 : Option Addr} {c1 c2 : Nat} (hk : AskF F w a A1 A2) : ∀ {L : List Ask} {vs : List Value}, AskVals F w vs L → AskVals F w (vs ++ askCells a A1 c1 A2 c2) (L ++ [a])
  | [], vs, h => by
    have h : vs = [] := h
    subst h
    exact ⟨A1, c1, A2, c2, [], by simp, hk, rfl⟩
  | b :: L, _, ⟨B1, d1, B2, d2, r, e, hb, hr⟩ => ⟨B1, d1, B2, d2, r ++ askCells a A1 c1 A2 c2, by rw [e, List.append_assoc], hb, AskVals.snoc hk hr⟩
theorem AskVals.len {F : Nat → Prop} {w : World} : ∀ {L : List Ask} {vs : List Value}, AskVals F w vs L → vs.length = 5 * L.length
  | [], vs, h => by have h : vs = [] := h; subst h; rfl
  | b :: L, _, ⟨B1, d1, B2, d2, r, e, hb, hr⟩ => by rw [e, List.length_append, AskVals.len hr]; simp [askCells]; omega
theorem RegVals.snoc {F : Nat → Prop} {w : World} {vs : List Value} {W : List (List Int)} {A : Option Addr} {c : Nat} {ws : List Int} (h : RegVals F w vs W) (hl : ws.length ≤ 4000000) (hw : WF F w A ws) : RegVals F w (vs ++ [.slice A ws.length c]) (W ++ [ws]) := by
  refine ⟨by simp [h.1], fun i x hi => ?_⟩
  rcases Nat.lt_or_ge i W.length with hlt | hge
  · rw [List.getElem?_append_left hlt] at hi
    obtain ⟨A', c', h1, h2, h3⟩ := h.2 i x hi
    exact ⟨A', c', by rw [List.getElem?_append_left (by rw [h.1]; exact hlt)]; exact h1, h2, h3⟩
  · rw [List.getElem?_append_right hge] at hi
    have h0 : i - W.length = 0 := by
      rcases Nat.eq_zero_or_pos (i - W.length) with h | h
      · exact h
      · rw [List.getElem?_eq_none (by simp; omega)] at hi; cases hi
    rw [h0] at hi
    cases hi
    refine ⟨A, c, ?_, hl, hw⟩
    rw [List.getElem?_append_right (by rw [h.1]; exact hge), h.1, h0]; rfl
/-- the asking that is being read lies -/
structure CurIn (base : Nat) (w : World) (R : Nat) (r : RSt) (F : Nat → Prop) (vl va vr : Value) (Aa : Option Addr) (ca : Nat) (rs : List Value) : Prop where
  va : va = .slice Aa r.args.length ca
  fr : ∀ g, vr.ownBlock = some g → ¬ F g ∧ g ≠ R
  ne : ∀ g, vl.ownBlock = some g → vr.ownBlock ≠ some g
  args : WF F w Aa r.args
  alen : r.args.length ≤ 64
  ownr : w.ownsRow base 22 1 vr r.regs.length rs
  regs : RegVals F w rs r.regs
  rlen : r.regs.length ≤ 16
/-- the reader's state lies -/
structure RdIn (base : Nat) (w : World) (R : Nat) (r : RSt) (F : Nat → Prop) (vl va vr : Value) (qs : List Value) : Prop where
  lt : ∀ b, F b → b < w.heap.size
  fR : ¬ F R
  fl : ∀ g, vl.ownBlock = some g → ¬ F g ∧ g ≠ R
  bR : base ≤ R
  blk : w.heap[R]? = some (.cells #[vl, va, vr, .bool r.on] 98 (0, 0))
  ownl : w.ownsRow base 42 5 vl r.l.length qs
  asks : AskVals F w qs r.l
  cur : r.on = true → ∃ Aa ca rs, CurIn base w R r F vl va vr Aa ca rs
def Rd (base : Nat) (w : World) (R : Nat) (r : RSt) : Prop := ∃ F vl va vr qs, RdIn base w R r F vl va vr qs
theorem CurIn.below {base : Nat} {w w' : World} {R : Nat} {r : RSt} {F : Nat → Prop} {vl va vr : Value} {Aa : Option Addr} {ca : Nat} {rs : List Value} (h : CurIn base w R r F vl va vr Aa ca rs) (hF : ∀ b, F b → b < w.heap.size) (hb : Below w.heap.size w w') :
    CurIn base w' R r F vl va vr Aa ca rs := by
  have hag : Agree F w w' := fun b h => hb.block b (hF b h)
  have hk : w.grownBy w' none := ⟨hb.os, hb.tape, hb.output, hb.size, fun i hi _ => hb.block i hi⟩
  exact ⟨h.va, h.fr, h.ne, h.args.go (fun _ x => x) hag, h.alen, h.ownr.kept hk (Classical.em _), h.regs.go (fun _ x => x) hag, h.rlen⟩
/-- what does not touch the state -/
theorem RdIn.below {base : Nat} {w w' : World} {R : Nat} {r : RSt} {F : Nat → Prop} {vl va vr : Value} {qs : List Value} (h : RdIn base w R r F vl va vr qs) (hb : Below w.heap.size w w') :
    RdIn base w' R r F vl va vr qs := by
  have hag : Agree F w w' := fun b hF => hb.block b (h.lt b hF)
  have hk : w.grownBy w' none := ⟨hb.os, hb.tape, hb.output, hb.size, fun i hi _ => hb.block i hi⟩
  refine ⟨fun b hF => Nat.lt_of_lt_of_le (h.lt b hF) hb.size, h.fR, h.fl, h.bR, (hb.block R (blk_lt h.blk)).trans h.blk, h.ownl.kept hk (Classical.em _), h.asks.go (fun _ x => x) hag, fun hon => ?_⟩
  obtain ⟨Aa, ca, rs, hc⟩ := h.cur hon
  exact ⟨Aa, ca, rs, hc.below h.lt hb⟩
end Go.Proofs.YtkbmckmlnphpmaaGreatDoor
