/- The reader of a script: its state, how it lies. A line is taken: the reader starts an asking. A line is taken: the reader's asking goes on, or ends. A line is taken: the reader's asking ends. Lines are cut off a text, and taken: take, Parse. The askings of a text: Parse. -/
import Derived.Test.YtkbmckmlnphpmaaGreatDoorV
import Derived.Deep.AppendLies
set_option linter.unusedSimpArgs false
set_option linter.unusedVariables false
namespace Go.Proofs.YtkbmckmlnphpmaaGreatDoor
open Go.RowKit Go.Lib Go.Shelf

structure Ask where
  k : Int
  args : List Int
  regs : List (List Int)
  st : Int
  fu : Int
deriving DecidableEq
structure RSt where
  l : List Ask
  args : List Int
  regs : List (List Int)
  on : Bool
def inW : ByteArray := ⟨#[105, 110]⟩
def withW : ByteArray := ⟨#[119, 105, 116, 104]⟩
/-- a line is taken -/
def takeM (r : RSt) (s : ByteArray) : Option RSt :=
  match r.on with
  | false => (match unwM s with | some (p, l) => if p = inW ∧ l.length ≤ 64 then some ⟨r.l, l, [], true⟩ else none | none => none)
  | true =>
    (match unwM s with
    | some (p, l) => if p = withW then (if l.length ≤ 512 ∧ r.regs.length < 16 then some ⟨r.l, r.args, r.regs ++ [l], true⟩ else none)
        else (match unlineM s with | some (k, st, fu) => some ⟨r.l ++ [⟨k, r.args, r.regs, st, fu⟩], r.args, r.regs, false⟩ | none => none)
    | none => none)

/-- words in blocks of F -/
def WF (F : Nat → Prop) (w : World) (A : Option Addr) (ws : List Int) : Prop :=
  (∀ x ∈ ws, 0 ≤ x ∧ x ≤ 18446744073709551615) ∧ (0 < ws.length → ∃ blk off, A = some ⟨blk, off, none⟩ ∧ F blk ∧ ∀ i x, ws[i]? = some x → w.cell? ⟨blk, off + i, none⟩ = some (.int .u64 x))
/-- values that are lists of words -/
def RegVals (F : Nat → Prop) (w : World) (vs : List Value) (W : List (List Int)) : Prop :=
  vs.length = W.length ∧ ∀ (i : Nat) (ws : List Int), W[i]? = some ws → ∃ A c, vs[i]? = some (Value.slice A ws.length c) ∧ ws.length ≤ 4000000 ∧ WF F w A ws
def WsF (F : Nat → Prop) (w : World) (A : Option Addr) (W : List (List Int)) : Prop :=
  0 < W.length → ∃ blk off, A = some ⟨blk, off, none⟩ ∧ F blk ∧ ∀ i ws, W[i]? = some ws → ∃ A' c, w.cell? ⟨blk, off + i, none⟩ = some (.slice A' ws.length c) ∧ ws.length ≤ 4000000 ∧ WF F w A' ws
def askCells (a : Ask) (A1 : Option Addr) (c1 : Nat) (A2 : Option Addr) (c2 : Nat) : List Value := [.int .i64 a.k, .slice A1 a.args.length c1, .slice A2 a.regs.length c2, .int .u64 a.st, .int .i64 a.fu]
/-- an asking's parts lie -/
def AskF (F : Nat → Prop) (w : World) (a : Ask) (A1 A2 : Option Addr) : Prop := WF F w A1 a.args ∧ WsF F w A2 a.regs ∧ a.args.length ≤ 64 ∧ a.regs.length ≤ 16
def AskVals (F : Nat → Prop) (w : World) : List Value → List Ask → Prop
  | vs, [] => vs = []
  | vs, a :: L => ∃ A1 c1 A2 c2 r, vs = askCells a A1 c1 A2 c2 ++ r ∧ AskF F w a A1 A2 ∧ AskVals F w r L

/-- worlds that agree on F -/
def Agree (F : Nat → Prop) (w w' : World) : Prop := ∀ b, F b → w'.heap[b]? = w.heap[b]?
theorem WF.go {F F' : Nat → Prop} {w w' : World} {A : Option Addr} {ws : List Int} (h : WF F w A ws) (hF : ∀ b, F b → F' b) (ha : Agree F w w') : WF F' w' A ws := by
  refine ⟨h.1, fun hn => ?_⟩
  obtain ⟨blk, off, e, hb, hc⟩ := h.2 hn
  exact ⟨blk, off, e, hF _ hb, fun i x hx => (World.cell?_of_block (a := ⟨blk, off + i, none⟩) (ha blk hb)).trans (hc i x hx)⟩
theorem WF.wat {F : Nat → Prop} {w : World} {A : Option Addr} {ws : List Int} (h : WF F w A ws) : WAt w A ws :=
  ⟨h.1, fun hn => by obtain ⟨blk, off, e, _, hc⟩ := h.2 hn; exact ⟨blk, off, e, hc⟩⟩
theorem RegVals.go {F F' : Nat → Prop} {w w' : World} {vs : List Value} {W : List (List Int)} (h : RegVals F w vs W) (hF : ∀ b, F b → F' b) (ha : Agree F w w') : RegVals F' w' vs W := by
  refine ⟨h.1, fun i ws hi => ?_⟩
  obtain ⟨A, c, h1, h2, h3⟩ := h.2 i ws hi
  exact ⟨A, c, h1, h2, h3.go hF ha⟩
theorem WsF.go {F F' : Nat → Prop} {w w' : World} {A : Option Addr} {W : List (List Int)} (h : WsF F w A W) (hF : ∀ b, F b → F' b) (ha : Agree F w w') : WsF F' w' A W := by
  intro hn
  obtain ⟨blk, off, e, hb, hc⟩ := h hn
  refine ⟨blk, off, e, hF _ hb, fun i ws hi => ?_⟩
  obtain ⟨A', c, h1, h2, h3⟩ := hc i ws hi
  exact ⟨A', c, (World.cell?_of_block (a := ⟨blk, off + i, none⟩) (ha blk hb)).trans h1, h2, h3.go hF ha⟩
theorem AskVals.go {F F' : Nat → Prop} {w w' : World} (hF : ∀ b, F b → F' b) (ha : Agree F w w') : ∀ {L : List Ask} {vs : List Value}, AskVals F w vs L → AskVals F' w' vs L
  | [], _, h => h
  | a :: L, _, ⟨A1, c1, A2, c2, r, e, ⟨h1, h2, h3, h4⟩, h5⟩ => ⟨A1, c1, A2, c2, r, e, ⟨h1.go hF ha, h2.go hF ha, h3, h4⟩, AskVals.go hF ha h5⟩
theorem AskVals.snoc {F : Nat → Prop} {w : World} {a : Ask} {A1 A2 : Option Addr} {c1 c2 : Nat} (hk : AskF F w a A1 A2) : ∀ {L : List Ask} {vs : List Value}, AskVals F w vs L → AskVals F w (vs ++ askCells a A1 c1 A2 c2) (L ++ [a])
  | [], vs, h => by
    have h : vs = [] := h
    subst h
    exact ⟨A1, c1, A2, c2, [], by simp, hk, rfl⟩
  | b :: L, _, ⟨B1, d1, B2, d2, r, e, hb, hr⟩ => ⟨B1, d1, B2, d2, r ++ askCells a A1 c1 A2 c2, by rw [e, List.append_assoc], hb, AskVals.snoc hk hr⟩
theorem AskVals.len {F : Nat → Prop} {w : World} : ∀ {L : List Ask} {vs : List Value}, AskVals F w vs L → vs.length = 5 * L.length
  | [], vs, h => by have h : vs = [] := h; subst h; rfl
  | b :: L, _, ⟨B1, d1, B2, d2, r, e, hb, hr⟩ => by rw [e, List.length_append, AskVals.len hr]; simp [askCells]; omega
theorem RegVals.snoc {F : Nat → Prop} {w : World} {vs : List Value} {W : List (List Int)} {A : Option Addr} {c : Nat} {ws : List Int} (h : RegVals F w vs W) (hl : ws.length ≤ 4000000) (hw : WF F w A ws) : RegVals F w (vs ++ [.slice A ws.length c]) (W ++ [ws]) := by
  refine ⟨by simp [h.1], fun i x hi => ?_⟩
  rcases Nat.lt_or_ge i W.length with hlt | hge
  · rw [List.getElem?_append_left hlt] at hi
    obtain ⟨A', c', h1, h2, h3⟩ := h.2 i x hi
    exact ⟨A', c', by rw [List.getElem?_append_left (by rw [h.1]; exact hlt)]; exact h1, h2, h3⟩
  · rw [List.getElem?_append_right hge] at hi
    have h0 : i - W.length = 0 := by
      rcases Nat.eq_zero_or_pos (i - W.length) with h | h
      · exact h
      · rw [List.getElem?_eq_none (by simp; omega)] at hi; cases hi
    rw [h0] at hi
    cases hi
    refine ⟨A, c, ?_, hl, hw⟩
    rw [List.getElem?_append_right (by rw [h.1]; exact hge), h.1, h0]; rfl
/-- the asking that is being read lies -/
structure CurIn (base : Nat) (w : World) (R : Nat) (r : RSt) (F : Nat → Prop) (vl va vr : Value) (Aa : Option Addr) (ca : Nat) (rs : List Value) : Prop where
  va : va = .slice Aa r.args.length ca
  fr : ∀ g, vr.ownBlock = some g → ¬ F g ∧ g ≠ R
  ne : ∀ g, vl.ownBlock = some g → vr.ownBlock ≠ some g
  args : WF F w Aa r.args
  alen : r.args.length ≤ 64
  ownr : w.ownsRow base 22 1 vr r.regs.length rs
  regs : RegVals F w rs r.regs
  rlen : r.regs.length ≤ 16
/-- the reader's state lies -/
structure RdIn (base : Nat) (w : World) (R : Nat) (r : RSt) (F : Nat → Prop) (vl va vr : Value) (qs : List Value) : Prop where
  lt : ∀ b, F b → b < w.heap.size
  fR : ¬ F R
  fl : ∀ g, vl.ownBlock = some g → ¬ F g ∧ g ≠ R
  bR : base ≤ R
  blk : w.heap[R]? = some (.cells #[vl, va, vr, .bool r.on] 98 (0, 0))
  ownl : w.ownsRow base 42 5 vl r.l.length qs
  asks : AskVals F w qs r.l
  cur : r.on = true → ∃ Aa ca rs, CurIn base w R r F vl va vr Aa ca rs
def Rd (base : Nat) (w : World) (R : Nat) (r : RSt) : Prop := ∃ F vl va vr qs, RdIn base w R r F vl va vr qs
theorem CurIn.below {base : Nat} {w w' : World} {R : Nat} {r : RSt} {F : Nat → Prop} {vl va vr : Value} {Aa : Option Addr} {ca : Nat} {rs : List Value} (h : CurIn base w R r F vl va vr Aa ca rs) (hF : ∀ b, F b → b < w.heap.size) (hb : Below w.heap.size w w') :
    CurIn base w' R r F vl va vr Aa ca rs := by
  have hag : Agree F w w' := fun b h => hb.block b (hF b h)
  have hk : w.grownBy w' none := ⟨hb.os, hb.tape, hb.output, hb.size, fun i hi _ => hb.block i hi⟩
  exact ⟨h.va, h.fr, h.ne, h.args.go (fun _ x => x) hag, h.alen, h.ownr.kept hk (Classical.em _), h.regs.go (fun _ x => x) hag, h.rlen⟩
/-- what does not touch the state -/
theorem RdIn.below {base : Nat} {w w' : World} {R : Nat} {r : RSt} {F : Nat → Prop} {vl va vr : Value} {qs : List Value} (h : RdIn base w R r F vl va vr qs) (hb : Below w.heap.size w w') :
    RdIn base w' R r F vl va vr qs := by
  have hag : Agree F w w' := fun b hF => hb.block b (h.lt b hF)
  have hk : w.grownBy w' none := ⟨hb.os, hb.tape, hb.output, hb.size, fun i hi _ => hb.block i hi⟩
  refine ⟨fun b hF => Nat.lt_of_lt_of_le (h.lt b hF) hb.size, h.fR, h.fl, h.bR, (hb.block R (blk_lt h.blk)).trans h.blk, h.ownl.kept hk (Classical.em _), h.asks.go (fun _ x => x) hag, fun hon => ?_⟩
  obtain ⟨Aa, ca, rs, hc⟩ := h.cur hon
  exact ⟨Aa, ca, rs, hc.below h.lt hb⟩
end Go.Proofs.YtkbmckmlnphpmaaGreatDoor
namespace Go.Proofs.YtkbmckmlnphpmaaGreatDoor
open Go.RowKit Go.Lib Go.Shelf

def TakePost (base R : Nat) (r : RSt) (s : ByteArray) (w : World) (e : Ending) (w' : World) : Prop :=
  ∃ b, e = .returned (.bool b) ∧ Below base w w' ∧ (takeM r s = none → b = false) ∧ (∀ r', takeM r s = some r' → b = true ∧ Rd base w' R r')
theorem set_same {w : World} {b o : Nat} {v : Value} {cs : Array Value} {t : TypeId} {fz : Nat × Nat} (h : w.heap[b]? = some (.cells cs t fz)) : (w.setCell ⟨b, o, none⟩ v).heap[b]? = some (.cells (cs.setIfInBounds o v) t fz) := by
  simp [World.setCell, Array.getElem?_modify, h]
theorem set_other {w : World} {b o k : Nat} {v : Value} (h : k ≠ b) : (w.setCell ⟨b, o, none⟩ v).heap[k]? = w.heap[k]? := by
  simp [World.setCell, Array.getElem?_modify, Ne.symm h]
theorem set_size (w : World) (b o : Nat) (v : Value) : (w.setCell ⟨b, o, none⟩ v).heap.size = w.heap.size := by simp [World.setCell]
theorem box4 {W : World} {b : Nat} {v0 v1 v2 v3 : Value} {t : TypeId} (h : W.heap[b]? = some (.cells #[v0, v1, v2, v3] t (0, 0))) :
    W.cell? ⟨b, 0, none⟩ = some v0 ∧ W.cell? ⟨b, 1, none⟩ = some v1 ∧ W.cell? ⟨b, 2, none⟩ = some v2 ∧ W.cell? ⟨b, 3, none⟩ = some v3 ∧ ∀ k, W.frozen? ⟨b, k, none⟩ = false :=
  ⟨by rw [blk_cell h]; rfl, by rw [blk_cell h]; rfl, by rw [blk_cell h]; rfl, by rw [blk_cell h]; rfl, fun k => by simp [World.frozen?, h]⟩
theorem cmp_ne {p q : ByteArray} (h : p ≠ q) : (p.toList == q.data.toList) = false := by
  rw [ByteArray.toList_eq]
  have : p.data.toList ≠ q.data.toList := fun e => h (ext_bytes e)
  simpa using this
/-- the state when an asking starts -/
theorem RdIn.start {base : Nat} {w w1 w2 : World} {R : Nat} {r : RSt} {F : Nat → Prop} {vl va vr : Value} {qs : List Value} (h : RdIn base w R r F vl va vr qs)
    (hb : Below w.heap.size w w1) {A : Option Addr} {c : Nat} {l : List Int} (hA : WNew w.heap.size w1 A l) (hl : l.length ≤ 64)
    (hs : w2.heap.size = w1.heap.size) (ho : ∀ k, k ≠ R → w2.heap[k]? = w1.heap[k]?) (hos : w2.os = w1.os ∧ w2.tape = w1.tape ∧ w2.output = w1.output)
    (hR : w2.heap[R]? = some (.cells #[vl, .slice A l.length c, .slice none 0 0, .bool true] 98 (0, 0))) :
    Rd base w2 R ⟨r.l, l, [], true⟩ := by
  have h1 := h.below hb
  have hRw := blk_lt h.blk
  have hag : Agree F w1 w2 := fun b hF => ho b (fun e => h.fR (e ▸ hF))
  have hk : w1.grownBy w2 (some R) := ⟨hos.1, hos.2.1, hos.2.2, by omega, fun i _ hne => ho i (fun e => hne (by rw [e]))⟩
  have hag' : ∀ b, w.heap.size ≤ b → w2.heap[b]? = w1.heap[b]? := fun b hb => ho b (by omega)
  refine ⟨fun b => F b ∨ (w.heap.size ≤ b ∧ b < w1.heap.size), vl, .slice A l.length c, .slice none 0 0, qs, ?_, ?_, ?_, h.bR, hR, ?_, ?_, fun _ => ⟨A, c, [], rfl, ?_, ?_, ?_, hl, ⟨rfl, .inl ⟨rfl, rfl⟩⟩, ⟨rfl, fun i ws hi => by cases hi⟩, Nat.zero_le _⟩⟩
  · rintro b (hF | hF)
    · rw [hs]; exact h1.lt b hF
    · rw [hs]; exact hF.2
  · rintro (hF | hF)
    · exact h.fR hF
    · omega
  · intro g hg
    obtain ⟨e1, e2⟩ := h.fl g hg
    refine ⟨?_, e2⟩
    rintro (hF | hF)
    · exact e1 hF
    · have := (h.ownl.lt g hg).2; omega
  · exact h1.ownl.kept hk (by
      cases hv : vl.ownBlock with
      | none => exact .inl rfl
      | some g => exact .inr (fun e => (h.fl g hv).2 (by injection e)))
  · exact h1.asks.go (fun b hF => .inl hF) hag
  · intro g hg; simp [Value.ownBlock] at hg
  · intro g hg; simp [Value.ownBlock]
  · refine ⟨hA.1, fun hn => ?_⟩
    obtain ⟨blk, e, h2, hc⟩ := hA.2 hn
    have hbl := cell_some_lt (hc 0 l[0] (by simp))
    refine ⟨blk, 0, e, .inr ⟨h2, hbl⟩, fun i x hx => ?_⟩
    rw [Nat.zero_add]
    exact (World.cell?_of_block (a := ⟨blk, i, none⟩) (hag' blk h2)).trans (hc i x hx)

set_option maxRecDepth 100000 in
set_option maxHeartbeats 2000000 in
theorem take_off (base R : Nat) (r : RSt) (s : ByteArray) (w : World) (hE : Env w) (hs : s.size ≤ 2000000) (hr : Rd base w R r) (hon : r.on = false) : Calls Tryz.prog 60 #[.pointer (some ⟨R, 0, none⟩), .string s] w (TakePost base R r s w) := by
  obtain ⟨F, vl, va, vr, qs, hi⟩ := hr
  have hi' := Lib.hid hi
  have hlt := blk_lt hi.blk
  have hbR := hi.bR
  have hbk := hi.blk
  rw [hon] at hbk
  have hbk' := Lib.hid hbk
  have hon' := Lib.hid hon
  clear hi hbk hon
  cases hu : unwM s with
  | none =>
    have hm := Lib.hid (show takeM r s = none by unfold takeM; rw [hon'.out, hu])
    have hk := Lib.hid ((unwords_any s w hE hs).mono fun e w' h => (show e = .returned (.tuple #[.string ⟨#[]⟩, .slice none 0 0, .int .i64 15]) ∧ Below w.heap.size w w' from ⟨h.1 hu, h.2.2⟩))
    clear hE hu
    go_enter Tryz.func60, Tryz.ntmps60
    go_wp2_with fail
    refine hk.out.mono ?_
    rintro e w1 ⟨rfl, hb1⟩
    obtain ⟨g0, g1, g2, g3, gf⟩ := box4 ((hb1.block _ hlt).trans hbk'.out)
    have hlt1 := Nat.lt_of_lt_of_le hlt hb1.size
    have hb1' := Lib.hid (hb1.mono (show base ≤ w.heap.size by omega))
    clear hb1
    go_wp2
    go_ret
    exact ⟨false, rfl, ((hb1'.out.setCell hbR _).setCell hbR _).setCell hbR _, fun _ => rfl, fun r' h => by rw [hm.out] at h; cases h⟩
  | some pl =>
    obtain ⟨p, l⟩ := pl
    have hk := Lib.hid ((unwords_any s w hE hs).mono fun e w' h => (show ∃ A c, e = .returned (.tuple #[.string p, .slice A l.length c, .int .i64 0]) ∧ WNew w.heap.size w' A l ∧ Below w.heap.size w w' from by
      obtain ⟨A, c, h1, h2⟩ := h.2.1 p l hu
      exact ⟨A, c, h1, h2, h.2.2⟩))
    have hm := Lib.hid (show takeM r s = if p = inW ∧ l.length ≤ 64 then some ⟨r.l, l, [], true⟩ else none by unfold takeM; rw [hon'.out, hu])
    clear hE hu
    go_enter Tryz.func60, Tryz.ntmps60
    go_wp2_with fail
    refine hk.out.mono ?_
    rintro e w1 ⟨A, c, rfl, hA, hb1⟩
    have hwb := (hb1.block _ hlt).trans hbk'.out
    obtain ⟨g0, g1, g2, g3, gf⟩ := box4 hwb
    have hwb' := Lib.hid hwb
    have hlt1 := Nat.lt_of_lt_of_le hlt hb1.size
    have hb1n := Lib.hid hb1
    have hb1' := Lib.hid (hb1.mono (show base ≤ w.heap.size by omega))
    have hA' := Lib.hid hA
    clear hb1 hwb hA
    by_cases hp : p = inW
    · have hcp : (p.toList == [105, 110]) = true := by rw [hp, ByteArray.toList_eq]; decide
      by_cases hl : l.length ≤ 64
      · have el : (l.length : Int) ≤ 64 := by omega
        have hl' := Lib.hid hl
        have hmm := Lib.hid (show takeM r s = some ⟨r.l, l, [], true⟩ from by rw [hm.out, if_pos ⟨hp, hl⟩])
        clear hp hl
        go_wp2
        go_ret
        refine ⟨true, rfl, ((hb1'.out.setCell hbR _).setCell hbR _).setCell hbR _, (fun h => by rw [hmm.out] at h; cases h), fun r' h => ⟨rfl, ?_⟩⟩
        rw [hmm.out] at h
        cases h
        refine hi'.out.start (c := c) hb1n.out hA'.out hl'.out (by simp only [set_size]) (fun k hk => ?_) ⟨rfl, rfl, rfl⟩ ?_
        · rw [set_other hk, set_other hk, set_other hk]
        · have h3 := set_same (o := 3) (v := .bool true) (set_same (o := 2) (v := .slice none 0 0) (set_same (o := 1) (v := .slice A l.length c) hwb'.out))
          exact h3
      · have el : ¬ (l.length : Int) ≤ 64 := by omega
        have hmm := Lib.hid (show takeM r s = none from by rw [hm.out, if_neg (fun h => hl h.2)])
        clear hp hl
        have el' := Lib.hid el
        go_wp2
        go_ret
        exact ⟨false, ret_bool (by simp [el'.out]), ((hb1'.out.setCell hbR _).setCell hbR _).setCell hbR _, fun _ => rfl, fun r' h => by rw [hmm.out] at h; cases h⟩
    · have hcp : (p.toList == [105, 110]) = false := cmp_ne hp
      have hmm := Lib.hid (show takeM r s = none from by rw [hm.out, if_neg (fun h => hp h.1)])
      clear hp
      go_wp2
      go_ret
      exact ⟨false, rfl, ((hb1'.out.setCell hbR _).setCell hbR _).setCell hbR _, fun _ => rfl, fun r' h => by rw [hmm.out] at h; cases h⟩
end Go.Proofs.YtkbmckmlnphpmaaGreatDoor
namespace Go.Proofs.YtkbmckmlnphpmaaGreatDoor
open Go.RowKit Go.Lib Go.Shelf

theorem info22 : (Tryz.prog.info? 22).map (fun i => (i.zero, i.size, i.bytes)) = some (some (.slice none 0 0), 1, 24) := by kernel_rfl
theorem info42 : (Tryz.prog.info? 42).map (fun i => (i.zero, i.size, i.bytes)) = some (some (.agg zAsk), 5, 72) := by kernel_rfl
theorem und37 : Tryz.prog.underlying 37 = some (.slice 22) := by kernel_rfl
theorem und48 : Tryz.prog.underlying 48 = some (.slice 42) := by kernel_rfl

/-- the state when the asking has one more list of words -/
theorem RdIn.more {base : Nat} {w w1 w4 w5 : World} {R : Nat} {r : RSt} {F : Nat → Prop} {vl va vr : Value} {Aa : Option Addr} {ca : Nat} {qs rs : List Value} (h : RdIn base w R r F vl va vr qs) (hc : CurIn base w R r F vl va vr Aa ca rs)
    (hb : Below w.heap.size w w1) {A : Option Addr} {c g cap : Nat} {l : List Int} (hA : WNew w.heap.size w1 A l) (hl : l.length ≤ 512) (hn : r.regs.length < 16) {o : Obj} (ho : w4.heap.size = w4.heap.size)
    (hown : w4.ownsRow base 22 1 (.slice (some ⟨g, 0, none⟩) (r.regs.length + 1) cap) (r.regs.length + 1) (rs ++ [.slice A l.length c])) (hg : (w1.alloc o).grownBy w4 vr.ownBlock) (hat : vr.ownBlock = some g ∨ g = (w1.alloc o).heap.size)
    (hR : w4.heap[R]? = some (.cells #[vl, va, vr, .bool true] 98 (0, 0))) (h5 : w5 = w4.setCell ⟨R, 2, none⟩ (.slice (some ⟨g, 0, none⟩) (r.regs.length + 1) cap)) :
    Rd base w5 R ⟨r.l, r.args, r.regs ++ [l], true⟩ := by
  subst h5
  have h1 := h.below hb
  have hc1 := hc.below h.lt hb
  have hRw := blk_lt h.blk
  have hsz1 := hb.size
  have hsa : (w1.alloc o).heap.size = w1.heap.size + 1 := by simp
  have hgs := hg.size
  have hgR : g ≠ R := by
    rintro rfl
    rcases hat with h6 | h6
    · exact (hc.fr g h6).2 rfl
    · omega
  have hgF : ∀ b, F b → b ≠ g := by
    rintro b hF rfl
    rcases hat with h6 | h6
    · exact (hc.fr b h6).1 hF
    · have := h.lt b hF; omega
  have hold : ∀ b, b < w1.heap.size → b ≠ R → vr.ownBlock ≠ some b → (w4.setCell ⟨R, 2, none⟩ (.slice (some ⟨g, 0, none⟩) (r.regs.length + 1) cap)).heap[b]? = w1.heap[b]? := fun b hb1 hb2 hb3 => by
    rw [set_other hb2, hg.block b (by omega) (fun e => hb3 e.symm), heap_alloc_old w1 o hb1]
  have hag : Agree F w1 (w4.setCell ⟨R, 2, none⟩ (.slice (some ⟨g, 0, none⟩) (r.regs.length + 1) cap)) := fun b hF =>
    hold b (by have := h1.lt b hF; omega) (fun e => h.fR (e ▸ hF)) (fun e => (hc.fr b e).1 hF)
  have hWA : WF (fun b => F b ∨ (w.heap.size ≤ b ∧ b < w1.heap.size)) (w4.setCell ⟨R, 2, none⟩ (.slice (some ⟨g, 0, none⟩) (r.regs.length + 1) cap)) A l := by
    refine ⟨hA.1, fun hn => ?_⟩
    obtain ⟨blk, e, h2, hcc⟩ := hA.2 hn
    have hbl := cell_some_lt (hcc 0 l[0] (by simp))
    refine ⟨blk, 0, e, .inr ⟨h2, hbl⟩, fun i x hx => ?_⟩
    rw [Nat.zero_add]
    refine (World.cell?_of_block (a := ⟨blk, i, none⟩) (hold blk hbl (by omega) (fun e => ?_))).trans (hcc i x hx)
    have := (hc.ownr.lt blk e).2
    omega
  have hk : w4.grownBy (w4.setCell ⟨R, 2, none⟩ (.slice (some ⟨g, 0, none⟩) (r.regs.length + 1) cap)) (some R) := ⟨rfl, rfl, rfl, by rw [set_size]; exact Nat.le_refl _, fun i _ hne => set_other (fun e => hne (by rw [e]))⟩
  have hvl : ∀ g', vl.ownBlock = some g' → g' < w.heap.size := fun g' e => (h.ownl.lt g' e).2
  refine ⟨fun b => F b ∨ (w.heap.size ≤ b ∧ b < w1.heap.size), vl, va, .slice (some ⟨g, 0, none⟩) (r.regs.length + 1) cap, qs, ?_, ?_, ?_, h.bR, ?_, ?_, ?_, fun _ => ⟨Aa, ca, rs ++ [.slice A l.length c], hc.va, ?_, ?_, ?_, hc.alen, ?_, ?_, ?_⟩⟩
  · rw [set_size]
    rintro b (hF | hF)
    · have := h1.lt b hF; omega
    · omega
  · rintro (hF | hF)
    · exact h.fR hF
    · omega
  · intro g' hg'
    obtain ⟨e1, e2⟩ := h.fl g' hg'
    refine ⟨?_, e2⟩
    rintro (hF | hF)
    · exact e1 hF
    · have := hvl g' hg'; omega
  · exact set_same hR
  · have hk4 : w1.grownBy w4 vr.ownBlock := ⟨hg.os, hg.tape, hg.output, by omega, fun i hi hne => (hg.block i (by omega) hne).trans (heap_alloc_old w1 o hi)⟩
    have h7 := h1.ownl.kept hk4 (by
      cases hv : vl.ownBlock with
      | none => exact .inl rfl
      | some g' => exact .inr (fun e => hc.ne g' hv e.symm))
    exact h7.kept hk (by
      cases hv : vl.ownBlock with
      | none => exact .inl rfl
      | some g' => exact .inr (fun e => (h.fl g' hv).2 (by injection e)))
  · exact h1.asks.go (fun b hF => .inl hF) hag
  · intro g' hg'
    simp [Value.ownBlock] at hg'
    subst hg'
    refine ⟨?_, hgR⟩
    rintro (hF | hF)
    · exact hgF _ hF rfl
    · rcases hat with h6 | h6
      · have := (hc.ownr.lt g h6).2; omega
      · omega
  · intro g' hg' e
    simp [Value.ownBlock] at e
    subst e
    rcases hat with h6 | h6
    · exact hc.ne g hg' h6
    · have := hvl g hg'; omega
  · exact hc1.args.go (fun b hF => .inl hF) hag
  · have h7 := hown.kept hk (.inr (by simp [Value.ownBlock]; exact hgR))
    simpa using h7
  · exact (hc1.regs.go (fun b hF => .inl hF) hag).snoc (by omega) hWA
  · simp; omega

set_option maxRecDepth 100000 in
set_option maxHeartbeats 4000000 in
theorem take_with (base R : Nat) (r : RSt) (s p : ByteArray) (l : List Int) (w : World) (hE : Env w) (hs : s.size ≤ 2000000) (hr : Rd base w R r) (hon : r.on = true) (hu : unwM s = some (p, l)) (hp : p = withW) (hll : l.length ≤ 3000000) :
    Calls Tryz.prog 60 #[.pointer (some ⟨R, 0, none⟩), .string s] w (TakePost base R r s w) := by
  obtain ⟨F, vl, va, vr, qs, hi⟩ := hr
  obtain ⟨Aa, ca, rs, hc⟩ := hi.cur hon
  have hrs : rs.length = r.regs.length := hc.regs.1
  obtain ⟨Ar, cr, hvr, _⟩ := own_at hc.ownr hrs
  have hva := hc.va
  subst hva hvr
  obtain ⟨i0, hi0, hz0, hz1, hz2⟩ := info_parts info22
  have hi0' := Lib.hid (And.intro hi0 (And.intro hz0 (And.intro hz1 hz2)))
  have hi' := Lib.hid hi
  have hc' := Lib.hid hc
  have hlt := blk_lt hi.blk
  have hbR := hi.bR
  have hbk := hi.blk
  rw [hon] at hbk
  have hbk' := Lib.hid hbk
  have hon' := Lib.hid hon
  have hrl := Lib.hid hc.rlen
  obtain ⟨nr, hnr⟩ : ∃ nr, r.regs.length = nr := ⟨_, rfl⟩
  have hnr' := Lib.hid hnr
  have hm := Lib.hid (show takeM r s = if l.length ≤ 512 ∧ r.regs.length < 16 then some ⟨r.l, r.args, r.regs ++ [l], true⟩ else none by unfold takeM; rw [hon, hu]; dsimp only; rw [if_pos hp])
  have hk := Lib.hid ((unwords_any s w hE hs).mono fun e w' h => (show ∃ A c, e = .returned (.tuple #[.string p, .slice A l.length c, .int .i64 0]) ∧ WNew w.heap.size w' A l ∧ Below w.heap.size w w' from by
    obtain ⟨A, c, h1, h2⟩ := h.2.1 p l hu
    exact ⟨A, c, h1, h2, h.2.2⟩))
  have hcp : (p.toList == [119, 105, 116, 104]) = true := by rw [hp, ByteArray.toList_eq]; decide
  clear hE hu hp hi hc hbk hon hi0 hz0 hz1 hz2 hrs
  go_enter Tryz.func60, Tryz.ntmps60
  go_wp2_with fail
  refine hk.out.mono ?_
  rintro e w1 ⟨A, c, rfl, hA, hb1⟩
  have hwb := (hb1.block _ hlt).trans hbk'.out
  obtain ⟨g0, g1, g2, g3, gf⟩ := box4 hwb
  have hwb' := Lib.hid hwb
  have hlt1 := Nat.lt_of_lt_of_le hlt hb1.size
  have hb1n := Lib.hid hb1
  have hA' := Lib.hid hA
  have hbs1 := hb1.size
  have hc1 := hc'.out.below hi'.out.lt hb1
  have hown := Lib.hid (hc1.ownr.alloc (.cells #[.slice A l.length c] 22))
  rw [hnr'.out] at hown
  have hnew := Lib.hid (cell_one_new w1 (.slice A l.length c) 22)
  have hone := Lib.hid (show ∀ v ∈ [Value.slice A l.length c], v.oneCell' = true by simp [Value.oneCell'])
  have hbs := Lib.hid (show base ≤ (w1.alloc (.cells #[.slice A l.length c] 22)).heap.size by simp; omega)
  have hk1 := Lib.hid (show nr + 1 ≤ maxLen by have := hrl.out; have := hnr'.out; unfold maxLen; omega)
  have hk2 := Lib.hid (show (nr + 1) * 24 ≤ 140737488355328 by have := hrl.out; have := hnr'.out; omega)
  obtain ⟨hj1, hj2, hj3, hj4⟩ := hi0'.out
  rw [hnr'.out] at g2
  clear hb1 hwb hA hc1
  have hRs := Lib.hid ((heap_alloc_old w1 (.cells #[.slice A l.length c] 22) hlt1).trans hwb'.out)
  have hne := Lib.hid (show some R ≠ (Value.slice Ar nr cr).ownBlock from fun e => (hc'.out.fr R (by rw [hnr'.out]; exact e.symm)).2 rfl)
  have hlt2 := Lib.hid (show R < (w1.alloc (.cells #[.slice A l.length c] 22)).heap.size by simp; omega)
  by_cases h5 : l.length ≤ 512
  · have el : (l.length : Int) ≤ 512 := by omega
    by_cases h6 : nr + 1 ≤ 16
    · have en : (nr : Int) + 1 ≤ 16 := by omega
      have hmm := Lib.hid (show takeM r s = some ⟨r.l, r.args, r.regs ++ [l], true⟩ from by rw [hm.out, if_pos ⟨h5, by rw [hnr'.out]; omega⟩])
      have h5' := Lib.hid h5
      have h6' := Lib.hid h6
      clear h5 h6
      go_wp2_with ((at_builtin; refine wpList_append_lies _ rfl _ _ 37 rfl base 22 i0 _ 1 24 und37 hj1 hj2 hj3 hj4 rfl (by decide) (.slice Ar nr cr) nr rs rfl hown.out ⟨w1.heap.size, 0, none⟩ 1 1 [.slice A l.length c] rfl rfl hnew.out hone.out (by decide) hk1.out hk2.out hbs.out _ rfl ?_; intro g cap w4 hown4 hg4 hat4 hlt4; have hRb := (hg4.block R hlt2.out hne.out).trans hRs.out; obtain ⟨y0, y1, y2, y3, yf⟩ := box4 hRb; have hRb := Lib.hid hRb; have hown4 := Lib.hid hown4; have hg4 := Lib.hid hg4; have hat4 := Lib.hid hat4; have hlt4 := Lib.hid hlt4))
      go_ret
      refine ⟨true, rfl, (((hb1n.out.mono (show base ≤ w.heap.size by omega)).alloc (by omega) _).grown hg4.out hbs.out (fun g' e => (hown.out.lt g' e).1)).setCell hbR _, (fun h => by rw [hmm.out] at h; cases h), fun r' h => ⟨rfl, ?_⟩⟩
      rw [hmm.out] at h
      cases h
      have hown4n := hown4.out
      rw [← hnr'.out] at hown4n
      have h7 := hi'.out.more hc'.out hb1n.out hA'.out h5'.out (by have := h6'.out; rw [hnr'.out]; omega) rfl hown4n (by rw [hnr'.out]; exact hg4.out) (by rw [hnr'.out]; exact hat4.out) hRb.out rfl
      rw [hnr'.out] at h7
      exact h7
    · have en : ¬ (nr : Int) + 1 ≤ 16 := by omega
      have en' := Lib.hid en
      have hmm := Lib.hid (show takeM r s = none from by rw [hm.out, if_neg (fun h => h6 (by have := h.2; rw [hnr'.out] at this; omega))])
      clear h5 h6
      go_wp2_with ((at_builtin; refine wpList_append_lies _ rfl _ _ 37 rfl base 22 i0 _ 1 24 und37 hj1 hj2 hj3 hj4 rfl (by decide) (.slice Ar nr cr) nr rs rfl hown.out ⟨w1.heap.size, 0, none⟩ 1 1 [.slice A l.length c] rfl rfl hnew.out hone.out (by decide) hk1.out hk2.out hbs.out _ rfl ?_; intro g cap w4 hown4 hg4 hat4 hlt4; have hRb := (hg4.block R hlt2.out hne.out).trans hRs.out; obtain ⟨y0, y1, y2, y3, yf⟩ := box4 hRb; have hRb := Lib.hid hRb; have hown4 := Lib.hid hown4; have hg4 := Lib.hid hg4; have hat4 := Lib.hid hat4; have hlt4 := Lib.hid hlt4))
      go_ret
      exact ⟨false, ret_bool (by simp [en'.out]), (((hb1n.out.mono (show base ≤ w.heap.size by omega)).alloc (by omega) _).grown hg4.out hbs.out (fun g' e => (hown.out.lt g' e).1)).setCell hbR _, fun _ => rfl, fun r' h => by rw [hmm.out] at h; cases h⟩
  · have el : ¬ (l.length : Int) ≤ 512 := by omega
    have hmm := Lib.hid (show takeM r s = none from by rw [hm.out, if_neg (fun h => h5 h.1)])
    clear h5
    go_wp2_with ((at_builtin; refine wpList_append_lies _ rfl _ _ 37 rfl base 22 i0 _ 1 24 und37 hj1 hj2 hj3 hj4 rfl (by decide) (.slice Ar nr cr) nr rs rfl hown.out ⟨w1.heap.size, 0, none⟩ 1 1 [.slice A l.length c] rfl rfl hnew.out hone.out (by decide) hk1.out hk2.out hbs.out _ rfl ?_; intro g cap w4 hown4 hg4 hat4 hlt4; have hRb := (hg4.block R hlt2.out hne.out).trans hRs.out; obtain ⟨y0, y1, y2, y3, yf⟩ := box4 hRb; have hRb := Lib.hid hRb; have hown4 := Lib.hid hown4; have hg4 := Lib.hid hg4; have hat4 := Lib.hid hat4; have hlt4 := Lib.hid hlt4))
    go_ret
    exact ⟨false, rfl, (((hb1n.out.mono (show base ≤ w.heap.size by omega)).alloc (by omega) _).grown hg4.out hbs.out (fun g' e => (hown.out.lt g' e).1)).setCell hbR _, fun _ => rfl, fun r' h => by rw [hmm.out] at h; cases h⟩
end Go.Proofs.YtkbmckmlnphpmaaGreatDoor
namespace Go.Proofs.YtkbmckmlnphpmaaGreatDoor
open Go.RowKit Go.Lib Go.Shelf

/-- the state when the asking has ended -/
theorem RdIn.done {base : Nat} {w w2 w5 w6 : World} {R : Nat} {r : RSt} {F : Nat → Prop} {vl va : Value} {Aa Ar : Option Addr} {ca cr : Nat} {qs rs : List Value} (h : RdIn base w R r F vl va (.slice Ar r.regs.length cr) qs) (hc : CurIn base w R r F vl va (.slice Ar r.regs.length cr) Aa ca rs)
    (hAr : 0 < r.regs.length → ∃ g, Ar = some ⟨g, 0, none⟩ ∧ base ≤ g ∧ g < w.heap.size ∧ ∀ i v, rs[i]? = some v → w.cell? ⟨g, i, none⟩ = some v)
    (hb : Below w.heap.size w w2) {g cap : Nat} {k st fu : Int} {o : Obj}
    (hown : w5.ownsRow base 42 5 (.slice (some ⟨g, 0, none⟩) (r.l.length + 1) cap) (r.l.length + 1) (qs ++ [.int .i64 k, .slice Aa r.args.length ca, .slice Ar r.regs.length cr, .int .u64 st, .int .i64 fu]))
    (hg : ((w2.alloc o).alloc o).drew.grownBy w5 vl.ownBlock) (hat : vl.ownBlock = some g ∨ g = ((w2.alloc o).alloc o).drew.heap.size)
    (hR : w5.heap[R]? = some (.cells #[vl, va, .slice Ar r.regs.length cr, .bool true] 98 (0, 0)))
    (h6 : w6 = (w5.setCell ⟨R, 0, none⟩ (.slice (some ⟨g, 0, none⟩) (r.l.length + 1) cap)).setCell ⟨R, 3, none⟩ (.bool false)) :
    Rd base w6 R ⟨r.l ++ [⟨k, r.args, r.regs, st, fu⟩], r.args, r.regs, false⟩ := by
  have hRw := blk_lt h.blk
  have hsz2 := hb.size
  have hsa : ((w2.alloc o).alloc o).drew.heap.size = w2.heap.size + 2 := by simp
  have hgs := hg.size
  have hgR : g ≠ R := by
    rintro rfl
    rcases hat with h7 | h7
    · exact (h.fl g h7).2 rfl
    · omega
  have hold : ∀ b, b < w.heap.size → b ≠ R → vl.ownBlock ≠ some b → w6.heap[b]? = w.heap[b]? := fun b hb1 hb2 hb3 => by
    rw [h6, set_other hb2, set_other hb2, hg.block b (by omega) (fun e => hb3 e.symm)]
    exact (heap_alloc_old (w2.alloc o) o (by simp; omega)).trans ((heap_alloc_old w2 o (by omega)).trans (hb.block b hb1))
  have hag : ∀ b, (F b ∨ (Value.slice Ar r.regs.length cr).ownBlock = some b) → w6.heap[b]? = w.heap[b]? := by
    rintro b (hF | hF)
    · exact hold b (h.lt b hF) (fun e => h.fR (e ▸ hF)) (fun e => (h.fl b e).1 hF)
    · exact hold b (hc.ownr.lt b hF).2 (hc.fr b hF).2 (fun e => hc.ne b e hF)
  have hagF : Agree F w w6 := fun b hF => hag b (.inl hF)
  have hk5 : w5.grownBy w6 (some R) := by
    subst h6
    exact ⟨rfl, rfl, rfl, by rw [set_size, set_size]; exact Nat.le_refl _, fun i _ hne => by
      have : i ≠ R := fun e => hne (by rw [e])
      rw [set_other this, set_other this]⟩
  have hs6 : w6.heap.size = w5.heap.size := by subst h6; rw [set_size, set_size]
  refine ⟨fun b => F b ∨ (Value.slice Ar r.regs.length cr).ownBlock = some b, .slice (some ⟨g, 0, none⟩) (r.l.length + 1) cap, va, .slice Ar r.regs.length cr, qs ++ [.int .i64 k, .slice Aa r.args.length ca, .slice Ar r.regs.length cr, .int .u64 st, .int .i64 fu], ?_, ?_, ?_, h.bR, ?_, ?_, ?_, fun e => by cases e⟩
  · rw [hs6]
    rintro b (hF | hF)
    · have := h.lt b hF; omega
    · have := (hc.ownr.lt b hF).2; omega
  · rintro (hF | hF)
    · exact h.fR hF
    · exact (hc.fr R hF).2 rfl
  · intro g' hg'
    simp [Value.ownBlock] at hg'
    subst hg'
    refine ⟨?_, hgR⟩
    rintro (hF | hF)
    · rcases hat with h7 | h7
      · exact (h.fl g h7).1 hF
      · have := h.lt g hF; omega
    · rcases hat with h7 | h7
      · exact hc.ne g h7 hF
      · have := (hc.ownr.lt g hF).2; omega
  · rw [h6]
    exact set_same (set_same hR)
  · have h7 := hown.kept hk5 (.inr (by simp [Value.ownBlock]; exact hgR))
    simpa using h7
  · have h8 : AskVals (fun b => F b ∨ (Value.slice Ar r.regs.length cr).ownBlock = some b) w6 qs r.l := h.asks.go (fun b hF => Or.inl hF) hagF
    refine AskVals.snoc (a := ⟨k, r.args, r.regs, st, fu⟩) (A1 := Aa) (A2 := Ar) (c1 := ca) (c2 := cr) ⟨hc.args.go (fun b hF => Or.inl hF) hagF, ?_, hc.alen, hc.rlen⟩ h8
    intro hn
    obtain ⟨g', e1, e2, e3, e4⟩ := hAr hn
    have hgb : (Value.slice Ar r.regs.length cr).ownBlock = some g' := by rw [e1]; simp [Value.ownBlock]
    refine ⟨g', 0, e1, .inr hgb, fun i ws hi => ?_⟩
    obtain ⟨A', c', h7, h8, h9⟩ := hc.regs.2 i ws hi
    refine ⟨A', c', ?_, h8, h9.go (fun b hF => Or.inl hF) hagF⟩
    rw [Nat.zero_add]
    exact (World.cell?_of_block (a := ⟨g', i, none⟩) (hag g' (.inr hgb))).trans (e4 i _ h7)

set_option maxRecDepth 100000 in
set_option maxHeartbeats 4000000 in
theorem take_line (base R : Nat) (r : RSt) (s p : ByteArray) (er : Int) (w : World) (hE : Env w) (hs : s.size ≤ 2000000) (hr : Rd base w R r) (hon : r.on = true) (hrl : r.l.length ≤ 2000000)
    (hk : Calls Tryz.prog 18 #[.string s] w fun e w' => (∃ A n c, e = .returned (.tuple #[.string p, .slice A n c, .int .i64 er])) ∧ Below w.heap.size w w')
    (hno : er = 15 ∨ (er = 0 ∧ p ≠ withW))
    (hm : takeM r s = match unlineM s with | some (k, st, fu) => some ⟨r.l ++ [⟨k, r.args, r.regs, st, fu⟩], r.args, r.regs, false⟩ | none => none) :
    Calls Tryz.prog 60 #[.pointer (some ⟨R, 0, none⟩), .string s] w (TakePost base R r s w) := by
  obtain ⟨F, vl, va, vr, qs, hi⟩ := hr
  obtain ⟨Aa, ca, rs, hc⟩ := hi.cur hon
  have hrs : rs.length = r.regs.length := hc.regs.1
  obtain ⟨Ar, cr, hvr, hAr⟩ := own_at hc.ownr hrs
  have hAr' := Lib.hid hAr
  have hva := hc.va
  subst hva hvr
  obtain ⟨i0, hi0, hz0, hz1, hz2⟩ := info_parts info42
  have hi0' := Lib.hid (And.intro hi0 (And.intro hz0 (And.intro hz1 hz2)))
  have hi' := Lib.hid hi
  have hc' := Lib.hid hc
  have hlt := blk_lt hi.blk
  have hbR := hi.bR
  have hbk := hi.blk
  rw [hon] at hbk
  have hbk' := Lib.hid hbk
  have hon' := Lib.hid hon
  have hk' := Lib.hid hk
  have hE' := Lib.hid hE
  have hm' := Lib.hid hm
  obtain ⟨k, st, fu, er2, hun, hu1, hu2⟩ : ∃ k st fu er2, (∀ W, Env W → Calls Tryz.prog 21 #[.string s] W fun e w' => e = .returned (.tuple #[.agg #[.int .i64 k, .slice none 0 0, .slice none 0 0, .int .u64 st, .int .i64 fu], .int .i64 er2]) ∧ Below W.heap.size W w') ∧ (unlineM s = none → er2 = 15) ∧ (unlineM s ≠ none → er2 = 0 ∧ unlineM s = some (k, st, fu)) := by
    cases hul : unlineM s with
    | none => exact ⟨0, 0, 0, 15, fun W hW => (unline_any s W hW hs).mono fun e w' h => ⟨h.1 hul, h.2.2⟩, fun _ => rfl, fun h => absurd rfl h⟩
    | some x =>
      obtain ⟨k, st, fu⟩ := x
      exact ⟨k, st, fu, 0, fun W hW => (unline_any s W hW hs).mono fun e w' h => ⟨h.2.1 k st fu hul, h.2.2⟩, (fun h => by cases h), fun _ => ⟨rfl, rfl⟩⟩
  have hun' := Lib.hid hun
  have hu1' := Lib.hid hu1
  have hu2' := Lib.hid hu2
  obtain ⟨nl, hnl⟩ : ∃ nl, r.l.length = nl := ⟨_, rfl⟩
  rw [hnl] at hrl
  have hnl' := Lib.hid hnl
  clear hE hm hi hc hbk hon hi0 hz0 hz1 hz2 hrs hAr hk hun hu1 hu2 hnl
  rcases (show (er = 15 ∧ True) ∨ (er = 0 ∧ (p.toList == [119, 105, 116, 104]) = false) from by
    rcases hno with h | ⟨h1, h2⟩
    · exact .inl ⟨h, trivial⟩
    · exact .inr ⟨h1, cmp_ne h2⟩) with ⟨her, hcp⟩ | ⟨her, hcp⟩
  all_goals (
    subst her
    clear hno
    go_enter Tryz.func60, Tryz.ntmps60
    go_wp2_with fail
    refine hk'.out.mono ?_
    rintro e w1 ⟨⟨A, n, c, rfl⟩, hb1⟩
    have hwb := (hb1.block _ hlt).trans hbk'.out
    obtain ⟨g0, g1, g2, g3, gf⟩ := box4 hwb
    have hwb' := Lib.hid hwb
    have hlt1 := Nat.lt_of_lt_of_le hlt hb1.size
    have hb1n := Lib.hid hb1
    clear hb1 hwb
    go_wp2_with fail
    refine (hun'.out _ (hE'.out.below hb1n.out)).mono ?_
    rintro e w2 ⟨rfl, hb2⟩
    have hwb := (hb2.block _ hlt1).trans hwb'.out
    obtain ⟨q0, q1, q2, q3, qf⟩ := box4 hwb
    have hwb2 := Lib.hid hwb
    have hlt2 := Nat.lt_of_lt_of_le hlt1 hb2.size
    have hb2n := Lib.hid (Below.next hb1n.out hb2)
    clear hb2 hwb g0 g1 g2 g3 gf
    go_wp2_with fail
    obtain ⟨bx, hbx⟩ : ∃ bx, bx = Obj.cells #[.int .i64 k, .slice Aa r.args.length ca, .slice Ar r.regs.length cr, .int .u64 st, .int .i64 fu] 42 := ⟨_, rfl⟩
    have hown := Lib.hid (show ((w2.alloc bx).alloc bx).drew.ownsRow base 42 5 vl nl qs from by
      have := ((hi'.out.below hb2n.out).ownl.alloc bx).alloc bx
      rw [hnl'.out] at this
      exact this)
    have hnew := Lib.hid (show ∀ j u, [Value.int .i64 k, .slice Aa r.args.length ca, .slice Ar r.regs.length cr, .int .u64 st, .int .i64 fu][j]? = some u → ((w2.alloc bx).alloc bx).drew.cell? ((⟨w2.heap.size + 1, 0, none⟩ : Addr).add j) = some u from fun j u hu => by
      have e : (w2.alloc bx).heap.size = w2.heap.size + 1 := by simp
      have h9 := heap_alloc_new (w2.alloc bx) bx
      rw [e] at h9
      rw [Lib.add_plain, Nat.zero_add]
      have h10 : ((w2.alloc bx).alloc bx).drew.heap[w2.heap.size + 1]? = some (.cells #[.int .i64 k, .slice Aa r.args.length ca, .slice Ar r.regs.length cr, .int .u64 st, .int .i64 fu] 42 (0, 0)) := by rw [← hbx]; exact h9
      rw [blk_cell h10]
      simpa using hu)
    have hone := Lib.hid (show ∀ v ∈ [Value.int .i64 k, .slice Aa r.args.length ca, .slice Ar r.regs.length cr, .int .u64 st, .int .i64 fu], v.oneCell' = true by simp [Value.oneCell'])
    have hbs := Lib.hid (show base ≤ ((w2.alloc bx).alloc bx).drew.heap.size by simp; omega)
    have hk1 := Lib.hid (show nl + 1 ≤ maxLen by unfold maxLen; omega)
    have hk2 := Lib.hid (show (nl + 1) * 72 ≤ 140737488355328 by omega)
    obtain ⟨hj1, hj2, hj3, hj4⟩ := hi0'.out
    have hRs := Lib.hid (show ((w2.alloc bx).alloc bx).drew.heap[R]? = _ from (heap_alloc_old (w2.alloc bx) bx (by simp; omega)).trans ((heap_alloc_old w2 bx hlt2).trans hwb2.out))
    have hne := Lib.hid (show some R ≠ vl.ownBlock from fun e => (hi'.out.fl R e.symm).2 rfl)
    have hlt3 := Lib.hid (show R < ((w2.alloc bx).alloc bx).drew.heap.size by simp; omega)
    subst hbx
    go_region_law (first
      | (refine step_append_lies _ rfl _ _ 48 rfl base 42 i0 _ 5 72 und48 hj1 hj2 hj3 hj4 rfl (by decide) vl nl qs rfl hown.out ⟨w2.heap.size + 1, 0, none⟩ 1 1 [.int .i64 k, .slice Aa r.args.length ca, .slice Ar r.regs.length cr, .int .u64 st, .int .i64 fu] rfl rfl hnew.out hone.out (by decide) hk1.out hk2.out hbs.out _ rfl ?_; intro g cap w5 hown5 hg5 hat5 hlt5; have hRb := (hg5.block R hlt3.out hne.out).trans hRs.out; obtain ⟨y0, y1, y2, y3, yf⟩ := box4 hRb; have hRb := Lib.hid hRb; have hown5 := Lib.hid hown5; have hg5 := Lib.hid hg5; have hat5 := Lib.hid hat5; have hlt5 := Lib.hid hlt5))
    all_goals (
      go_wp2
      go_ret
      have hB : Below base w ((w5.setCell ⟨R, 0, none⟩ (.slice (some ⟨g, 0, none⟩) (nl + 1) cap)).setCell ⟨R, 3, none⟩ (.bool false)) := by
        have h1 := hb2n.out.mono (show base ≤ w.heap.size by omega)
        have hz2 := hb2n.out.size
        have h2 := ((h1.alloc (show base ≤ w2.heap.size by omega) (Obj.cells #[.int .i64 k, .slice Aa r.args.length ca, .slice Ar r.regs.length cr, .int .u64 st, .int .i64 fu] 42)).alloc (by simp; omega) (Obj.cells #[.int .i64 k, .slice Aa r.args.length ca, .slice Ar r.regs.length cr, .int .u64 st, .int .i64 fu] 42)).drew
        exact ((h2.grown hg5.out hbs.out (fun g' e => (hown.out.lt g' e).1)).setCell hbR _).setCell hbR _
      refine ⟨er2 == 0, rfl, hB, fun h => ?_, fun r' h => ?_⟩
      · have h3 : unlineM s = none := by
          rw [hm'.out] at h
          cases hul : unlineM s with
          | none => rfl
          | some x => rw [hul] at h; cases h
        rw [hu1'.out h3]; rfl
      · have h3 : unlineM s ≠ none := fun e => by rw [hm'.out, e] at h; cases h
        obtain ⟨e1, e2⟩ := hu2'.out h3
        rw [hm'.out, e2] at h
        cases h
        refine ⟨by rw [e1]; rfl, ?_⟩
        have hown5n := hown5.out
        rw [← hnl'.out] at hown5n
        exact hi'.out.done hc'.out hAr'.out hb2n.out hown5n hg5.out hat5.out hRb.out (by rw [hnl'.out])))
end Go.Proofs.YtkbmckmlnphpmaaGreatDoor
namespace Go.Proofs.YtkbmckmlnphpmaaGreatDoor
open Go.RowKit Go.Lib Go.Shelf

theorem numsM_len : ∀ (xs : List ByteArray) (L : List Int), numsM xs = some L → L.length = xs.length
  | [], L, h => by cases h; rfl
  | y :: xs, L, h => by
    unfold numsM at h
    cases hx : numI y with
    | none => rw [hx] at h; cases h
    | some v =>
      rw [hx] at h
      cases hm : numsM xs with
      | none => rw [hm] at h; cases h
      | some l => rw [hm] at h; cases h; simp [numsM_len xs l hm]
theorem unw_len {s p : ByteArray} {l : List Int} (h : unwM s = some (p, l)) : l.length ≤ s.size + 1 := by
  unfold unwM at h
  split at h
  · cases hm : numsM (partsB s).tail with
    | none => rw [hm] at h; cases h
    | some l' =>
      rw [hm] at h
      cases h
      rw [numsM_len _ _ hm, List.length_tail]
      have := parts_le s
      omega
  · cases h
theorem take_any (base R : Nat) (r : RSt) (s : ByteArray) (w : World) (hE : Env w) (hs : s.size ≤ 2000000) (hr : Rd base w R r) (hrl : r.l.length ≤ 2000000) :
    Calls Tryz.prog 60 #[.pointer (some ⟨R, 0, none⟩), .string s] w (TakePost base R r s w) := by
  cases hon : r.on with
  | false => exact take_off base R r s w hE hs hr hon
  | true =>
    cases hu : unwM s with
    | none =>
      refine take_line base R r s ⟨#[]⟩ 15 w hE hs hr hon hrl ((unwords_any s w hE hs).mono fun e w' h => ⟨⟨_, _, _, h.1 hu⟩, h.2.2⟩) (.inl rfl) ?_
      have : unlineM s = none := by unfold unlineM; rw [hu]
      rw [this]
      unfold takeM
      rw [hon, hu]
    | some pl =>
      obtain ⟨p, l⟩ := pl
      by_cases hp : p = withW
      · exact take_with base R r s p l w hE hs hr hon hu hp (by have := unw_len hu; omega)
      · refine take_line base R r s p 0 w hE hs hr hon hrl ((unwords_any s w hE hs).mono fun e w' h => ?_) (.inr ⟨rfl, hp⟩) ?_
        · obtain ⟨A, c, h1, _⟩ := h.2.1 p l hu
          exact ⟨⟨_, _, _, h1⟩, h.2.2⟩
        · unfold takeM
          rw [hon, hu]
          dsimp only
          rw [if_neg hp]
          first | done | (cases unlineM s <;> rfl)
/-- the reading of a text: what is left; true: all good -/
def cutM (c : UInt8) : List UInt8 → Option (List UInt8 × List UInt8)
  | [] => none
  | b :: l => if b = c then some ([], l) else (cutM c l).map fun x => (b :: x.1, x.2)
theorem cut_cutM (c : UInt8) : ∀ l : List UInt8, cutM c l = if (Lib.cut l [c]).2.2 = true then some ((Lib.cut l [c]).1, (Lib.cut l [c]).2.1) else none
  | [] => by unfold Lib.cut; rw [index_nil]; rfl
  | b :: l => by
    have ih := cut_cutM c l
    by_cases hb : b = c
    · subst hb
      unfold Lib.cut
      rw [index_eq]
      simp [cutM]
    · unfold cutM
      rw [if_neg hb, ih]
      have hge := index_ge l [c]
      unfold Lib.cut
      rw [index_ne l hb]
      by_cases hm : index l [c] = -1
      · rw [hm]; simp
      · have h0 : 0 ≤ index l [c] := by omega
        have e1 : (if index l [c] == -1 then (-1 : Int) else index l [c] + 1) = index l [c] + 1 := if_neg (by simpa using hm)
        have e2 : (index l [c] + 1).toNat = (index l [c]).toNat + 1 := by omega
        rw [e1, if_pos h0, if_pos (show 0 ≤ index l [c] + 1 by omega), e2]
        simp [Nat.add_right_comm]
theorem cutM_len (c : UInt8) : ∀ (l a b : List UInt8), cutM c l = some (a, b) → a.length + b.length < l.length
  | [], a, b, h => by cases h
  | d :: l, a, b, h => by
    unfold cutM at h
    split at h
    · cases h; simp
    · cases hc : cutM c l with
      | none => rw [hc] at h; cases h
      | some x =>
        rw [hc] at h
        cases h
        have := cutM_len c l x.1 x.2 hc
        simp; omega
/-- lines taken, one after the other: how many were good, and the state if all were -/
def runM : Nat → List UInt8 → RSt → Nat → Nat × Option RSt
  | 0, _, _, n => (n, none)
  | f + 1, rest, r, n =>
    if rest = [] then (n, some r)
    else match cutM 10 rest with
      | none => (n, none)
      | some (a, b) => match takeM r ⟨a.toArray⟩ with
        | none => (n, none)
        | some r' => runM f b r' (n + 1)
theorem runM_fuel : ∀ (f : Nat) (rest : List UInt8) (r : RSt) (n : Nat), rest.length < f → runM f rest r n = runM (rest.length + 1) rest r n
  | 0, _, _, _, h => absurd h (by omega)
  | f + 1, rest, r, n, h => by
    unfold runM
    by_cases h0 : rest = []
    · rw [if_pos h0, if_pos h0]
    · rw [if_neg h0, if_neg h0]
      cases hc : cutM 10 rest with
      | none => rfl
      | some x =>
        obtain ⟨a, b⟩ := x
        have hl := cutM_len 10 rest a b hc
        dsimp only
        cases ht : takeM r ⟨a.toArray⟩ with
        | none => rfl
        | some r' =>
          dsimp only
          rw [runM_fuel f b r' (n + 1) (by omega)]
          have h9 := runM_fuel (rest.length) b r' (n + 1) (by omega)
          rw [h9]
termination_by f => f
def zeroR : RSt := ⟨[], [], [], false⟩
def finM : Nat × Option RSt → List Ask × Nat × Int
  | (n, none) => ([], n, 15)
  | (n, some r) => if r.on = true then ([], n, 15) else if 64 < r.l.length then ([], 0, 3) else (r.l, 0, 0)
/-- askings, the wrong line, the error -/
def parseM (text : ByteArray) : List Ask × Nat × Int := if 1048576 < text.size then ([], 0, 3) else finM (runM (text.size + 1) text.data.toList zeroR 0)
end Go.Proofs.YtkbmckmlnphpmaaGreatDoor
namespace Go.Proofs.YtkbmckmlnphpmaaGreatDoor
open Go.RowKit Go.Lib Go.Shelf

/-- an asking's parts read -/
def AskAt (w : World) (a : Ask) (A1 A2 : Option Addr) : Prop := WAt w A1 a.args ∧ WsAt w A2 a.regs ∧ a.args.length ≤ 64 ∧ a.regs.length ≤ 16
/-- a slice that reads as askings -/
def AsksAt (w : World) (A : Option Addr) (L : List Ask) : Prop :=
  0 < L.length → ∃ g, A = some ⟨g, 0, none⟩ ∧ ∀ (i : Nat) (a : Ask), L[i]? = some a → ∃ A1 c1 A2 c2, (∀ j v, (askCells a A1 c1 A2 c2)[j]? = some v → w.cell? ⟨g, i * 5 + j, none⟩ = some v) ∧ AskAt w a A1 A2
theorem vals_at {F : Nat → Prop} {w : World} : ∀ {L : List Ask} {vs : List Value}, AskVals F w vs L → ∀ (i : Nat) (a : Ask), L[i]? = some a → ∃ A1 c1 A2 c2, (∀ j v, (askCells a A1 c1 A2 c2)[j]? = some v → vs[i * 5 + j]? = some v) ∧ AskF F w a A1 A2
  | [], _, _, i, a, hi => by simp at hi
  | b :: L, _, ⟨A1, c1, A2, c2, r, e, hb, hr⟩, i, a, hi => by
    have hl : (askCells b A1 c1 A2 c2).length = 5 := rfl
    cases i with
    | zero =>
      cases hi
      refine ⟨A1, c1, A2, c2, fun j v hj => ?_, hb⟩
      rw [e, Nat.zero_mul, Nat.zero_add, List.getElem?_append_left (by rw [hl]; exact (List.getElem?_eq_some_iff.1 hj).1)]
      exact hj
    | succ i =>
      obtain ⟨B1, d1, B2, d2, h1, h2⟩ := vals_at hr i a (by simpa using hi)
      refine ⟨B1, d1, B2, d2, fun j v hj => ?_, h2⟩
      rw [e, List.getElem?_append_right (by rw [hl]; omega), hl]
      have e2 : (i + 1) * 5 + j - 5 = i * 5 + j := by omega
      rw [e2]
      exact h1 j v hj
theorem WsF.wsat {F : Nat → Prop} {w : World} {A : Option Addr} {W : List (List Int)} (h : WsF F w A W) : WsAt w A W := fun hn => by
  obtain ⟨blk, off, e, _, hc⟩ := h hn
  refine ⟨blk, off, e, fun i ws hi => ?_⟩
  obtain ⟨A', c, h1, h2, h3⟩ := hc i ws hi
  exact ⟨A', c, h1, h2, h3.wat⟩
theorem rd_asks {base : Nat} {w : World} {R : Nat} {r : RSt} {F : Nat → Prop} {vl va vr : Value} {qs : List Value} (h : RdIn base w R r F vl va vr qs) : ∃ A c, vl = .slice A r.l.length c ∧ AsksAt w A r.l := by
  have hl := h.asks.len
  obtain ⟨hcl, hcase⟩ := h.ownl
  rcases hcase with ⟨hv, h0⟩ | ⟨g, cap, cur, hv, hg, hh, hcap, hm, hs, ht⟩
  · exact ⟨none, 0, by rw [h0]; exact hv, fun hn => absurd hn (by omega)⟩
  · refine ⟨_, _, hv, fun _ => ⟨g, rfl, fun i a hi => ?_⟩⟩
    obtain ⟨A1, c1, A2, c2, h1, h2, h3, h4, h5⟩ := vals_at h.asks i a hi
    refine ⟨A1, c1, A2, c2, fun j v hj => ?_, h2.wat, h3.wsat, h4, h5⟩
    have h6 := h1 j v hj
    have h7 : i * 5 + j < qs.length := (List.getElem?_eq_some_iff.1 h6).1
    rw [blk_cell hh]
    rw [← ht, List.getElem?_take, if_pos (by rw [← hcl]; exact h7)] at h6
    simpa using h6
def ParsePost (text : ByteArray) (w : World) (e : Ending) (w' : World) : Prop :=
  ∃ A c, e = .returned (.tuple #[.slice A (parseM text).1.length c, .int .i64 (parseM text).2.1, .int .i64 (parseM text).2.2]) ∧ AsksAt w' A (parseM text).1 ∧ Below w.heap.size w w'
theorem asks_nil (w : World) : AsksAt w none [] := fun h => absurd h (by decide)

theorem parse_ret {text : ByteArray} {w w' : World} {L : List Ask} {n : Nat} {er : Int} {A : Option Addr} {c : Nat} (h : parseM text = (L, n, er)) (hA : AsksAt w' A L) (hb : Below w.heap.size w w') :
    ParsePost text w (.returned (.tuple #[.slice A L.length c, .int .i64 n, .int .i64 er])) w' := by
  unfold ParsePost
  rw [h]
  exact ⟨A, c, rfl, hA, hb⟩
theorem take_len {r r' : RSt} {s : ByteArray} (h : takeM r s = some r') : r'.l.length ≤ r.l.length + 1 := by
  unfold takeM at h
  split at h
  · split at h
    · split at h
      · cases h; exact Nat.le_succ _
      · cases h
    · cases h
  · split at h
    · split at h
      · split at h
        · cases h; exact Nat.le_succ _
        · cases h
      · split at h
        · cases h; simp
        · cases h
    · cases h
theorem run_none {rest : ByteArray} (hz : rest.size ≠ 0) (r : RSt) (n : Nat) (hc : cutM 10 rest.data.toList = none) : runM (rest.size + 1) rest.data.toList r n = (n, none) := by
  have h0 : ¬ rest.data.toList = [] := fun e => hz (by rw [← size_list, e]; rfl)
  unfold runM
  rw [if_neg h0, hc]
theorem run_bad {rest : ByteArray} (hz : rest.size ≠ 0) (r : RSt) (n : Nat) {a b : List UInt8} (hc : cutM 10 rest.data.toList = some (a, b)) (ht : takeM r ⟨a.toArray⟩ = none) : runM (rest.size + 1) rest.data.toList r n = (n, none) := by
  have h0 : ¬ rest.data.toList = [] := fun e => hz (by rw [← size_list, e]; rfl)
  unfold runM
  rw [if_neg h0, hc]
  dsimp only
  rw [ht]
theorem run_ok {rest : ByteArray} (hz : rest.size ≠ 0) (r r' : RSt) (n : Nat) {a b : List UInt8} (hc : cutM 10 rest.data.toList = some (a, b)) (ht : takeM r ⟨a.toArray⟩ = some r') : runM (rest.size + 1) rest.data.toList r n = runM (b.length + 1) b r' (n + 1) := by
  have h0 : ¬ rest.data.toList = [] := fun e => hz (by rw [← size_list, e]; rfl)
  have hl := cutM_len 10 _ a b hc
  rw [size_list] at hl
  conv => lhs; unfold runM
  rw [if_neg h0, hc]
  dsimp only
  rw [ht]
  exact runM_fuel rest.size b r' (n + 1) (by omega)

set_option maxRecDepth 100000 in
set_option maxHeartbeats 4000000 in
theorem parse_any (text : ByteArray) (w : World) (hE : Env w) (hs : text.size ≤ 2000000 ∨ 1048576 < text.size) : Calls Tryz.prog 24 #[.string text] w (ParsePost text w) := by
  by_cases hbig : 1048576 < text.size
  · have e0 : (1048576 : Int) < (text.size : Int) := by omega
    have hp : parseM text = ([], 0, 3) := by unfold parseM; rw [if_pos hbig]
    have hp' := Lib.hid hp
    clear hp hbig hs
    have hq := Lib.hid (show ParsePost text w (.returned (.tuple #[.slice none 0 0, .int .i64 0, .int .i64 3])) w from parse_ret hp'.out (asks_nil _) (Below.refl _ _))
    go_enter Tryz.func24, Tryz.ntmps24
    go_wp2
    refine wp_scope_straight ?_
    go_wp2
    rw [Exit.noGoto_ret]
    exact bodyPost_ret (v := .tuple #[.slice none 0 0, .int .i64 0, .int .i64 3]) (by simp [results, Tryz.results24, go_sem]) rfl hq.out
  · have e0 : ¬ (1048576 : Int) < (text.size : Int) := by omega
    have hsz : text.size ≤ 2000000 := by rcases hs with h | h <;> omega
    have hp : parseM text = finM (runM (text.size + 1) text.data.toList zeroR 0) := by unfold parseM; rw [if_neg hbig]
    have hp' := Lib.hid hp
    have hb0 := Lib.hid ((Below.refl w.heap.size w).alloc (Nat.le_refl _) (.cells #[.slice none 0 0, .slice none 0 0, .slice none 0 0, .bool false] 98))
    have hR0 := Lib.hid (show Rd w.heap.size (w.alloc (.cells #[.slice none 0 0, .slice none 0 0, .slice none 0 0, .bool false] 98)) w.heap.size zeroR from
      ⟨fun _ => False, .slice none 0 0, .slice none 0 0, .slice none 0 0, [], fun b h => h.elim, fun h => h, fun g h => by simp [Value.ownBlock] at h, Nat.le_refl _, heap_alloc_new w _, ⟨rfl, .inl ⟨rfl, rfl⟩⟩, rfl, fun h => by cases h⟩)
    have hE' := Lib.hid hE
    clear hE hs hbig hp
    go_enter Tryz.func24, Tryz.ntmps24
    go_wp2_with fail
    refine wp_scope_straight ?_
    go_wp2_with fail
    refine wp_label ?_
    go_wp2_with fail
    go_loopg [6, 7, 8] text.size (fun g s6 s7 s8 wr => ∃ (n : Nat) (rest : ByteArray) (r : RSt), rest.size ≤ g ∧ s6 = .int .i64 n ∧ s7 = .bool true ∧ s8 = .string rest ∧ n + rest.size ≤ text.size ∧ r.l.length ≤ n ∧ Rd w.heap.size wr w.heap.size r ∧ Below w.heap.size w wr ∧ runM (text.size + 1) text.data.toList zeroR 0 = runM (rest.size + 1) rest.data.toList r n)
    case atStart => exact ⟨0, text, zeroR, Nat.le_refl _, rfl, rfl, rfl, by omega, Nat.le_refl _, hR0.out, hb0.out, rfl⟩
    case round =>
      obtain ⟨n, rest, r, hg, rfl, rfl, rfl, hnr, hrn, hR, hb, hrun⟩ := hrel
      have hR' := Lib.hid hR
      have hb' := Lib.hid hb
      have hrun' := Lib.hid hrun
      clear hR hb hrun
      by_cases hz : rest.size = 0
      · have hem : rest.toList.isEmpty = true := by
          rw [ByteArray.toList_eq]
          have := size_list rest
          rw [List.isEmpty_iff]
          exact List.length_eq_zero_iff.1 (by omega)
        have hfin := Lib.hid (show parseM text = finM (n, some r) by
          have h0 : rest.data.toList = [] := List.length_eq_zero_iff.1 (by rw [size_list]; exact hz)
          rw [hp'.out, hrun'.out, h0]
          unfold runM
          rw [if_pos rfl])
        obtain ⟨F, vl, va, vr, qs, hi⟩ := hR'.out
        obtain ⟨AL, cL, hvl, hAL⟩ := rd_asks hi
        subst hvl
        have hAL' := Lib.hid hAL
        obtain ⟨b0, b1, b2, b3, bf⟩ := box4 hi.blk
        clear hi hAL hR'
        obtain ⟨on, hon⟩ : ∃ on, r.on = on := ⟨_, rfl⟩
        rw [hon] at b3
        have hon' := Lib.hid hon
        have hll : r.l.length ≤ 2000000 := by omega
        clear hon
        cases on
        · by_cases h64 : 64 < r.l.length
          · have e64 : (64 : Int) < (r.l.length : Int) := by omega
            have hf2 := Lib.hid (show parseM text = ([], 0, 3) from by rw [hfin.out]; unfold finM; dsimp only; rw [if_neg (by rw [hon'.out]; simp), if_pos h64])
            cases gk
            all_goals
              go_wp2
              try rw [Exit.noGoto_ret]
              go_ret3
              exact parse_ret hf2.out (asks_nil _) hb'.out
          · have e64 : ¬ (64 : Int) < (r.l.length : Int) := by omega
            have hf2 := Lib.hid (show parseM text = (r.l, 0, 0) from by rw [hfin.out]; unfold finM; dsimp only; rw [if_neg (by rw [hon'.out]; simp), if_neg h64])
            cases gk
            all_goals
              go_wp2
              try rw [Exit.noGoto_ret]
              go_ret3
              exact parse_ret hf2.out hAL'.out hb'.out
        · have hf2 := Lib.hid (show parseM text = ([], n, 15) from by rw [hfin.out]; unfold finM; dsimp only; rw [if_pos hon'.out])
          cases gk
          all_goals
            go_wp2
            try rw [Exit.noGoto_ret]
            go_ret3
            exact parse_ret hf2.out (asks_nil _) hb'.out
      · have hem : rest.toList.isEmpty = false := by
          rw [ByteArray.toList_eq]
          have := size_list rest
          cases hl : rest.data.toList with
          | nil => rw [hl] at this; exact absurd this.symm hz
          | cons a b => rfl
        cases gk with
        | zero => omega
        | succ g =>
          have hE1 := hE'.out.below hb'.out
          obtain ⟨m, hmx⟩ := hE1.mx
          have hcut := Tryz.strings_Cut rest ⟨#[10]⟩ m wr (by omega) hmx
          obtain ⟨a, b, t, hct⟩ : ∃ a b t, Lib.cut rest.data.toList [10] = (a, b, t) := ⟨_, _, _, rfl⟩
          rw [show (⟨#[10]⟩ : ByteArray).data.toList = [10] from rfl, hct] at hcut
          have hcm := cut_cutM 10 rest.data.toList
          rw [hct] at hcm
          have hcut' := Lib.hid (show Calls Tryz.prog 59 #[.string rest, .string ⟨#[10]⟩] wr fun e w' => e = .returned (.tuple #[.string ⟨a.toArray⟩, .string ⟨b.toArray⟩, .bool t]) ∧ ∃ n, w' = wr.drewN n from hcut)
          have hE1' := Lib.hid hE1
          clear hcut hE1 hmx
          cases t
          · have hf2 := Lib.hid (show parseM text = ([], n, 15) from by rw [hp'.out, hrun'.out, run_none hz r n hcm]; rfl)
            go_wp2_with fail
            refine hcut'.out.mono ?_
            rintro e w1 ⟨rfl, q, rfl⟩
            have hfb := Lib.hid (below_drewN hb'.out q)
            go_wp2
            try rw [Exit.noGoto_ret]
            go_ret3
            exact parse_ret hf2.out (asks_nil _) hfb.out
          · have hcl := cutM_len 10 rest.data.toList a b hcm
            have hal : (⟨a.toArray⟩ : ByteArray).size = a.length := by rw [← size_list]
            have hbl : (⟨b.toArray⟩ : ByteArray).size = b.length := by rw [← size_list]
            rw [size_list] at hcl
            have htk := Lib.hid (fun q => take_any w.heap.size w.heap.size r ⟨a.toArray⟩ (wr.drewN q) (hE1'.out.below (below_drewN (Below.refl _ _) q)) (by omega)
              (by obtain ⟨F, vl, va, vr, qs, hi⟩ := hR'.out; exact ⟨F, vl, va, vr, qs, hi.below (below_drewN (Below.refl _ _) q)⟩) (by omega))
            cases htm : takeM r ⟨a.toArray⟩ with
            | none =>
              have hf2 := Lib.hid (show parseM text = ([], n, 15) from by rw [hp'.out, hrun'.out, run_bad hz r n hcm htm]; rfl)
              have htk2 := Lib.hid (fun q => (htk.out q).mono fun e w' h => (show e = .returned (.bool false) ∧ Below w.heap.size (wr.drewN q) w' from by
                obtain ⟨b', h1, h2, h3, h4⟩ := h
                rw [h3 htm] at h1
                exact ⟨h1, h2⟩))
              clear htk htm
              go_wp2_with fail
              refine hcut'.out.mono ?_
              rintro e w1 ⟨rfl, q, rfl⟩
              go_wp2_with fail
              refine (htk2.out q).mono ?_
              rintro e w2 ⟨rfl, hb2⟩
              have hfb := Lib.hid ((below_drewN hb'.out q).trans hb2)
              clear hb2
              go_wp2
              try rw [Exit.noGoto_ret]
              go_ret3
              exact parse_ret hf2.out (asks_nil _) hfb.out
            | some r' =>
              have hlr : r'.l.length ≤ n + 1 := by
                have : r'.l.length ≤ r.l.length + 1 := take_len htm
                omega
              have hf2 := Lib.hid (show runM (text.size + 1) text.data.toList zeroR 0 = runM (b.length + 1) b r' (n + 1) from by
                rw [hrun'.out]
                exact run_ok hz r r' n hcm htm)
              have htk2 := Lib.hid (fun q => (htk.out q).mono fun e w' h => (show e = .returned (.bool true) ∧ Below w.heap.size (wr.drewN q) w' ∧ Rd w.heap.size w' w.heap.size r' from by
                obtain ⟨b', h1, h2, h3, h4⟩ := h
                obtain ⟨h5, h6⟩ := h4 r' htm
                rw [h5] at h1
                exact ⟨h1, h2, h6⟩))
              clear htk htm
              go_wp2_with fail
              refine hcut'.out.mono ?_
              rintro e w1 ⟨rfl, q, rfl⟩
              go_wp2_with fail
              refine (htk2.out q).mono ?_
              rintro e w2 ⟨rfl, hb2, hR2⟩
              have hfb := Lib.hid ((below_drewN hb'.out q).trans hb2)
              have hR2' := Lib.hid hR2
              clear hb2 hR2
              go_wp2
              go_roundg g
              case measure => omega
              case rel =>
                refine ⟨n + 1, ⟨b.toArray⟩, r', by omega, by go_num, rfl, rfl, by omega, hlr, hR2'.out, hfb.out, ?_⟩
                rw [hf2.out, hbl]
end Go.Proofs.YtkbmckmlnphpmaaGreatDoor
