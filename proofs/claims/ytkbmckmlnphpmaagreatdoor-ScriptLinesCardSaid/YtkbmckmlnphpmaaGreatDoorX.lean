/- A line is taken: the reader starts an asking. -/
import Derived.Test.YtkbmckmlnphpmaaGreatDoorW
set_option linter.unusedSimpArgs false
set_option linter.unusedVariables false
namespace Go.Proofs.YtkbmckmlnphpmaaGreatDoor
open Go.RowKit Go.Lib Go.Shelf

def TakePost (base R : Nat) (r : RSt) (s : ByteArray) (w : World) (e : Ending) (w' : World) : Prop :=
  ∃ b, e = .returned (.bool b) ∧ Below base w w' ∧ (takeM r s = none → b = false) ∧ (∀ r', takeM r s = some r' → b = true ∧ Rd base w' R r')
theorem set_same {w : World} {b o : Nat} {v : Value} {cs : Array Value} {t : TypeId} {fz : Nat × Nat} (h : w.heap[b]? = some (.cells cs t fz)) : (w.setCell ⟨b, o, none⟩ v).heap[b]? = some (.cells (cs.setIfInBounds o v) t fz) := by
  simp [World.setCell, Array.getElem?_modify, h]
theorem set_other {w : World} {b o k : Nat} {v : Value} (h : k ≠ b) : (w.setCell ⟨b, o, none⟩ v).heap[k]? = w.heap[k]? := by
  simp [World.setCell, Array.getElem?_modify, Ne.symm h]
theorem set_size (w : World) (b o : Nat) (v : Value) : (w.setCell ⟨b, o, none⟩ v).heap.size = w.heap.size := by simp [World.setCell]
theorem box4 {W : World} {b : Nat} {v0 v1 v2 v3 : Value} {t : TypeId} (h : W.heap[b]? = some (.cells #[v0, v1, v2, v3] t (0, 0))) :
    W.cell? ⟨b, 0, none⟩ = some v0 ∧ W.cell? ⟨b, 1, none⟩ = some v1 ∧ W.cell? ⟨b, 2, none⟩ = some v2 ∧ W.cell? ⟨b, 3, none⟩ = some v3 ∧ ∀ k, W.frozen? ⟨b, k, none⟩ = false :=
  ⟨by rw [blk_cell h]; rfl, by rw [blk_cell h]; rfl, by rw [blk_cell h]; rfl, by rw [blk_cell h]; rfl, fun k => by simp [World.frozen?, h]⟩
theorem cmp_ne {p q : ByteArray} (h : p ≠ q) : (p.toList == q.data.toList) = false := by
  rw [ByteArray.toList_eq]
  have : p.data.toList ≠ q.data.toList := fun e => h (ext_bytes e)
  simpa using this
/-- the state when an asking starts -/
theorem RdIn.start {base : Nat} {w w1 w2 : World} {R : Nat} {r : RSt} {F : Nat → Prop} {vl va vr : Value} {qs : List Value} (h : RdIn base w R r F vl va vr qs)
    (hb : Below w.heap.size w w1) {A : Option Addr} {c : Nat} {l : List Int} (hA : WNew w.heap.size w1 A l) (hl : l.length ≤ 64)
    (hs : w2.heap.size = w1.heap.size) (ho : ∀ k, k ≠ R → w2.heap[k]? = w1.heap[k]?) (hos : w2.os = w1.os ∧ w2.tape = w1.tape ∧ w2.output = w1.output)
    (hR : w2.heap[R]? = some (.cells #[vl, .slice A l.length c, .slice none 0 0, .bool true] 98 (0, 0))) :
    Rd base w2 R ⟨r.l, l, [], true⟩ := by
  have h1 := h.below hb
  have hRw := blk_lt h.blk
  have hag : Agree F w1 w2 := fun b hF => ho b (fun e => h.fR (e ▸ hF))
  have hk : w1.grownBy w2 (some R) := ⟨hos.1, hos.2.1, hos.2.2, by omega, fun i _ hne => ho i (fun e => hne (by rw [e]))⟩
  have hag' : ∀ b, w.heap.size ≤ b → w2.heap[b]? = w1.heap[b]? := fun b hb => ho b (by omega)
  refine ⟨fun b => F b ∨ (w.heap.size ≤ b ∧ b < w1.heap.size), vl, .slice A l.length c, .slice none 0 0, qs, ?_, ?_, ?_, h.bR, hR, ?_, ?_, fun _ => ⟨A, c, [], rfl, ?_, ?_, ?_, hl, ⟨rfl, .inl ⟨rfl, rfl⟩⟩, ⟨rfl, fun i ws hi => by cases hi⟩, Nat.zero_le _⟩⟩
  · rintro b (hF | hF)
    · rw [hs]; exact h1.lt b hF
    · rw [hs]; exact hF.2
  · rintro (hF | hF)
    · exact h.fR hF
    · omega
  · intro g hg
    obtain ⟨e1, e2⟩ := h.fl g hg
    refine ⟨?_, e2⟩
    rintro (hF | hF)
    · exact e1 hF
    · have := (h.ownl.lt g hg).2; omega
  · exact h1.ownl.kept hk (by
      cases hv : vl.ownBlock with
      | none => exact .inl rfl
      | some g => exact .inr (fun e => (h.fl g hv).2 (by injection e)))
  · exact h1.asks.go (fun b hF => .inl hF) hag
  · intro g hg; simp [Value.ownBlock] at hg
  · intro g hg; simp [Value.ownBlock]
  · refine ⟨hA.1, fun hn => ?_⟩
    obtain ⟨blk, e, h2, hc⟩ := hA.2 hn
    have hbl := cell_some_lt (hc 0 l[0] (by simp))
    refine ⟨blk, 0, e, .inr ⟨h2, hbl⟩, fun i x hx => ?_⟩
    rw [Nat.zero_add]
    exact (World.cell?_of_block (a := ⟨blk, i, none⟩) (hag' blk h2)).trans (hc i x hx)

set_option maxRecDepth 100000 in
set_option maxHeartbeats 2000000 in
theorem take_off (base R : Nat) (r : RSt) (s : ByteArray) (w : World) (hE : Env w) (hs : s.size ≤ 1000000) (hr : Rd base w R r) (hon : r.on = false) : Calls Tryz.prog 60 #[.pointer (some ⟨R, 0, none⟩), .string s] w (TakePost base R r s w) := by
  obtain ⟨F, vl, va, vr, qs, hi⟩ := hr
  have hi' := Lib.hid hi
  have hlt := blk_lt hi.blk
  have hbR := hi.bR
  have hbk := hi.blk
  rw [hon] at hbk
  have hbk' := Lib.hid hbk
  have hon' := Lib.hid hon
  clear hi hbk hon
  cases hu : unwM s with
  | none =>
    have hm := Lib.hid (show takeM r s = none by unfold takeM; rw [hon'.out, hu])
    have hk := Lib.hid ((unwords_any s w hE hs).mono fun e w' h => (show e = .returned (.tuple #[.string ⟨#[]⟩, .slice none 0 0, .int .i64 15]) ∧ Below w.heap.size w w' from ⟨h.1 hu, h.2.2⟩))
    clear hE hu
    go_enter Tryz.func60, Tryz.ntmps60
    go_wp2_with fail
    refine hk.out.mono ?_
    rintro e w1 ⟨rfl, hb1⟩
    obtain ⟨g0, g1, g2, g3, gf⟩ := box4 ((hb1.block _ hlt).trans hbk'.out)
    have hlt1 := Nat.lt_of_lt_of_le hlt hb1.size
    have hb1' := Lib.hid (hb1.mono (show base ≤ w.heap.size by omega))
    clear hb1
    go_wp2
    go_ret
    exact ⟨false, rfl, ((hb1'.out.setCell hbR _).setCell hbR _).setCell hbR _, fun _ => rfl, fun r' h => by rw [hm.out] at h; cases h⟩
  | some pl =>
    obtain ⟨p, l⟩ := pl
    have hk := Lib.hid ((unwords_any s w hE hs).mono fun e w' h => (show ∃ A c, e = .returned (.tuple #[.string p, .slice A l.length c, .int .i64 0]) ∧ WNew w.heap.size w' A l ∧ Below w.heap.size w w' from by
      obtain ⟨A, c, h1, h2⟩ := h.2.1 p l hu
      exact ⟨A, c, h1, h2, h.2.2⟩))
    have hm := Lib.hid (show takeM r s = if p = inW ∧ l.length ≤ 64 then some ⟨r.l, l, [], true⟩ else none by unfold takeM; rw [hon'.out, hu])
    clear hE hu
    go_enter Tryz.func60, Tryz.ntmps60
    go_wp2_with fail
    refine hk.out.mono ?_
    rintro e w1 ⟨A, c, rfl, hA, hb1⟩
    have hwb := (hb1.block _ hlt).trans hbk'.out
    obtain ⟨g0, g1, g2, g3, gf⟩ := box4 hwb
    have hwb' := Lib.hid hwb
    have hlt1 := Nat.lt_of_lt_of_le hlt hb1.size
    have hb1n := Lib.hid hb1
    have hb1' := Lib.hid (hb1.mono (show base ≤ w.heap.size by omega))
    have hA' := Lib.hid hA
    clear hb1 hwb hA
    by_cases hp : p = inW
    · have hcp : (p.toList == [105, 110]) = true := by rw [hp, ByteArray.toList_eq]; decide
      by_cases hl : l.length ≤ 64
      · have el : (l.length : Int) ≤ 64 := by omega
        have hl' := Lib.hid hl
        have hmm := Lib.hid (show takeM r s = some ⟨r.l, l, [], true⟩ from by rw [hm.out, if_pos ⟨hp, hl⟩])
        clear hp hl
        go_wp2
        go_ret
        refine ⟨true, rfl, ((hb1'.out.setCell hbR _).setCell hbR _).setCell hbR _, (fun h => by rw [hmm.out] at h; cases h), fun r' h => ⟨rfl, ?_⟩⟩
        rw [hmm.out] at h
        cases h
        refine hi'.out.start (c := c) hb1n.out hA'.out hl'.out (by simp only [set_size]) (fun k hk => ?_) ⟨rfl, rfl, rfl⟩ ?_
        · rw [set_other hk, set_other hk, set_other hk]
        · have h3 := set_same (o := 3) (v := .bool true) (set_same (o := 2) (v := .slice none 0 0) (set_same (o := 1) (v := .slice A l.length c) hwb'.out))
          exact h3
      · have el : ¬ (l.length : Int) ≤ 64 := by omega
        have hmm := Lib.hid (show takeM r s = none from by rw [hm.out, if_neg (fun h => hl h.2)])
        clear hp hl
        have el' := Lib.hid el
        go_wp2
        go_ret
        exact ⟨false, ret_bool (by simp [el'.out]), ((hb1'.out.setCell hbR _).setCell hbR _).setCell hbR _, fun _ => rfl, fun r' h => by rw [hmm.out] at h; cases h⟩
    · have hcp : (p.toList == [105, 110]) = false := cmp_ne hp
      have hmm := Lib.hid (show takeM r s = none from by rw [hm.out, if_neg (fun h => hp h.1)])
      clear hp
      go_wp2
      go_ret
      exact ⟨false, rfl, ((hb1'.out.setCell hbR _).setCell hbR _).setCell hbR _, fun _ => rfl, fun r' h => by rw [hmm.out] at h; cases h⟩
end Go.Proofs.YtkbmckmlnphpmaaGreatDoor
