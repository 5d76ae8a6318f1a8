/- A line is taken: the reader's asking ends. -/
import Derived.Test.YtkbmckmlnphpmaaGreatDoorY
set_option linter.unusedSimpArgs false
set_option linter.unusedVariables false
namespace Go.Proofs.YtkbmckmlnphpmaaGreatDoor
open Go.RowKit Go.Lib Go.Shelf

/-- the state when the asking has ended -/
theorem RdIn.done {base : Nat} {w w2 w5 w6 : World} {R : Nat} {r : RSt} {F : Nat → Prop} {vl va : Value} {Aa Ar : Option Addr} {ca cr : Nat} {qs rs : List Value} (h : RdIn base w R r F vl va (.slice Ar r.regs.length cr) qs) (hc : CurIn base w R r F vl va (.slice Ar r.regs.length cr) Aa ca rs)
    (hAr : 0 < r.regs.length → ∃ g, Ar = some ⟨g, 0, none⟩ ∧ base ≤ g ∧ g < w.heap.size ∧ ∀ i v, rs[i]? = some v → w.cell? ⟨g, i, none⟩ = some v)
    (hb : Below w.heap.size w w2) {g cap : Nat} {k st fu : Int} {o : Obj}
    (hown : w5.ownsRow base 42 5 (.slice (some ⟨g, 0, none⟩) (r.l.length + 1) cap) (r.l.length + 1) (qs ++ [.int .i64 k, .slice Aa r.args.length ca, .slice Ar r.regs.length cr, .int .u64 st, .int .i64 fu]))
    (hg : ((w2.alloc o).alloc o).drew.grownBy w5 vl.ownBlock) (hat : vl.ownBlock = some g ∨ g = ((w2.alloc o).alloc o).drew.heap.size)
    (hR : w5.heap[R]? = some (.cells #[vl, va, .slice Ar r.regs.length cr, .bool true] 98 (0, 0)))
    (h6 : w6 = (w5.setCell ⟨R, 0, none⟩ (.slice (some ⟨g, 0, none⟩) (r.l.length + 1) cap)).setCell ⟨R, 3, none⟩ (.bool false)) :
    Rd base w6 R ⟨r.l ++ [⟨k, r.args, r.regs, st, fu⟩], r.args, r.regs, false⟩ := by
  have hRw := blk_lt h.blk
  have hsz2 := hb.size
  have hsa : ((w2.alloc o).alloc o).drew.heap.size = w2.heap.size + 2 := by simp
  have hgs := hg.size
  have hgR : g ≠ R := by
    rintro rfl
    rcases hat with h7 | h7
    · exact (h.fl g h7).2 rfl
    · omega
  have hold : ∀ b, b < w.heap.size → b ≠ R → vl.ownBlock ≠ some b → w6.heap[b]? = w.heap[b]? := fun b hb1 hb2 hb3 => by
    rw [h6, set_other hb2, set_other hb2, hg.block b (by omega) (fun e => hb3 e.symm)]
    exact (heap_alloc_old (w2.alloc o) o (by simp; omega)).trans ((heap_alloc_old w2 o (by omega)).trans (hb.block b hb1))
  have hag : ∀ b, (F b ∨ (Value.slice Ar r.regs.length cr).ownBlock = some b) → w6.heap[b]? = w.heap[b]? := by
    rintro b (hF | hF)
    · exact hold b (h.lt b hF) (fun e => h.fR (e ▸ hF)) (fun e => (h.fl b e).1 hF)
    · exact hold b (hc.ownr.lt b hF).2 (hc.fr b hF).2 (fun e => hc.ne b e hF)
  have hagF : Agree F w w6 := fun b hF => hag b (.inl hF)
  have hk5 : w5.grownBy w6 (some R) := by
    subst h6
    exact ⟨rfl, rfl, rfl, by rw [set_size, set_size]; exact Nat.le_refl _, fun i _ hne => by
      have : i ≠ R := fun e => hne (by rw [e])
      rw [set_other this, set_other this]⟩
  have hs6 : w6.heap.size = w5.heap.size := by subst h6; rw [set_size, set_size]
  refine ⟨fun b => F b ∨ (Value.slice Ar r.regs.length cr).ownBlock = some b, .slice (some ⟨g, 0, none⟩) (r.l.length + 1) cap, va, .slice Ar r.regs.length cr, qs ++ [.int .i64 k, .slice Aa r.args.length ca, .slice Ar r.regs.length cr, .int .u64 st, .int .i64 fu], ?_, ?_, ?_, h.bR, ?_, ?_, ?_, fun e => by cases e⟩
  · rw [hs6]
    rintro b (hF | hF)
    · have := h.lt b hF; omega
    · have := (hc.ownr.lt b hF).2; omega
  · rintro (hF | hF)
    · exact h.fR hF
    · exact (hc.fr R hF).2 rfl
  · intro g' hg'
    simp [Value.ownBlock] at hg'
    subst hg'
    refine ⟨?_, hgR⟩
    rintro (hF | hF)
    · rcases hat with h7 | h7
      · exact (h.fl g h7).1 hF
      · have := h.lt g hF; omega
    · rcases hat with h7 | h7
      · exact hc.ne g h7 hF
      · have := (hc.ownr.lt g hF).2; omega
  · rw [h6]
    exact set_same (set_same hR)
  · have h7 := hown.kept hk5 (.inr (by simp [Value.ownBlock]; exact hgR))
    simpa using h7
  · have h8 : AskVals (fun b => F b ∨ (Value.slice Ar r.regs.length cr).ownBlock = some b) w6 qs r.l := h.asks.go (fun b hF => Or.inl hF) hagF
    refine AskVals.snoc (a := ⟨k, r.args, r.regs, st, fu⟩) (A1 := Aa) (A2 := Ar) (c1 := ca) (c2 := cr) ⟨hc.args.go (fun b hF => Or.inl hF) hagF, ?_, hc.alen, hc.rlen⟩ h8
    intro hn
    obtain ⟨g', e1, e2, e3, e4⟩ := hAr hn
    have hgb : (Value.slice Ar r.regs.length cr).ownBlock = some g' := by rw [e1]; simp [Value.ownBlock]
    refine ⟨g', 0, e1, .inr hgb, fun i ws hi => ?_⟩
    obtain ⟨A', c', h7, h8, h9⟩ := hc.regs.2 i ws hi
    refine ⟨A', c', ?_, h8, h9.go (fun b hF => Or.inl hF) hagF⟩
    rw [Nat.zero_add]
    exact (World.cell?_of_block (a := ⟨g', i, none⟩) (hag g' (.inr hgb))).trans (e4 i _ h7)

set_option maxRecDepth 100000 in
set_option maxHeartbeats 4000000 in
theorem take_line (base R : Nat) (r : RSt) (s p : ByteArray) (er : Int) (w : World) (hE : Env w) (hs : s.size ≤ 1000000) (hr : Rd base w R r) (hon : r.on = true) (hrl : r.l.length ≤ 1000000)
    (hk : Calls Tryz.prog 18 #[.string s] w fun e w' => (∃ A n c, e = .returned (.tuple #[.string p, .slice A n c, .int .i64 er])) ∧ Below w.heap.size w w')
    (hno : er = 15 ∨ (er = 0 ∧ p ≠ withW))
    (hm : takeM r s = match unlineM s with | some (k, st, fu) => some ⟨r.l ++ [⟨k, r.args, r.regs, st, fu⟩], r.args, r.regs, false⟩ | none => none) :
    Calls Tryz.prog 60 #[.pointer (some ⟨R, 0, none⟩), .string s] w (TakePost base R r s w) := by
  obtain ⟨F, vl, va, vr, qs, hi⟩ := hr
  obtain ⟨Aa, ca, rs, hc⟩ := hi.cur hon
  have hrs : rs.length = r.regs.length := hc.regs.1
  obtain ⟨Ar, cr, hvr, hAr⟩ := own_at hc.ownr hrs
  have hAr' := Lib.hid hAr
  have hva := hc.va
  subst hva hvr
  obtain ⟨i0, hi0, hz0, hz1, hz2⟩ := info_parts info42
  have hi0' := Lib.hid (And.intro hi0 (And.intro hz0 (And.intro hz1 hz2)))
  have hi' := Lib.hid hi
  have hc' := Lib.hid hc
  have hlt := blk_lt hi.blk
  have hbR := hi.bR
  have hbk := hi.blk
  rw [hon] at hbk
  have hbk' := Lib.hid hbk
  have hon' := Lib.hid hon
  have hk' := Lib.hid hk
  have hE' := Lib.hid hE
  have hm' := Lib.hid hm
  obtain ⟨k, st, fu, er2, hun, hu1, hu2⟩ : ∃ k st fu er2, (∀ W, Env W → Calls Tryz.prog 21 #[.string s] W fun e w' => e = .returned (.tuple #[.agg #[.int .i64 k, .slice none 0 0, .slice none 0 0, .int .u64 st, .int .i64 fu], .int .i64 er2]) ∧ Below W.heap.size W w') ∧ (unlineM s = none → er2 = 15) ∧ (unlineM s ≠ none → er2 = 0 ∧ unlineM s = some (k, st, fu)) := by
    cases hul : unlineM s with
    | none => exact ⟨0, 0, 0, 15, fun W hW => (unline_any s W hW hs).mono fun e w' h => ⟨h.1 hul, h.2.2⟩, fun _ => rfl, fun h => absurd rfl h⟩
    | some x =>
      obtain ⟨k, st, fu⟩ := x
      exact ⟨k, st, fu, 0, fun W hW => (unline_any s W hW hs).mono fun e w' h => ⟨h.2.1 k st fu hul, h.2.2⟩, (fun h => by cases h), fun _ => ⟨rfl, rfl⟩⟩
  have hun' := Lib.hid hun
  have hu1' := Lib.hid hu1
  have hu2' := Lib.hid hu2
  obtain ⟨nl, hnl⟩ : ∃ nl, r.l.length = nl := ⟨_, rfl⟩
  rw [hnl] at hrl
  have hnl' := Lib.hid hnl
  clear hE hm hi hc hbk hon hi0 hz0 hz1 hz2 hrs hAr hk hun hu1 hu2 hnl
  rcases (show (er = 15 ∧ True) ∨ (er = 0 ∧ (p.toList == [119, 105, 116, 104]) = false) from by
    rcases hno with h | ⟨h1, h2⟩
    · exact .inl ⟨h, trivial⟩
    · exact .inr ⟨h1, cmp_ne h2⟩) with ⟨her, hcp⟩ | ⟨her, hcp⟩
  all_goals (
    subst her
    clear hno
    go_enter Tryz.func60, Tryz.ntmps60
    go_wp2_with fail
    refine hk'.out.mono ?_
    rintro e w1 ⟨⟨A, n, c, rfl⟩, hb1⟩
    have hwb := (hb1.block _ hlt).trans hbk'.out
    obtain ⟨g0, g1, g2, g3, gf⟩ := box4 hwb
    have hwb' := Lib.hid hwb
    have hlt1 := Nat.lt_of_lt_of_le hlt hb1.size
    have hb1n := Lib.hid hb1
    clear hb1 hwb
    go_wp2_with fail
    refine (hun'.out _ (hE'.out.below hb1n.out)).mono ?_
    rintro e w2 ⟨rfl, hb2⟩
    have hwb := (hb2.block _ hlt1).trans hwb'.out
    obtain ⟨q0, q1, q2, q3, qf⟩ := box4 hwb
    have hwb2 := Lib.hid hwb
    have hlt2 := Nat.lt_of_lt_of_le hlt1 hb2.size
    have hb2n := Lib.hid (Below.next hb1n.out hb2)
    clear hb2 hwb g0 g1 g2 g3 gf
    go_wp2_with fail
    obtain ⟨bx, hbx⟩ : ∃ bx, bx = Obj.cells #[.int .i64 k, .slice Aa r.args.length ca, .slice Ar r.regs.length cr, .int .u64 st, .int .i64 fu] 42 := ⟨_, rfl⟩
    have hown := Lib.hid (show ((w2.alloc bx).alloc bx).drew.ownsRow base 42 5 vl nl qs from by
      have := ((hi'.out.below hb2n.out).ownl.alloc bx).alloc bx
      rw [hnl'.out] at this
      exact this)
    have hnew := Lib.hid (show ∀ j u, [Value.int .i64 k, .slice Aa r.args.length ca, .slice Ar r.regs.length cr, .int .u64 st, .int .i64 fu][j]? = some u → ((w2.alloc bx).alloc bx).drew.cell? ((⟨w2.heap.size + 1, 0, none⟩ : Addr).add j) = some u from fun j u hu => by
      have e : (w2.alloc bx).heap.size = w2.heap.size + 1 := by simp
      have h9 := heap_alloc_new (w2.alloc bx) bx
      rw [e] at h9
      rw [Lib.add_plain, Nat.zero_add]
      have h10 : ((w2.alloc bx).alloc bx).drew.heap[w2.heap.size + 1]? = some (.cells #[.int .i64 k, .slice Aa r.args.length ca, .slice Ar r.regs.length cr, .int .u64 st, .int .i64 fu] 42 (0, 0)) := by rw [← hbx]; exact h9
      rw [blk_cell h10]
      simpa using hu)
    have hone := Lib.hid (show ∀ v ∈ [Value.int .i64 k, .slice Aa r.args.length ca, .slice Ar r.regs.length cr, .int .u64 st, .int .i64 fu], v.oneCell' = true by simp [Value.oneCell'])
    have hbs := Lib.hid (show base ≤ ((w2.alloc bx).alloc bx).drew.heap.size by simp; omega)
    have hk1 := Lib.hid (show nl + 1 ≤ maxLen by unfold maxLen; omega)
    have hk2 := Lib.hid (show (nl + 1) * 72 ≤ 140737488355328 by omega)
    obtain ⟨hj1, hj2, hj3, hj4⟩ := hi0'.out
    have hRs := Lib.hid (show ((w2.alloc bx).alloc bx).drew.heap[R]? = _ from (heap_alloc_old (w2.alloc bx) bx (by simp; omega)).trans ((heap_alloc_old w2 bx hlt2).trans hwb2.out))
    have hne := Lib.hid (show some R ≠ vl.ownBlock from fun e => (hi'.out.fl R e.symm).2 rfl)
    have hlt3 := Lib.hid (show R < ((w2.alloc bx).alloc bx).drew.heap.size by simp; omega)
    subst hbx
    go_region_law (first
      | (refine step_append_lies _ rfl _ _ 48 rfl base 42 i0 _ 5 72 und48 hj1 hj2 hj3 hj4 rfl (by decide) vl nl qs rfl hown.out ⟨w2.heap.size + 1, 0, none⟩ 1 1 [.int .i64 k, .slice Aa r.args.length ca, .slice Ar r.regs.length cr, .int .u64 st, .int .i64 fu] rfl rfl hnew.out hone.out (by decide) hk1.out hk2.out hbs.out _ rfl ?_; intro g cap w5 hown5 hg5 hat5 hlt5; have hRb := (hg5.block R hlt3.out hne.out).trans hRs.out; obtain ⟨y0, y1, y2, y3, yf⟩ := box4 hRb; have hRb := Lib.hid hRb; have hown5 := Lib.hid hown5; have hg5 := Lib.hid hg5; have hat5 := Lib.hid hat5; have hlt5 := Lib.hid hlt5))
    all_goals (
      go_wp2
      go_ret
      have hB : Below base w ((w5.setCell ⟨R, 0, none⟩ (.slice (some ⟨g, 0, none⟩) (nl + 1) cap)).setCell ⟨R, 3, none⟩ (.bool false)) := by
        have h1 := hb2n.out.mono (show base ≤ w.heap.size by omega)
        have hz2 := hb2n.out.size
        have h2 := ((h1.alloc (show base ≤ w2.heap.size by omega) (Obj.cells #[.int .i64 k, .slice Aa r.args.length ca, .slice Ar r.regs.length cr, .int .u64 st, .int .i64 fu] 42)).alloc (by simp; omega) (Obj.cells #[.int .i64 k, .slice Aa r.args.length ca, .slice Ar r.regs.length cr, .int .u64 st, .int .i64 fu] 42)).drew
        exact ((h2.grown hg5.out hbs.out (fun g' e => (hown.out.lt g' e).1)).setCell hbR _).setCell hbR _
      refine ⟨er2 == 0, rfl, hB, fun h => ?_, fun r' h => ?_⟩
      · have h3 : unlineM s = none := by
          rw [hm'.out] at h
          cases hul : unlineM s with
          | none => rfl
          | some x => rw [hul] at h; cases h
        rw [hu1'.out h3]; rfl
      · have h3 : unlineM s ≠ none := fun e => by rw [hm'.out, e] at h; cases h
        obtain ⟨e1, e2⟩ := hu2'.out h3
        rw [hm'.out, e2] at h
        cases h
        refine ⟨by rw [e1]; rfl, ?_⟩
        have hown5n := hown5.out
        rw [← hnl'.out] at hown5n
        exact hi'.out.done hc'.out hAr'.out hb2n.out hown5n hg5.out hat5.out hRb.out (by rw [hnl'.out])))
end Go.Proofs.YtkbmckmlnphpmaaGreatDoor
