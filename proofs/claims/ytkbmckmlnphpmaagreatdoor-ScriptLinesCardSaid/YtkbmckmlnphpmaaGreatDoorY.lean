/- A line is taken: the reader's asking goes on, or ends. -/
import Derived.Test.YtkbmckmlnphpmaaGreatDoorX
set_option linter.unusedSimpArgs false
set_option linter.unusedVariables false
namespace Go.Proofs.YtkbmckmlnphpmaaGreatDoor
open Go.RowKit Go.Lib Go.Shelf

theorem info22 : (Tryz.prog.info? 22).map (fun i => (i.zero, i.size, i.bytes)) = some (some (.slice none 0 0), 1, 24) := by kernel_rfl
theorem info42 : (Tryz.prog.info? 42).map (fun i => (i.zero, i.size, i.bytes)) = some (some (.agg zAsk), 5, 72) := by kernel_rfl
theorem und37 : Tryz.prog.underlying 37 = some (.slice 22) := by kernel_rfl
theorem und48 : Tryz.prog.underlying 48 = some (.slice 42) := by kernel_rfl

/-- the state when the asking has one more list of words -/
theorem RdIn.more {base : Nat} {w w1 w4 w5 : World} {R : Nat} {r : RSt} {F : Nat → Prop} {vl va vr : Value} {Aa : Option Addr} {ca : Nat} {qs rs : List Value} (h : RdIn base w R r F vl va vr qs) (hc : CurIn base w R r F vl va vr Aa ca rs)
    (hb : Below w.heap.size w w1) {A : Option Addr} {c g cap : Nat} {l : List Int} (hA : WNew w.heap.size w1 A l) (hl : l.length ≤ 512) (hn : r.regs.length < 16) {o : Obj} (ho : w4.heap.size = w4.heap.size)
    (hown : w4.ownsRow base 22 1 (.slice (some ⟨g, 0, none⟩) (r.regs.length + 1) cap) (r.regs.length + 1) (rs ++ [.slice A l.length c])) (hg : (w1.alloc o).grownBy w4 vr.ownBlock) (hat : vr.ownBlock = some g ∨ g = (w1.alloc o).heap.size)
    (hR : w4.heap[R]? = some (.cells #[vl, va, vr, .bool true] 98 (0, 0))) (h5 : w5 = w4.setCell ⟨R, 2, none⟩ (.slice (some ⟨g, 0, none⟩) (r.regs.length + 1) cap)) :
    Rd base w5 R ⟨r.l, r.args, r.regs ++ [l], true⟩ := by
  subst h5
  have h1 := h.below hb
  have hc1 := hc.below h.lt hb
  have hRw := blk_lt h.blk
  have hsz1 := hb.size
  have hsa : (w1.alloc o).heap.size = w1.heap.size + 1 := by simp
  have hgs := hg.size
  have hgR : g ≠ R := by
    rintro rfl
    rcases hat with h6 | h6
    · exact (hc.fr g h6).2 rfl
    · omega
  have hgF : ∀ b, F b → b ≠ g := by
    rintro b hF rfl
    rcases hat with h6 | h6
    · exact (hc.fr b h6).1 hF
    · have := h.lt b hF; omega
  have hold : ∀ b, b < w1.heap.size → b ≠ R → vr.ownBlock ≠ some b → (w4.setCell ⟨R, 2, none⟩ (.slice (some ⟨g, 0, none⟩) (r.regs.length + 1) cap)).heap[b]? = w1.heap[b]? := fun b hb1 hb2 hb3 => by
    rw [set_other hb2, hg.block b (by omega) (fun e => hb3 e.symm), heap_alloc_old w1 o hb1]
  have hag : Agree F w1 (w4.setCell ⟨R, 2, none⟩ (.slice (some ⟨g, 0, none⟩) (r.regs.length + 1) cap)) := fun b hF =>
    hold b (by have := h1.lt b hF; omega) (fun e => h.fR (e ▸ hF)) (fun e => (hc.fr b e).1 hF)
  have hWA : WF (fun b => F b ∨ (w.heap.size ≤ b ∧ b < w1.heap.size)) (w4.setCell ⟨R, 2, none⟩ (.slice (some ⟨g, 0, none⟩) (r.regs.length + 1) cap)) A l := by
    refine ⟨hA.1, fun hn => ?_⟩
    obtain ⟨blk, e, h2, hcc⟩ := hA.2 hn
    have hbl := cell_some_lt (hcc 0 l[0] (by simp))
    refine ⟨blk, 0, e, .inr ⟨h2, hbl⟩, fun i x hx => ?_⟩
    rw [Nat.zero_add]
    refine (World.cell?_of_block (a := ⟨blk, i, none⟩) (hold blk hbl (by omega) (fun e => ?_))).trans (hcc i x hx)
    have := (hc.ownr.lt blk e).2
    omega
  have hk : w4.grownBy (w4.setCell ⟨R, 2, none⟩ (.slice (some ⟨g, 0, none⟩) (r.regs.length + 1) cap)) (some R) := ⟨rfl, rfl, rfl, by rw [set_size]; exact Nat.le_refl _, fun i _ hne => set_other (fun e => hne (by rw [e]))⟩
  have hvl : ∀ g', vl.ownBlock = some g' → g' < w.heap.size := fun g' e => (h.ownl.lt g' e).2
  refine ⟨fun b => F b ∨ (w.heap.size ≤ b ∧ b < w1.heap.size), vl, va, .slice (some ⟨g, 0, none⟩) (r.regs.length + 1) cap, qs, ?_, ?_, ?_, h.bR, ?_, ?_, ?_, fun _ => ⟨Aa, ca, rs ++ [.slice A l.length c], hc.va, ?_, ?_, ?_, hc.alen, ?_, ?_, ?_⟩⟩
  · rw [set_size]
    rintro b (hF | hF)
    · have := h1.lt b hF; omega
    · omega
  · rintro (hF | hF)
    · exact h.fR hF
    · omega
  · intro g' hg'
    obtain ⟨e1, e2⟩ := h.fl g' hg'
    refine ⟨?_, e2⟩
    rintro (hF | hF)
    · exact e1 hF
    · have := hvl g' hg'; omega
  · exact set_same hR
  · have hk4 : w1.grownBy w4 vr.ownBlock := ⟨hg.os, hg.tape, hg.output, by omega, fun i hi hne => (hg.block i (by omega) hne).trans (heap_alloc_old w1 o hi)⟩
    have h7 := h1.ownl.kept hk4 (by
      cases hv : vl.ownBlock with
      | none => exact .inl rfl
      | some g' => exact .inr (fun e => hc.ne g' hv e.symm))
    exact h7.kept hk (by
      cases hv : vl.ownBlock with
      | none => exact .inl rfl
      | some g' => exact .inr (fun e => (h.fl g' hv).2 (by injection e)))
  · exact h1.asks.go (fun b hF => .inl hF) hag
  · intro g' hg'
    simp [Value.ownBlock] at hg'
    subst hg'
    refine ⟨?_, hgR⟩
    rintro (hF | hF)
    · exact hgF _ hF rfl
    · rcases hat with h6 | h6
      · have := (hc.ownr.lt g h6).2; omega
      · omega
  · intro g' hg' e
    simp [Value.ownBlock] at e
    subst e
    rcases hat with h6 | h6
    · exact hc.ne g hg' h6
    · have := hvl g hg'; omega
  · exact hc1.args.go (fun b hF => .inl hF) hag
  · have h7 := hown.kept hk (.inr (by simp [Value.ownBlock]; exact hgR))
    simpa using h7
  · exact (hc1.regs.go (fun b hF => .inl hF) hag).snoc (by omega) hWA
  · simp; omega

set_option maxRecDepth 100000 in
set_option maxHeartbeats 4000000 in
theorem take_with (base R : Nat) (r : RSt) (s p : ByteArray) (l : List Int) (w : World) (hE : Env w) (hs : s.size ≤ 1000000) (hr : Rd base w R r) (hon : r.on = true) (hu : unwM s = some (p, l)) (hp : p = withW) (hll : l.length ≤ 2000000) :
    Calls Tryz.prog 60 #[.pointer (some ⟨R, 0, none⟩), .string s] w (TakePost base R r s w) := by
  obtain ⟨F, vl, va, vr, qs, hi⟩ := hr
  obtain ⟨Aa, ca, rs, hc⟩ := hi.cur hon
  have hrs : rs.length = r.regs.length := hc.regs.1
  obtain ⟨Ar, cr, hvr, _⟩ := own_at hc.ownr hrs
  have hva := hc.va
  subst hva hvr
  obtain ⟨i0, hi0, hz0, hz1, hz2⟩ := info_parts info22
  have hi0' := Lib.hid (And.intro hi0 (And.intro hz0 (And.intro hz1 hz2)))
  have hi' := Lib.hid hi
  have hc' := Lib.hid hc
  have hlt := blk_lt hi.blk
  have hbR := hi.bR
  have hbk := hi.blk
  rw [hon] at hbk
  have hbk' := Lib.hid hbk
  have hon' := Lib.hid hon
  have hrl := Lib.hid hc.rlen
  obtain ⟨nr, hnr⟩ : ∃ nr, r.regs.length = nr := ⟨_, rfl⟩
  have hnr' := Lib.hid hnr
  have hm := Lib.hid (show takeM r s = if l.length ≤ 512 ∧ r.regs.length < 16 then some ⟨r.l, r.args, r.regs ++ [l], true⟩ else none by unfold takeM; rw [hon, hu]; dsimp only; rw [if_pos hp])
  have hk := Lib.hid ((unwords_any s w hE hs).mono fun e w' h => (show ∃ A c, e = .returned (.tuple #[.string p, .slice A l.length c, .int .i64 0]) ∧ WNew w.heap.size w' A l ∧ Below w.heap.size w w' from by
    obtain ⟨A, c, h1, h2⟩ := h.2.1 p l hu
    exact ⟨A, c, h1, h2, h.2.2⟩))
  have hcp : (p.toList == [119, 105, 116, 104]) = true := by rw [hp, ByteArray.toList_eq]; decide
  clear hE hu hp hi hc hbk hon hi0 hz0 hz1 hz2 hrs
  go_enter Tryz.func60, Tryz.ntmps60
  go_wp2_with fail
  refine hk.out.mono ?_
  rintro e w1 ⟨A, c, rfl, hA, hb1⟩
  have hwb := (hb1.block _ hlt).trans hbk'.out
  obtain ⟨g0, g1, g2, g3, gf⟩ := box4 hwb
  have hwb' := Lib.hid hwb
  have hlt1 := Nat.lt_of_lt_of_le hlt hb1.size
  have hb1n := Lib.hid hb1
  have hA' := Lib.hid hA
  have hbs1 := hb1.size
  have hc1 := hc'.out.below hi'.out.lt hb1
  have hown := Lib.hid (hc1.ownr.alloc (.cells #[.slice A l.length c] 22))
  rw [hnr'.out] at hown
  have hnew := Lib.hid (cell_one_new w1 (.slice A l.length c) 22)
  have hone := Lib.hid (show ∀ v ∈ [Value.slice A l.length c], v.oneCell' = true by simp [Value.oneCell'])
  have hbs := Lib.hid (show base ≤ (w1.alloc (.cells #[.slice A l.length c] 22)).heap.size by simp; omega)
  have hk1 := Lib.hid (show nr + 1 ≤ maxLen by have := hrl.out; have := hnr'.out; unfold maxLen; omega)
  have hk2 := Lib.hid (show (nr + 1) * 24 ≤ 140737488355328 by have := hrl.out; have := hnr'.out; omega)
  obtain ⟨hj1, hj2, hj3, hj4⟩ := hi0'.out
  rw [hnr'.out] at g2
  clear hb1 hwb hA hc1
  have hRs := Lib.hid ((heap_alloc_old w1 (.cells #[.slice A l.length c] 22) hlt1).trans hwb'.out)
  have hne := Lib.hid (show some R ≠ (Value.slice Ar nr cr).ownBlock from fun e => (hc'.out.fr R (by rw [hnr'.out]; exact e.symm)).2 rfl)
  have hlt2 := Lib.hid (show R < (w1.alloc (.cells #[.slice A l.length c] 22)).heap.size by simp; omega)
  by_cases h5 : l.length ≤ 512
  · have el : (l.length : Int) ≤ 512 := by omega
    by_cases h6 : nr + 1 ≤ 16
    · have en : (nr : Int) + 1 ≤ 16 := by omega
      have hmm := Lib.hid (show takeM r s = some ⟨r.l, r.args, r.regs ++ [l], true⟩ from by rw [hm.out, if_pos ⟨h5, by rw [hnr'.out]; omega⟩])
      have h5' := Lib.hid h5
      have h6' := Lib.hid h6
      clear h5 h6
      go_wp2_with ((at_builtin; refine wpList_append_lies _ rfl _ _ 37 rfl base 22 i0 _ 1 24 und37 hj1 hj2 hj3 hj4 rfl (by decide) (.slice Ar nr cr) nr rs rfl hown.out ⟨w1.heap.size, 0, none⟩ 1 1 [.slice A l.length c] rfl rfl hnew.out hone.out (by decide) hk1.out hk2.out hbs.out _ rfl ?_; intro g cap w4 hown4 hg4 hat4 hlt4; have hRb := (hg4.block R hlt2.out hne.out).trans hRs.out; obtain ⟨y0, y1, y2, y3, yf⟩ := box4 hRb; have hRb := Lib.hid hRb; have hown4 := Lib.hid hown4; have hg4 := Lib.hid hg4; have hat4 := Lib.hid hat4; have hlt4 := Lib.hid hlt4))
      go_ret
      refine ⟨true, rfl, (((hb1n.out.mono (show base ≤ w.heap.size by omega)).alloc (by omega) _).grown hg4.out hbs.out (fun g' e => (hown.out.lt g' e).1)).setCell hbR _, (fun h => by rw [hmm.out] at h; cases h), fun r' h => ⟨rfl, ?_⟩⟩
      rw [hmm.out] at h
      cases h
      have hown4n := hown4.out
      rw [← hnr'.out] at hown4n
      have h7 := hi'.out.more hc'.out hb1n.out hA'.out h5'.out (by have := h6'.out; rw [hnr'.out]; omega) rfl hown4n (by rw [hnr'.out]; exact hg4.out) (by rw [hnr'.out]; exact hat4.out) hRb.out rfl
      rw [hnr'.out] at h7
      exact h7
    · have en : ¬ (nr : Int) + 1 ≤ 16 := by omega
      have en' := Lib.hid en
      have hmm := Lib.hid (show takeM r s = none from by rw [hm.out, if_neg (fun h => h6 (by have := h.2; rw [hnr'.out] at this; omega))])
      clear h5 h6
      go_wp2_with ((at_builtin; refine wpList_append_lies _ rfl _ _ 37 rfl base 22 i0 _ 1 24 und37 hj1 hj2 hj3 hj4 rfl (by decide) (.slice Ar nr cr) nr rs rfl hown.out ⟨w1.heap.size, 0, none⟩ 1 1 [.slice A l.length c] rfl rfl hnew.out hone.out (by decide) hk1.out hk2.out hbs.out _ rfl ?_; intro g cap w4 hown4 hg4 hat4 hlt4; have hRb := (hg4.block R hlt2.out hne.out).trans hRs.out; obtain ⟨y0, y1, y2, y3, yf⟩ := box4 hRb; have hRb := Lib.hid hRb; have hown4 := Lib.hid hown4; have hg4 := Lib.hid hg4; have hat4 := Lib.hid hat4; have hlt4 := Lib.hid hlt4))
      go_ret
      exact ⟨false, ret_bool (by simp [en'.out]), (((hb1n.out.mono (show base ≤ w.heap.size by omega)).alloc (by omega) _).grown hg4.out hbs.out (fun g' e => (hown.out.lt g' e).1)).setCell hbR _, fun _ => rfl, fun r' h => by rw [hmm.out] at h; cases h⟩
  · have el : ¬ (l.length : Int) ≤ 512 := by omega
    have hmm := Lib.hid (show takeM r s = none from by rw [hm.out, if_neg (fun h => h5 h.1)])
    clear h5
    go_wp2_with ((at_builtin; refine wpList_append_lies _ rfl _ _ 37 rfl base 22 i0 _ 1 24 und37 hj1 hj2 hj3 hj4 rfl (by decide) (.slice Ar nr cr) nr rs rfl hown.out ⟨w1.heap.size, 0, none⟩ 1 1 [.slice A l.length c] rfl rfl hnew.out hone.out (by decide) hk1.out hk2.out hbs.out _ rfl ?_; intro g cap w4 hown4 hg4 hat4 hlt4; have hRb := (hg4.block R hlt2.out hne.out).trans hRs.out; obtain ⟨y0, y1, y2, y3, yf⟩ := box4 hRb; have hRb := Lib.hid hRb; have hown4 := Lib.hid hown4; have hg4 := Lib.hid hg4; have hat4 := Lib.hid hat4; have hlt4 := Lib.hid hlt4))
    go_ret
    exact ⟨false, rfl, (((hb1n.out.mono (show base ≤ w.heap.size by omega)).alloc (by omega) _).grown hg4.out hbs.out (fun g' e => (hown.out.lt g' e).1)).setCell hbR _, fun _ => rfl, fun r' h => by rw [hmm.out] at h; cases h⟩
end Go.Proofs.YtkbmckmlnphpmaaGreatDoor
