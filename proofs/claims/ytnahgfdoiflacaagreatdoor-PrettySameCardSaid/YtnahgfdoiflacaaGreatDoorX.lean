/- The text of a program with one empty function. -/
import Derived.Test.YtnahgfdoiflacaaGreatDoorW
set_option linter.unusedSimpArgs false
set_option linter.unusedVariables false
namespace Go.Proofs.YtnahgfdoiflacaaGreatDoor
open Go.RowKit Go.Lib Go.Shelf

theorem wp_range_none {g : Operand} {p q : Tmp} {assign body : Code} {Q : Exit → Act → World → Prop} {a : Act} {w : World} {gf : Nat} {lb : Array Value}
    (hg : a.eval g = .func (.func gf) #[] lb) (eg : ∀ args w, (callFunc gf args).run Tryz.prog w = .ok (.enter gf args) w)
    (hiter : ∀ (l : Nat) (W : World), Below w.heap.size w W → Calls Tryz.prog gf (#[.func (.yield l) #[] #[]] ++ lb) W fun e W' => (∃ v, e = .returned v) ∧ Below W.heap.size W W')
    (hdone : ∀ (D : Nat) (W : World), w.heap.size ≤ D → Below w.heap.size w W → W.heap[D]? = some (.deferred (some [])) → Q .normal { a with defers := { target := .collected D, args := #[] } :: a.defers } W) :
    (Code.rangeFunc g #[p, q] assign body).wp Tryz.prog Q a w := by
  refine (wpIn_wide (n := 4)).1 (wpIn_rangeFunc fun fn hfn => ?_)
  have hlp : ∃ R : LoopState → Option Code → Loop, ∀ st pe, R st pe = { state := st, pending := pe, fn := fn, tmps := a.tmps, params := #[p, q], assign := assign, body := body, defers := w.heap.size } := ⟨_, fun _ _ => rfl⟩
  obtain ⟨R, hR⟩ := hlp
  have hD1 : ((w.alloc (.deferred (some []))).alloc (.loop (R .ready none))).heap[w.heap.size]? = some (.deferred (some [])) :=
    (heap_alloc_old _ _ (by simp)).trans (heap_alloc_new w _)
  have hL1 : ((w.alloc (.deferred (some []))).alloc (.loop (R .ready none))).heap[w.heap.size + 1]? = some (.loop (R .ready none)) := by
    have h := heap_alloc_new (w.alloc (.deferred (some []))) (.loop (R .ready none))
    have e : (w.alloc (.deferred (some []))).heap.size = w.heap.size + 1 := by simp
    rwa [e] at h
  have hB1 : Below w.heap.size w ((w.alloc (.deferred (some []))).alloc (.loop (R .ready none))) := ((Below.refl _ w).alloc (Nat.le_refl _) _).alloc (by simp) _
  generalize hW1 : (w.alloc (.deferred (some []))).alloc (.loop (R .ready none)) = W1 at hD1 hL1 hB1
  refine ⟨w.heap.size + 1, [{ target := .collected w.heap.size, args := #[] }], W1, { target := .fn (.func gf) lb, args := #[.func (.yield (w.heap.size + 1)) #[] #[]] }, W1, gf, #[.func (.yield (w.heap.size + 1)) #[] #[]] ++ lb, W1, ?_, ?_, ?_, ?_, fun _ => by omega, ?_⟩
  · rw [← hW1, hR]
    exact run_enterLoop_outer _ _ _ _ _
  · simp only [resolve, hg]
    simp [go_sem]
  · intro f' _
    exact trivial
  · simp [invoke, go_sem, eg]
  · refine (callsIn_wide.2 (hiter (w.heap.size + 1) W1 hB1)).mono ?_
    rintro e W2 ⟨⟨v, rfl⟩, hb⟩
    have hl := (hb.block _ (blk_lt hL1)).trans hL1
    have hd := (hb.block _ (blk_lt hD1)).trans hD1
    have hrun := run_endLoop (P := Tryz.prog) hl (by rw [hR]; simp)
    rw [show (R .ready none).pending = none by rw [hR]] at hrun
    exact ⟨none, _, hrun, hdone _ _ (Nat.le_refl _) (below_put (Below.next hB1 hb) (by omega) _) ((World.putObj_heap_other (by omega)).trans hd)⟩

set_option maxRecDepth 100000 in
set_option maxHeartbeats 2000000 in
theorem list55_nil (W : World) : Calls Tryz.prog 55 #[.slice none 0 0, .func (.func 56) #[] #[]] W (StrPost ⟨#[]⟩ W) := by
  have hj := Lib.hid (fun W' => Tryz.strings_Join_none none 0 ⟨#[44, 32]⟩ W')
  go_enter Tryz.func55, Tryz.ntmps55
  go_wp2
  refine wp_loop_rounds 1 ?_
  rw [rounds_succ]
  go_wp2_with fail
  refine (hj.out _).mono ?_
  rintro e w1 ⟨rfl, rfl⟩
  go_wp2
  go_ret
  exact ⟨rfl, Below.refl _ _⟩
attribute [local go_sem] Oper.semAt_some
def textF : ByteArray := lineT 0 ⟨#[102, 110, 32, 102, 40, 41, 32, 123]⟩ ++ lineT 0 ⟨#[125]⟩
set_option maxRecDepth 100000 in
set_option maxHeartbeats 8000000 in
theorem text_f (fb c : Nat) (W : World) (h : FAt fb W) : Calls Tryz.prog 19 #[.agg #[.slice none 0 0, .slice (some ⟨fb, 0, none⟩) 1 c]] W fun e w' => e = .returned (.tuple #[.string textF, .int .i64 0]) ∧ Below W.heap.size W w' := by
  have hm := Lib.hid (mayP_f fb c (W.alloc (.cells #[.slice none 0 0, .slice (some ⟨fb, 0, none⟩) 1 c] 39)) ((heap_alloc_old _ _ (blk_lt h)).trans h))
  have hfl := blk_lt h
  have h' := Lib.hid h
  have hx := Lib.hid (heap_alloc_new W (.cells #[.slice none 0 0, .slice (some ⟨fb, 0, none⟩) 1 c] 39))
  clear h
  refine (callsIn_wide (n := 8)).1 (callsIn_of_wp_marks Tryz.func19 rfl trivial ?_ rfl)
  simp only [Tryz.ntmps19, List.size_toArray, List.length_cons, List.length_nil, Nat.reduceAdd, Nat.reduceSub, Array.replicate_succ, Array.replicate_zero, List.push_toArray, List.append_toArray, List.nil_append, List.cons_append]
  refine wpIn_wide.2 ?_
  go_wp2_with fail
  refine hm.out.mono ?_
  rintro e w1 ⟨rfl, hb1⟩
  have hx1 := (hb1.block W.heap.size (by simp)).trans hx.out
  have hf1 := (hb1.block fb (by simp; omega)).trans ((heap_alloc_old _ _ hfl).trans h'.out)
  have hb1 := Below.next ((Below.refl _ W).alloc (Nat.le_refl _) _) hb1
  have hWl : W.heap.size < w1.heap.size := blk_lt hx1
  -- the builder, the function that writes
  obtain ⟨w2, hw2⟩ : ∃ w2, ((w1.alloc (.cells #[.pointer none, .slice none 0 0] 87)).alloc (.cells #[.func (.func 50) #[] #[.pointer (some ⟨w1.heap.size, 0, none⟩)]] 93)) = w2 := ⟨_, rfl⟩
  have hb2 : Below w1.heap.size w1 w2 := by rw [← hw2]; exact ((Below.refl _ w1).alloc (Nat.le_refl _) _).alloc (by simp) _
  have hx2 := (hb2.block _ hWl).trans hx1
  have hf2 := (hb2.block _ (blk_lt hf1)).trans hf1
  have hbu : w2.heap[w1.heap.size]? = some (.cells #[.pointer none, .slice none 0 0] 87 (0, 0)) := by
    rw [← hw2, heap_alloc_old _ _ (by simp)]; exact heap_alloc_new w1 _
  have hfn : w2.heap[w1.heap.size + 1]? = some (.cells #[.func (.func 50) #[] #[.pointer (some ⟨w1.heap.size, 0, none⟩)]] 93 (0, 0)) := by
    have h := heap_alloc_new (w1.alloc (.cells #[.pointer none, .slice none 0 0] 87)) (.cells #[.func (.func 50) #[] #[.pointer (some ⟨w1.heap.size, 0, none⟩)]] 93)
    have e : (w1.alloc (.cells #[.pointer none, .slice none 0 0] 87)).heap.size = w1.heap.size + 1 := by simp
    rw [e, hw2] at h
    exact h
  have hB2 := Lib.hid (Below.next hb1 hb2)
  obtain ⟨b, hb⟩ : ∃ b, w1.heap.size = b := ⟨_, rfl⟩
  rw [hb] at hw2 hb2 hbu hfn
  have hbl : W.heap.size ≤ b := by omega
  have hI2 := Lib.hid (show Lib.IsBuilder 87 5 W.heap.size b [] w2 from .inl ⟨hbl, _, hbu, World.ownsRow_nil _ _ _ _, by simp [Value.ownBlock]⟩)
  have p0 : w2.cell? ⟨W.heap.size, 0, none⟩ = some (.slice none 0 0) := by rw [blk_cell hx2]; rfl
  have p1 : w2.cell? ⟨W.heap.size, 1, none⟩ = some (.slice (some ⟨fb, 0, none⟩) 1 c) := by rw [blk_cell hx2]; rfl
  have f0 : w2.cell? ⟨fb, 0, none⟩ = some (.string fT) := by rw [blk_cell hf2]; rfl
  have f1 : w2.cell? ⟨fb, 1, none⟩ = some (.slice none 0 0) := by rw [blk_cell hf2]; rfl
  have f2 : w2.cell? ⟨fb, 2, none⟩ = some (.slice none 0 0) := by rw [blk_cell hf2]; rfl
  have f3 : w2.cell? ⟨fb, 3, none⟩ = some (.slice none 0 0) := by rw [blk_cell hf2]; rfl
  have f4 : w2.cell? ⟨fb, 4, none⟩ = some (.slice none 0 0) := by rw [blk_cell hf2]; rfl
  have hbu := Lib.hid hbu
  have hfn := Lib.hid hfn
  have hx2 := Lib.hid hx2
  have hf2 := Lib.hid hf2
  clear hb1 hx1 hf1 hWl hb2
  go_wp2_with fail
  refine wp_loop_rounds 1 ?_
  rw [rounds_succ]
  go_wp2_with fail
  refine wp_loop_rounds 2 ?_
  rw [rounds_succ]
  go_wp2_with fail
  obtain ⟨w3, hw3⟩ : ∃ w3, w2.alloc (.cells #[.string fT, .slice none 0 0, .slice none 0 0, .slice none 0 0, .slice none 0 0] 54) = w3 := ⟨_, rfl⟩
  have hx3 : w3.heap[w2.heap.size]? = some (.cells #[.string fT, .slice none 0 0, .slice none 0 0, .slice none 0 0, .slice none 0 0] 54 (0, 0)) := by rw [← hw3]; exact heap_alloc_new w2 _
  have hb3 : Below w2.heap.size w2 w3 := by rw [← hw3]; exact (Below.refl _ w2).alloc (Nat.le_refl _) _
  rw [hw3]
  obtain ⟨x, hxe⟩ : ∃ x, w2.heap.size = x := ⟨_, rfl⟩
  have hxx := Lib.hid hxe
  rw [hxe] at hx3 ⊢
  have q0 : w3.cell? ⟨x, 0, none⟩ = some (.string fT) := by rw [blk_cell hx3]; rfl
  have q1 : w3.cell? ⟨x, 1, none⟩ = some (.slice none 0 0) := by rw [blk_cell hx3]; rfl
  have q0 := Sub.cell q0
  have q1 := Sub.cell q1
  have hl := Lib.hid (fun s : Sub w3 => list55_nil s.val)
  have hb3 := Lib.hid hb3
  have hx3 := Lib.hid hx3
  have sz1 : fT.size = 1 := rfl
  clear hw3 hw2 f0 f1 f2 f3 f4 p0 p1 hxe
  refine wp_region_below (by kernel_rfl) (by kernel_rfl) ?_
  repeat (go_big_quiet_step ((go_at_call 55; with_reducible exact Sub.call (hl.out _))))
  refine wpQuiet_nil ?_
  rintro w4 ⟨s4, hs4⟩
  have hb4 : Below w3.heap.size w3 w4 := hs4 ▸ s4.property
  clear hs4 s4
  -- what stays beside the builder
  obtain ⟨K, hK⟩ : ∃ K : World → Prop, K = fun V => V.heap[b + 1]? = some (.cells #[.func (.func 50) #[] #[.pointer (some ⟨b, 0, none⟩)]] 93 (0, 0)) ∧ V.heap[W.heap.size]? = some (.cells #[.slice none 0 0, .slice (some ⟨fb, 0, none⟩) 1 c] 39 (0, 0)) ∧ V.heap[fb]? = some (.cells #[.string fT, .slice none 0 0, .slice none 0 0, .slice none 0 0, .slice none 0 0] 54 (0, 0)) ∧ V.heap[x]? = some (.cells #[.string fT, .slice none 0 0, .slice none 0 0, .slice none 0 0, .slice none 0 0] 54 (0, 0)) := ⟨_, rfl⟩
  have hxb : x ≠ b ∧ W.heap.size ≠ b ∧ fb ≠ b := by
    have h2 := hB2.out.size
    have h3 : b + 1 < w2.heap.size := blk_lt hfn.out
    have := hxx.out
    refine ⟨by omega, ?_, by omega⟩
    intro e
    have h5 := hbu.out
    rw [← e, hx2.out] at h5
    cases h5
  have keep : ∀ V V', K V → Hold b V V' → K V' := fun V V' hv hh => by
    rw [hK] at hv ⊢
    obtain ⟨k1, k2, k3, k4⟩ := hv
    exact ⟨hh.2 _ _ (by omega) k1 (fun _ _ e => by cases e), hh.2 _ _ hxb.2.1 k2 (fun _ _ e => by cases e), hh.2 _ _ hxb.2.2 k3 (fun _ _ e => by cases e), hh.2 _ _ hxb.1 k4 (fun _ _ e => by cases e)⟩
  have k4 : K w4 := by
    refine keep w3 w4 ?_ (Hold.of_below hb4)
    rw [hK]
    exact ⟨(hb3.out.block _ (blk_lt hfn.out)).trans hfn.out, (hb3.out.block _ (blk_lt hx2.out)).trans hx2.out, (hb3.out.block _ (blk_lt hf2.out)).trans hf2.out, hx3.out⟩
  have I4 := IsBuilder.go (IsBuilder.go hI2.out hb3.out) hb4
  have B4 : Below W.heap.size W w4 := Below.next (Below.next hB2.out hb3.out) hb4
  have cells : ∀ V, K V → (V.cell? ⟨b + 1, 0, none⟩ = some (.func (.func 50) #[] #[.pointer (some ⟨b, 0, none⟩)])) ∧ V.cell? ⟨x, 2, none⟩ = some (.slice none 0 0) ∧ V.cell? ⟨x, 3, none⟩ = some (.slice none 0 0) ∧ V.cell? ⟨x, 4, none⟩ = some (.slice none 0 0) ∧ V.cell? ⟨W.heap.size, 1, none⟩ = some (.slice (some ⟨fb, 0, none⟩) 1 c) := fun V hv => by
    rw [hK] at hv
    obtain ⟨k1, k2, k3, k4⟩ := hv
    exact ⟨by rw [blk_cell k1]; rfl, by rw [blk_cell k4]; rfl, by rw [blk_cell k4]; rfl, by rw [blk_cell k4]; rfl, by rw [blk_cell k2]; rfl⟩
  clear hK
  have keep := Lib.hid keep
  have cells := Lib.hid cells
  have k4 := Lib.hid k4
  have I4 := Lib.hid I4
  have B4 := Lib.hid B4
  clear hb4 hbu hfn hx2 hf2 hx3 hb3 hxb q0 q1 hl hI2 hB2
  obtain ⟨c0, c2, c3, c4, c5⟩ := cells.out w4 k4.out
  go_wp2_with fail
  have hln := line_any W.heap.size b [] 0 (⟨#[102, 110, 32]⟩ ++ fT ++ ⟨#[40]⟩ ++ ⟨#[]⟩ ++ ⟨#[41]⟩ ++ ⟨#[32, 123]⟩) w4 I4.out (by decide) (by decide +kernel) B4.out.size
  refine hln.mono ?_
  rintro e w5 ⟨rfl, hI5, hb5, hh5⟩
  have k5 := Lib.hid (keep.out _ _ k4.out hh5)
  have B5 := Lib.hid (B4.out.trans hb5)
  have I5 := Lib.hid hI5
  clear hln hI5 hb5 hh5 c0 c2 c3 c4 c5 k4 I4 B4
  obtain ⟨c0, c2, c3, c4, c5⟩ := cells.out w5 k5.out
  have h30 := Lib.hid (lines30_any none 0 0 w5)
  go_wp2_with fail
  refine wp_loop_rounds 1 ?_
  rw [rounds_succ]
  go_wp2_with fail
  refine h30.out.mono ?_
  rintro e w6 ⟨rfl, hw6⟩
  have hbx : w6.heap[w5.heap.size]? = some (.cells #[.slice none 0 0] 48 (0, 0)) := by rw [hw6]; exact heap_alloc_new w5 _
  have hb6 : Below w5.heap.size w5 w6 := by rw [hw6]; exact (Below.refl _ w5).alloc (Nat.le_refl _) _
  have hbx := Lib.hid hbx
  have hb6 := Lib.hid hb6
  clear hw6 h30 c0 c2 c3 c4 c5
  go_wp2_with fail
  refine wp_range_none rfl (enters_of Tryz.func81 (by kernel_rfl) rfl) (fun l V hV => ?iter) (fun D w7 hD hb7 hd => ?done)
  case iter =>
    refine (iter81_nil l w5.heap.size V ((hV.block _ (blk_lt hbx.out)).trans hbx.out)).mono ?_
    rintro e w' ⟨rfl, hb⟩
    exact ⟨⟨_, rfl⟩, hb⟩
  case done =>
    have k7 := Lib.hid (keep.out _ _ (keep.out _ _ k5.out (Hold.of_below hb6.out)) (Hold.of_below hb7))
    have B7 := Lib.hid (Below.next (Below.next B5.out hb6.out) hb7)
    have I7 := Lib.hid (IsBuilder.go (IsBuilder.go (.inr I5.out) hb6.out) hb7)
    have hd := Lib.hid hd
    have hD := Lib.hid (Nat.le_trans (Nat.le_trans B5.out.size hb6.out.size) hD)
    have hDb := Lib.hid (show D ≠ b from by
      rintro rfl
      have h1 := hd.out
      obtain ⟨cs, hcs⟩ := IsBuilder.cells I7.out
      rw [hcs] at h1
      cases h1)
    clear hb7
    obtain ⟨c0, c2, c3, c4, c5⟩ := cells.out w7 k7.out
    go_wp2_with fail
    have hln := line_any W.heap.size b _ 0 ⟨#[125]⟩ w7 I7.out (by decide) (by decide +kernel) B7.out.size
    refine hln.mono ?_
    rintro e w8 ⟨rfl, hI8, hb8, hh8⟩
    have k8 := Lib.hid (keep.out _ _ k7.out hh8)
    have B8 := Lib.hid (B7.out.trans hb8)
    have I8 := Lib.hid hI8
    have hd8 := Lib.hid (hh8.2 D _ hDb.out hd.out (fun _ _ e => by cases e))
    clear hln hI8 hb8 hh8 c0 c2 c3 c4 c5 k7 I7 B7
    go_wp2_with fail
    rw [rounds_succ]
    go_wp2_with fail
    have hbs : [] ++ Lib.strCells (lineT 0 (⟨#[102, 110, 32]⟩ ++ fT ++ ⟨#[40]⟩ ++ ⟨#[]⟩ ++ ⟨#[41]⟩ ++ ⟨#[32, 123]⟩)) ++ Lib.strCells (lineT 0 ⟨#[125]⟩) = Lib.byteCells textF.data.toList := by
      rw [List.nil_append, strCells_eq, strCells_eq, ← Lib.byteCells_append]
      rfl
    have I9 := I8.out
    rw [hbs] at I9
    have hs := Lib.hid (string_any W.heap.size b textF.data.toList w8 (.inr I9) B8.out.size)
    have hsh := Lib.hid (short_any textF)
    have st1 : shortT textF = textF := by unfold shortT; rw [if_pos (by decide +kernel)]
    have st2 : shortN textF = 0 := by unfold shortN; rw [if_pos (by decide +kernel)]
    rw [st1, st2] at hsh
    have hDb := hDb.out
    clear I9 hbs st1 st2
    refine hs.out.mono ?_
    rintro e w9 ⟨rfl, hb9, hh9⟩
    have B9 := Lib.hid (B8.out.trans hb9)
    have hd9 := Lib.hid (hh9.2 D _ hDb hd8.out (fun _ _ e => by cases e))
    clear hb9 hh9
    go_wp2_with fail
    refine (hsh.out w9).mono ?_
    rintro e w10 ⟨rfl, hb10⟩
    have B10 := Lib.hid (Below.next B9.out hb10)
    have hd10 := Lib.hid ((hb10.block D (blk_lt hd9.out)).trans hd9.out)
    clear hb10
    go_wp2_with fail
    exact leaves_marks [D] _ (fun D' hD' => by simp at hD'; subst hD'; exact hd10.out) (by simp) ⟨_, by simp [results, Tryz.f19, go_sem], rfl, shut_below [D] _ (fun D' hD' => by simp at hD'; subst hD'; exact hD.out) B10.out⟩
end Go.Proofs.YtnahgfdoiflacaaGreatDoor
