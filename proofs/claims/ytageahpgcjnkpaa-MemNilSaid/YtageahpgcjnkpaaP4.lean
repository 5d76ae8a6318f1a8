/- Going over the words that are not 0, beside the document's list: once. -/
import Derived.Test.YtageahpgcjnkpaaP3
import Derived.Test.YtageahpgcjnkpaaWAgain
set_option linter.unusedSimpArgs false
set_option linter.unusedVariables false
namespace Go.Proofs.Ytageahpgcjnkpaa
open Go.RowKit Go.Shelf

attribute [local go_sem] Oper.semAt_some

theorem fullN_more (f : Nat → Int) (k d : Nat) : ∃ l, fullN f (k + d) = fullN f k ++ l := by
  induction d with
  | zero => exact ⟨[], by simp⟩
  | succ d ih =>
    obtain ⟨l, hl⟩ := ih
    rw [← Nat.add_assoc, fullN_succ]
    by_cases h : get8 f (8 * (k + d)) = 0
    · rw [if_pos h]; exact ⟨l, hl⟩
    · rw [if_neg h, hl]; exact ⟨l ++ [k + d], by simp⟩
/-- the next word of the walk is the next of the list -/
theorem fullA_next {f : Nat → Int} {k x : Nat} {ini : List Nat} (hk : k ≤ 8192) (h : fullN f k = ini ++ [x]) : (fullA f 8192)[ini.length]? = some (8 * (x : Int)) := by
  obtain ⟨l, hl⟩ := fullN_more f k (8192 - k)
  rw [show k + (8192 - k) = 8192 by omega, h] at hl
  unfold fullA
  rw [hl]
  simp
theorem WOwn.row {W W' : World} {row : Option Nat} (hg : W.grownBy W' row) (hr : ∀ r, row = some r → ∃ x : Obj, W.heap[r]? = some x ∧ x.isCells = false) {B : Nat} {A : Option Addr} {ws : List Int} (h : WOwn W B A ws) : WOwn W' B A ws :=
  h.keep fun blk cur _ hc => keep_blk hg hr hc

/-- a box has turned -/
theorem regs_box {W W' : World} {b B n : Nat} {t : TypeId} {v : Value} {A : Option Addr} {L : List Reg} (h : RegsAt W B A n L) (hB : B ≤ W.heap.size) (hx : Boxed W b t v) (hv : ∀ s, v ≠ .string s) (hg : W.grownBy W' (some b)) : RegsAt W' B A n L := by
  obtain ⟨hl, hw, hc⟩ := h
  refine ⟨hl, hw, fun hn => ?_⟩
  obtain ⟨blk, off, e, hb, hi⟩ := hc hn
  refine ⟨blk, off, e, hb, fun i r hr => (hi i r hr).keep fun a ha => ?_⟩
  have hne : blk ≠ b := by
    rintro rfl
    obtain ⟨c1, _⟩ := hi i r hr
    rw [blk_cell (show W.heap[blk]? = some (.cells #[v] t (0, 0)) from hx)] at c1
    cases hk : off + i * 4 with
    | zero => rw [hk] at c1; simp at c1; exact hv _ c1
    | succ k => rw [hk] at c1; simp at c1
  exact World.cell?_of_block (hg.block a.block (by rw [ha]; omega) (by rw [ha]; simpa using hne))
theorem RMem_.box {W W' : World} {b p q n cap : Nat} {t : TypeId} {v : Value} {A : Option Addr} {L : List Reg} {f : Nat → Int} (h : RMem_ W p q A n cap L f) (hx : Boxed W b t v) (h1 : t ≠ 53) (h2 : t ≠ 5) (hv : ∀ s, v ≠ .string s) (hg : W.grownBy W' (some b)) : RMem_ W' p q A n cap L f :=
  ⟨(hg.block p (blk_lt h.hp) (by simpa using blk_ne h.hp hx (Ne.symm h1))).trans h.hp, (hg.block q (blk_lt h.hq) (by simpa using blk_ne h.hq hx (Ne.symm h2))).trans h.hq, (regs_box h.hr (Nat.le_refl _) hx hv hg).more hg.size, h.hn, h.hf⟩

/-- what the loop of once keeps -/
structure OnI (w : World) (N bL p' q' : Nat) (A' A : Option Addr) (n cap' capL : Nat) (L : List Reg) (f : Nat → Int) (most : Int) (pre : List Nat) (W : World) : Prop where
  r : RMem_ W p' q' A' n cap' L f
  x0 : Boxed W w.heap.size 33 (.pointer (some ⟨p', 0, none⟩))
  x1 : Boxed W (w.heap.size + 1) 3 (.int .i64 most)
  x2 : Boxed W (w.heap.size + 1 + 1) 4 (.bool false)
  x3 : Boxed W (w.heap.size + 1 + 1 + 1) 3 (.int .i64 (pre.length : Nat))
  xL : Boxed W bL 80 (.slice A (fullA f 8192).length capL)
  o : WOwn W w.heap.size A (fullA f 8192)
  b : Below w.heap.size w W
  z : N ≤ W.heap.size
theorem onI_own {w : World} {N bL p' q' : Nat} {A' A : Option Addr} {n cap' capL : Nat} {L : List Reg} {f : Nat → Int} {most : Int} (B : Nat) (hB : w.heap.size ≤ B) : OwnFrom B (OnI w N bL p' q' A' A n cap' capL L f most) := by
  intro s X Y row h hg hr
  have hr' : ∀ r, row = some r → ∃ x : Obj, X.heap[r]? = some x ∧ x.isCells = false := fun r e => (hr r e).2
  exact ⟨h.r.row hg hr', keep_blk hg hr' h.x0, keep_blk hg hr' h.x1, keep_blk hg hr' h.x2, keep_blk hg hr' h.x3, keep_blk hg hr' h.xL, h.o.row hg hr', h.b.grown hg h.b.size (fun k e => Nat.le_trans hB (hr k e).1), Nat.le_trans h.z hg.size⟩
/-- how the loop stops early: as many as were asked for, or a word that is not the list's -/
def OnX (w : World) (L : List Reg) (f : Nat → Int) (c : Code) (pre : List Nat) (W : World) : Prop :=
  c = .ret ∧ Below w.heap.size w W ∧ (Boxed W (w.heap.size + 1 + 1) 4 (.bool true) ∨ ∃ (ini : List Nat) (x : Nat), pre = ini ++ [x] ∧ ((fullA f 8192)[ini.length]? ≠ some (8 * (x : Int)) ∨ loadI L f (8 * (x : Int)) ≠ get8 f (8 * x)))
theorem onX_own {w : World} {L : List Reg} {f : Nat → Int} {c : Code} (B : Nat) (hB : w.heap.size ≤ B) : OwnFrom B (OnX w L f c) := by
  intro s X Y row h hg hr
  have hr' : ∀ r, row = some r → ∃ x : Obj, X.heap[r]? = some x ∧ x.isCells = false := fun r e => (hr r e).2
  obtain ⟨h1, h2, h3⟩ := h
  refine ⟨h1, h2.grown hg h2.size (fun k e => Nat.le_trans hB (hr k e).1), ?_⟩
  rcases h3 with h3 | h3
  · exact .inl (keep_blk hg hr' h3)
  · exact .inr h3
theorem onX_yes {w W : World} {L : List Reg} {f : Nat → Int} (hm : ∀ r ∈ L, mayB r = true) (hi : Inside L f) {c : Code} {k : Nat} (hk : k ≤ 8192) (h : OnX w L f c (fullN f k) W) : c = .ret ∧ Below w.heap.size w W ∧ Boxed W (w.heap.size + 1 + 1) 4 (.bool true) := by
  obtain ⟨h1, h2, h3 | ⟨ini, x, e, h4⟩⟩ := h
  · exact ⟨h1, h2, h3⟩
  · exfalso
    rcases h4 with h4 | h4
    · exact h4 (fullA_next hk e)
    · obtain ⟨h5, h6⟩ := fullN_mem (f := f) (k := k) (x := x) (by rw [e]; simp)
      refine h4 ?_
      unfold loadI
      rw [if_pos (word_in hm hi (by omega) h6), show (8 * (x : Int)).toNat = 8 * x by omega]

set_option maxRecDepth 100000 in
set_option maxHeartbeats 4000000 in
theorem once_in {p q p' q' : Nat} {A A' : Option Addr} {n cap cap' : Nat} {L : List Reg} {f : Nat → Int} (most : Int) (w : World) (h : Mem_ w p q A n cap L f) (h' : RMem_ w p' q' A' n cap' L f) (hc : n ≤ cap) (hm : ∀ r ∈ L, mayB r = true) (hin : Inside L f) :
    CallsIn Fence.wide 5 Try.prog 30 #[.pointer (some ⟨p, 0, none⟩), .pointer (some ⟨p', 0, none⟩), .int .i64 most] w (Yes w) := by
  have H := Lib.hid h
  have H' := Lib.hid h'
  have hm2 := Lib.hid hm
  have hin2 := Lib.hid hin
  have hq1 := run_eql_fn
  clear h h' hm hin
  refine callsIn_of_wp_marks Try.func30 rfl trivial ?_ rfl
  simp only [Try.ntmps30, List.size_toArray, List.length_cons, List.length_nil, Nat.reduceAdd, Nat.reduceSub, Array.replicate_succ, Array.replicate_zero, List.push_toArray, List.append_toArray, List.nil_append, List.cons_append]
  have hw1 : Below w.heap.size w ((((w.alloc (.cells #[.pointer (some ⟨p', 0, none⟩)] 33)).alloc (.cells #[.int .i64 most] 3)).alloc (.cells #[.bool false] 4)).alloc (.cells #[.int .i64 0] 3)) := ((((Below.refl _ w).alloc (Nat.le_refl _) _).alloc (by simp) _).alloc (by simp; omega) _).alloc (by simp; omega) _
  have k0 := (((Boxed.new w 33 (.pointer (some ⟨p', 0, none⟩))).alloc (.cells #[.int .i64 most] 3)).alloc (.cells #[.bool false] 4)).alloc (.cells #[.int .i64 0] 3)
  have k1 := ((Boxed.new (w.alloc (.cells #[.pointer (some ⟨p', 0, none⟩)] 33)) 3 (.int .i64 most)).alloc (.cells #[.bool false] 4)).alloc (.cells #[.int .i64 0] 3)
  have k2 := (Boxed.new ((w.alloc (.cells #[.pointer (some ⟨p', 0, none⟩)] 33)).alloc (.cells #[.int .i64 most] 3)) 4 (.bool false)).alloc (.cells #[.int .i64 0] 3)
  have k3 := Boxed.new (((w.alloc (.cells #[.pointer (some ⟨p', 0, none⟩)] 33)).alloc (.cells #[.int .i64 most] 3)).alloc (.cells #[.bool false] 4)) 3 (.int .i64 0)
  simp only [World.size_alloc] at k1 k2 k3
  gi_wp2_with fail
  obtain ⟨W1, hW1⟩ : ∃ W1, ((((w.alloc (.cells #[.pointer (some ⟨p', 0, none⟩)] 33)).alloc (.cells #[.int .i64 most] 3)).alloc (.cells #[.bool false] 4)).alloc (.cells #[.int .i64 0] 3)) = W1 := ⟨_, rfl⟩
  rw [hW1] at hw1 k0 k1 k2 k3 ⊢
  clear hW1
  refine ⟨trivial, ?_⟩
  refine (callsIn_wide.2 (all_any W1 (H.out.below hw1) hc)).mono ?_
  rintro e w2 ⟨Bs, pA, qA, rfl, hO, z1, x4⟩
  have hw2' := Lib.hid (hw1.trans (x4.mono hw1.size))
  have k0' := Lib.hid (show Boxed w2 w.heap.size 33 (.pointer (some ⟨p', 0, none⟩)) from (x4.block _ k0.lt).trans k0)
  have k1' := Lib.hid (show Boxed w2 (w.heap.size + 1) 3 (.int .i64 most) from (x4.block _ k1.lt).trans k1)
  have k2' := Lib.hid (show Boxed w2 (w.heap.size + 1 + 1) 4 (.bool false) from (x4.block _ k2.lt).trans k2)
  have k3' := Lib.hid (show Boxed w2 (w.heap.size + 1 + 1 + 1) 3 (.int .i64 0) from (x4.block _ k3.lt).trans k3)
  have hO' := Lib.hid hO
  have y0 := k0'.out.cell
  have hk3lt := k3.lt
  clear hO x4 k0 k1 k2 k3 hw1
  gi_wp2_with fail
  refine ⟨trivial, ?_⟩
  refine (callsIn_wide.2 (full_any w2 (H'.out.below hw2'.out))).mono ?_
  rintro e w3 ⟨AL, capL, rfl, hOL, b3⟩
  obtain ⟨W0, hW0⟩ : ∃ W0, w3.alloc (.cells #[.slice AL (fullA f 8192).length capL] 80) = W0 := ⟨_, rfl⟩
  have bA : Below w3.heap.size w3 W0 := by rw [← hW0]; exact (Below.refl _ _).alloc (Nat.le_refl _) _
  have b4 := Below.next b3 bA
  have hB0 := Lib.hid (hw2'.out.trans (b4.mono hw2'.out.size))
  have g0 := Lib.hid (show Boxed W0 w.heap.size 33 (.pointer (some ⟨p', 0, none⟩)) from (b4.block _ k0'.out.lt).trans k0'.out)
  have g1 := Lib.hid (show Boxed W0 (w.heap.size + 1) 3 (.int .i64 most) from (b4.block _ k1'.out.lt).trans k1'.out)
  have g2 := Lib.hid (show Boxed W0 (w.heap.size + 1 + 1) 4 (.bool false) from (b4.block _ k2'.out.lt).trans k2'.out)
  have g3 := Lib.hid (show Boxed W0 (w.heap.size + 1 + 1 + 1) 3 (.int .i64 0) from (b4.block _ k3'.out.lt).trans k3'.out)
  have gL := Lib.hid (show Boxed W0 w3.heap.size 80 (.slice AL (fullA f 8192).length capL) by rw [← hW0]; exact Boxed.new _ _ _)
  have gO := Lib.hid (show Over W0 Bs pA qA f from hO'.out.keep (Kp3.below b4 hO'.out.blk.1 hO'.out.blk.2.1 hO'.out.blk.2.2))
  have gW := Lib.hid (show WOwn W0 w.heap.size AL (fullA f 8192) from (hOL.less hw2'.out.size).keep fun blk cur _ hc => (bA.block blk (blk_lt hc)).trans hc)
  have hk3 : w.heap.size + 1 + 1 + 1 < Bs := by omega
  have hk3p : w.heap.size + 1 + 1 + 1 < pA := by omega
  have hk3q : w.heap.size + 1 + 1 + 1 < qA := by omega
  have hk3l : w.heap.size + 1 + 1 + 1 < w3.heap.size := by have := k3'.out.lt; have := b3.size; omega
  have hWsz := bA.size
  have hWszL := gL.out.lt
  clear y0 hOL b3 bA b4 z1 hk3lt
  gi_wp2_with fail
  try rw [hW0]
  obtain ⟨bL, hbL⟩ : ∃ bL, w3.heap.size = bL := ⟨_, rfl⟩
  rw [hbL] at gL hk3l hWszL hWsz ⊢
  clear hW0 hbL hO' k0' k1' k2' k3' hw2'
  have hB := gO.out.blk
  refine wpIn_rangeFunc_ownH (F := Fence.wide) (n := 5) rfl (by omega) (gf := 58) (lb := #[.pointer (some ⟨Bs, 0, none⟩)]) rfl trivial (enters_of Try.func58 (by kernel_rfl) rfl)
    (all58_stops (5 - 1) (by omega) Bs pA qA f W0 gO.out) Kp3.trans (fun W l o o' hl ho hc hw => kp3_put hB.1 hB.2.1 hB.2.2 hl ho) (Below.refl _ _) (fun _ => rfl)
    (fun pre W => OnI w W0.heap.size bL p' q' A' AL n cap' capL L f most (vals pre) W) (fun c pre W => OnX w L f c (vals pre) W)
    (fun s X Y row h hg hr => onI_own _ hB0.out.size (vals s) X Y row h hg hr) (fun c s X Y row h hg hr => onX_own _ hB0.out.size (vals s) X Y row h hg hr)
    ⟨H'.out.below hB0.out, g0.out, g1.out, g2.out, g3.out, gL.out, gW.out, hB0.out, Nat.le_refl _⟩
    (fun x a' W => a' = { tmps := #[.pointer (some ⟨p, 0, none⟩), .pointer (some ⟨p', 0, none⟩), .int .i64 most, undef, .pointer (some ⟨w.heap.size, 0, none⟩), .pointer (some ⟨w.heap.size + 1, 0, none⟩), .pointer (some ⟨w.heap.size + 1 + 1, 0, none⟩), .pointer (some ⟨w.heap.size + 1 + 1 + 1, 0, none⟩), .func (.func 58) #[] #[.pointer (some ⟨Bs, 0, none⟩)], .pointer (some ⟨bL, 0, none⟩), .int .u64 (8 * ((x.val : Nat) : Int)), .int .u64 (get8 f (8 * x.val)), undef, undef, .pointer (some ⟨p, 0, none⟩), .func (.func 58) #[] #[.pointer (some ⟨Bs, 0, none⟩)], .func (.func 58) #[] #[.pointer (some ⟨Bs, 0, none⟩)], .bool false, .pointer (some ⟨p', 0, none⟩), .slice AL (fullA f 8192).length capL, .func (.func 58) #[] #[.pointer (some ⟨Bs, 0, none⟩)], .int .u64 (8 * ((x.val : Nat) : Int)), .int .u64 (get8 f (8 * x.val)), undef, undef, undef, undef, undef, undef, undef, undef, undef, undef, undef, undef, undef, undef, undef, undef, undef, undef, undef, undef, undef, undef, undef, undef, undef, undef, undef, undef, undef, undef], defers := [] })
    (fun x a' s X Y row hs _ _ => hs)
    ?assign ?body ?done ?stop
  case assign =>
    rintro l pre x W K hI hK
    have hI' := Lib.hid hI
    have hK' := Lib.hid hK
    clear hI hK
    gi_wp2
    exact hK'.out _ _ (KeepsFrom.refl _ _) (Kp3.refl _) hI'.out rfl
  case body =>
    rintro l pre ⟨x, hx⟩ a' W hl ⟨lr, hlr⟩ hI rfl hlt
    dsimp only
    have hI' := Lib.hid hI
    have hst := Lib.hid (refLoad_any (8 * (x : Int)) W hI.r hm2.out (by omega) (by omega))
    have y0 := hI.x0.cell
    have y1 := hI.x1.cell
    have y2 := hI.x2.cell
    have y3 := hI.x3.cell
    have y4 := hI.xL.cell
    have z2 := hI.x2.frozen
    have z3 := hI.x3.frozen
    have hvl : (vals pre).length = pre.length := by simp [vals]
    have hm3 := Lib.hid (show vals (pre ++ [(⟨x, hx⟩ : Fin 8192)]) = vals pre ++ [x] by simp [vals])
    have hbad := Lib.hid (show ∀ W', Below w.heap.size w W' → ((fullA f 8192)[(vals pre).length]? ≠ some (8 * (x : Int)) ∨ loadI L f (8 * (x : Int)) ≠ get8 f (8 * x)) → OnX w L f .ret (vals (pre ++ [(⟨x, hx⟩ : Fin 8192)])) W' from fun W' hb h => ⟨rfl, hb, .inr ⟨vals pre, x, hm3.out, h⟩⟩)
    have hFl := fullA_len f 8192
    have hOw := Lib.hid hI.o
    have hnx := Lib.hid (show OnI w W0.heap.size bL p' q' A' AL n cap' capL L f most (vals pre) W from hI)
    have hlen2 := Lib.hid (show (vals (pre ++ [(⟨x, hx⟩ : Fin 8192)])).length = (vals pre).length + 1 by rw [hm3.out]; simp)
    clear hI
    obtain ⟨mm, hmm⟩ : ∃ mm, (fullA f 8192).length = mm := ⟨_, rfl⟩
    obtain ⟨nn, hnn⟩ : ∃ nn, (vals pre).length = nn := ⟨_, rfl⟩
    have hn70 : (nn : Int) ≤ 70000 := by omega
    rw [hmm] at y4 ⊢
    rw [hnn] at y3 hbad
    have hFl' := Lib.hid hFl
    have hmm' := Lib.hid hmm
    have hnn' := Lib.hid hnn
    have hlt' := Lib.hid hlt
    clear hFl hmm hnn hlt hvl
    obtain ⟨v, hv⟩ : ∃ v, get8 f (8 * x) = v := ⟨_, rfl⟩
    obtain ⟨u, hu⟩ : ∃ u, loadI L f (8 * (x : Int)) = u := ⟨_, rfl⟩
    obtain ⟨er, her⟩ : ∃ er, askI L (8 * (x : Int)) 8 = er := ⟨_, rfl⟩
    rw [hv, hu] at hbad
    rw [hu, her] at hst
    rw [hv]
    obtain ⟨a, ha⟩ : ∃ a, 8 * (x : Int) = a := ⟨_, rfl⟩
    rw [ha] at hbad hst ⊢
    clear hv hu her ha
    have hlo : w.heap.size ≤ w.heap.size + 1 + 1 := by omega
    have hset : ∀ W', Below w.heap.size w W' → Below w.heap.size w (W'.setCell ⟨w.heap.size + 1 + 1, 0, none⟩ (.bool false)) := fun W' hb => hb.setCell (p := ⟨w.heap.size + 1 + 1, 0, none⟩) hlo _
    have hset' := Lib.hid hset
    clear hset
    by_cases hge : mm ≤ nn
    · have hd : decide (mm ≤ nn) = true := by simpa using hge
      have hno := Lib.hid (hbad.out _ (hset'.out _ hI'.out.b) (.inl (by rw [List.getElem?_eq_none (by rw [hmm'.out]; exact hge)]; simp)))
      clear hge
      gi_wp2
      exact ⟨(KeepsOthers.setCell _ _ _).from _, hno.out⟩
    · have hd : decide ((mm : Int) ≤ (nn : Int)) = false := by simp; omega
      obtain ⟨blk, cur, eA, _, hb, hc⟩ := hOw.out.2 (by rw [hmm'.out]; omega)
      have hy0 : (fullA f 8192)[nn]? = some ((fullA f 8192)[nn]'(by rw [hmm'.out]; omega)) := List.getElem?_eq_getElem _
      have hcy := hc nn _ hy0
      obtain ⟨y, hy⟩ : ∃ y, (fullA f 8192)[nn]'(by rw [hmm'.out]; omega) = y := ⟨_, rfl⟩
      rw [hy] at hy0 hcy
      have yc : W.cell? ⟨blk, nn, none⟩ = some (.int .u64 y) := by rw [blk_cell hb]; exact hcy
      have hlt2 : (nn : Int) < (mm : Int) := by omega
      have hy0' := Lib.hid hy0
      clear hy hcy hb hc hge hy0
      subst eA
      by_cases hay : a = y
      · have hd2 : (a != y) = false := by simp [hay]
        have hd3 : (y != y) = false := by simp
        subst hay
        gi_wp2_with fail
        refine ⟨trivial, ?_⟩
        refine (callsIn_wide.2 hst.out).mono ?_
        rintro e w6 ⟨rfl, hb6⟩
        have hb6' := Lib.hid hb6
        have hI6 := Lib.hid (show OnI w W0.heap.size bL p' q' A' (some ⟨blk, 0, none⟩) n cap' capL L f most (vals pre) w6 from
          ⟨hI'.out.r.below hb6, (hb6.block _ hI'.out.x0.lt).trans hI'.out.x0, (hb6.block _ hI'.out.x1.lt).trans hI'.out.x1, (hb6.block _ hI'.out.x2.lt).trans hI'.out.x2, (hb6.block _ hI'.out.x3.lt).trans hI'.out.x3, (hb6.block _ hI'.out.xL.lt).trans hI'.out.xL, hI'.out.o.keep (fun blk cur _ hc => (hb6.block blk (blk_lt hc)).trans hc), Below.next hI'.out.b hb6, Nat.le_trans hI'.out.z hb6.size⟩)
        have hkp6 := Lib.hid (show Kp3 Bs pA qA W w6 from ⟨hb6.block _ (Nat.lt_of_lt_of_le hB.1 hI'.out.z), hb6.block _ (Nat.lt_of_lt_of_le hB.2.1 hI'.out.z), hb6.block _ (Nat.lt_of_lt_of_le hB.2.2 hI'.out.z)⟩)
        have hko6 := Lib.hid (show KeepsFrom W0.heap.size W w6 from KeepsFrom.of_grownBy (grown_of_below hb6 none) (fun j e => by cases e))
        have y1 := hI6.out.x1.cell
        have y2 := hI6.out.x2.cell
        have y3 := hI6.out.x3.cell
        have z2 := hI6.out.x2.frozen
        have z3 := hI6.out.x3.frozen
        rw [hnn'.out] at y3
        clear hb6 yc y0 y4
        by_cases huv : u = v
        · subst huv
          have hd4 : (u != u) = false := by simp
          by_cases hmo : (nn : Int) + 1 = most
          · have hd5 : ((nn : Int) + 1 == most) = true := by simpa using hmo
            clear hmo
            gi_wp2
            exact ⟨hko6.out.trans (((KeepsOthers.setCell _ _ _).trans (KeepsOthers.setCell _ _ _)).from _), rfl, (hI6.out.b.setCell (p := ⟨w.heap.size + 1 + 1 + 1, 0, none⟩) (by simp; omega) _).setCell (p := ⟨w.heap.size + 1 + 1, 0, none⟩) (by simp; omega) _, .inl ((hI6.out.x2.other (by omega) _).set _)⟩
          · have hd5 : ((nn : Int) + 1 == most) = false := by simpa using hmo
            clear hmo
            gi_wp2
            have hg : w6.grownBy (w6.setCell ⟨w.heap.size + 1 + 1 + 1, 0, none⟩ (.int .i64 (nn + 1))) (some (w.heap.size + 1 + 1 + 1)) := grown_set (World.grownBy.refl w6 _) (.inl rfl) _
            have hI := hI6.out
            refine ⟨hko6.out.trans ((KeepsOthers.setCell _ _ _).from _), hkp6.out.trans ⟨hg.block _ ?_ ?_, hg.block _ ?_ ?_, hg.block _ ?_ ?_⟩, ?_⟩
            · exact Nat.lt_of_lt_of_le hB.1 hI.z
            · simp; omega
            · exact Nat.lt_of_lt_of_le hB.2.1 hI.z
            · simp; omega
            · exact Nat.lt_of_lt_of_le hB.2.2 hI.z
            · simp; omega
            exact ⟨hI.r.box hI.x3 (by decide) (by decide) (fun s e => by cases e) hg, hI.x0.other (by omega) _, hI.x1.other (by omega) _, hI.x2.other (by omega) _, by
                have := hI.x3.set (.int .i64 ((nn : Int) + 1))
                rw [hlen2.out, hnn'.out]
                exact this, hI.xL.other (by omega) _, hI.o.keep (fun blk cur _ hc => (hg.block blk (blk_lt hc) (by simpa using blk_ne hc hI.x3 (by decide))).trans hc), hI.b.setCell (p := ⟨w.heap.size + 1 + 1 + 1, 0, none⟩) (by simp; omega) _, Nat.le_trans hI.z hg.size⟩
        · have hd4 : (u != v) = true := by simpa using huv
          have hno := Lib.hid (hbad.out _ (hset'.out _ hI6.out.b) (.inr huv))
          clear huv
          gi_wp2
          exact ⟨hko6.out.trans ((KeepsOthers.setCell _ _ _).from _), hno.out⟩
      · have hd2 : (a != y) = true := by simpa using hay
        have hno := Lib.hid (hbad.out _ (hset'.out _ hI'.out.b) (.inl (by rw [hy0'.out]; simp; exact fun e => hay e.symm)))
        clear hay
        gi_wp2
        exact ⟨(KeepsOthers.setCell _ _ _).from _, hno.out⟩
  case done =>
    rintro D ys W hD hys hI hK
    have hI' := Lib.hid hI
    have hK' := Lib.hid hK
    have y2 := hI.x2.cell
    have y3 := hI.x3.cell
    have y4 := hI.xL.cell
    have z2 := hI.x2.frozen
    rw [show (vals ys).length = (fullA f 8192).length by rw [show vals ys = fullN f 8192 from hys]; simp [fullA]] at y3
    have hFl := fullA_len f 8192
    generalize (fullA f 8192).length = mm at y3 y4 hFl
    have hd : ((mm : Int) == (mm : Int)) = true := by simp
    clear hI hK hFl
    gi_wp2
    have hlt0 := hB0.out.size
    have hDl : D < W.heap.size := (Array.getElem?_eq_some_iff.1 hK'.out).1
    have hKd := (KeepsOthers.setCell W ⟨w.heap.size + 1 + 1, 0, none⟩ (.bool true)).same D _ hK'.out rfl
    refine ⟨by simp, .inl ⟨_, _, rfl, run_takeDeferred hKd, ?_⟩⟩
    have hlr := g3.out.lt
    have hc := ((hI'.out.x2.set (.bool true)).kept (grownBy_putObj' _ D (.deferred none)) (fun e => by cases e; omega)).cell
    refine ⟨.bool true, by simp [results, Try.f30, go_sem, hc], rfl, ?_⟩
    exact ((hI'.out.b.setCell (p := ⟨w.heap.size + 1 + 1, 0, none⟩) (by simp; omega) _).grown (grownBy_putObj' _ D _) (by have := hI'.out.b.size; simp; omega) (fun k e => by cases e; omega))
  case stop =>
    rintro D c pre W hD ⟨k, hk, hpre⟩ hX hK
    rw [show vals pre = fullN f k from hpre] at hX
    obtain ⟨rfl, hb, hbx⟩ := onX_yes hm2.out hin2.out hk hX
    have hb' := Lib.hid hb
    have hbx' := Lib.hid hbx
    clear hX hb hbx
    gi_wp2
    have hlt0 := hB0.out.size
    have hlr := g3.out.lt
    refine ⟨by simp, .inl ⟨_, _, rfl, run_takeDeferred hK, ?_⟩⟩
    have hc := (hbx'.out.kept (grownBy_putObj' _ D (.deferred none)) (fun e => by cases e; omega)).cell
    refine ⟨.bool true, by simp [results, Try.f30, go_sem, hc], rfl, ?_⟩
    exact hb'.out.grown (grownBy_putObj' _ D _) hb'.out.size (fun k e => by cases e; omega)

theorem once_any {p q p' q' : Nat} {A A' : Option Addr} {n cap cap' : Nat} {L : List Reg} {f : Nat → Int} (most : Int) (w : World) (h : Mem_ w p q A n cap L f) (h' : RMem_ w p' q' A' n cap' L f) (hc : n ≤ cap) (hm : ∀ r ∈ L, mayB r = true) (hin : Inside L f) :
    Calls Try.prog 30 #[.pointer (some ⟨p, 0, none⟩), .pointer (some ⟨p', 0, none⟩), .int .i64 most] w (Yes w) := callsIn_wide.1 (once_in most w h h' hc hm hin)
end Go.Proofs.Ytageahpgcjnkpaa
