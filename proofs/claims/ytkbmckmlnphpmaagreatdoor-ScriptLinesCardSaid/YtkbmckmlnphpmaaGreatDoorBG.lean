/- An asking's lines: the reference's, and the iterator over them. -/
import Derived.Test.YtkbmckmlnphpmaaGreatDoorBF
import Derived.Test.YtkbmckmlnphpmaaGreatDoorAG
import Derived.Test.YtkbmckmlnphpmaaGreatDoorAR
set_option linter.unusedSimpArgs false
set_option linter.unusedVariables false
namespace Go.Proofs.YtkbmckmlnphpmaaGreatDoor
open Go.RowKit Go.Lib Go.Shelf

/-- the contract of an iterator over texts that makes memory between two rounds, and writes none of what was there -/
def IterGrow (n : Nat) (gf : Nat) (lb : Array Value) (Kp : World → World → Prop) (T0 : List ByteArray → ByteArray → Prop) (S Sp : List ByteArray → Prop) (w : World) : Prop :=
  ∀ (l : Nat) (J Jx : List ByteArray → World → Prop) (W : World), Below w.heap.size w W → (∀ s W W', J s W → Below W.heap.size W W' → J s W') →
    (∀ pre x W1, J pre W1 → T0 pre x → YieldAt Fence.wide (n - 1) Tryz.prog l #[.string x] W1 fun e W' => (e = .returned (.bool true) ∧ J (pre ++ [x]) W' ∧ Kp W1 W') ∨ (e = .returned (.bool false) ∧ Jx (pre ++ [x]) W')) →
    J [] W → CallsIn Fence.wide n Tryz.prog gf (#[.func (.yield l) #[] #[]] ++ lb) W fun e W' => (∃ v, e = .returned v) ∧ ((∃ xs, S xs ∧ J xs W') ∨ (∃ pre, Sp pre ∧ Jx pre W'))
theorem wpIn_range_grow {n : Nat} {g : Operand} {p : Tmp} {assign body : Code} {Q : Exit → Act → World → Prop} {a : Act} {w : World} {gf : Nat} {lb : Array Value} {Kp : World → World → Prop} {T0 : List ByteArray → ByteArray → Prop} {S Sp : List ByteArray → Prop}
    (h1 : 1 ≤ n) (hg : a.eval g = .func (.func gf) #[] lb) (eg : ∀ args w, (callFunc gf args).run Tryz.prog w = .ok (.enter gf args) w)
    (hKt : ∀ {A B C : World}, Kp A B → Kp B C → Kp A C) (hKb : ∀ (W : World) (l : Nat) (o' : Obj), w.heap.size ≤ l → Kp W (W.putObj l o'))
    (hiter : IterGrow (n - 1) gf lb Kp T0 S Sp w) (I Ix : List ByteArray → World → Prop) (hI : Calm w.heap.size I) (hIx : Calm w.heap.size Ix) (hIb : ∀ s W W', I s W → w.heap.size ≤ W.heap.size → Below W.heap.size W W' → I s W') (h0 : I [] w)
    (T : ByteArray → Array Value)
    (hassign : ∀ (l : Nat) (x : ByteArray) (W : World) (K : Act → World → Prop), K { tmps := T x, defers := [] } W →
      assign.wpIn (Fence.wide.inRound l) (n - 1 - 1) Tryz.prog (Exit.then K (fun _ _ _ => False)) { tmps := a.tmps.setIfInBounds p (.string x), defers := [] } W)
    (hbody : ∀ (l : Nat) (pre : List ByteArray) (x : ByteArray) (W : World), w.heap.size ≤ l → I pre W → T0 pre x → body.wpIn (Fence.wide.inRound l) (n - 1 - 1) Tryz.prog (roundEnd w.heap.size Kp I Ix (pre ++ [x]) W) { tmps := T x, defers := [] } W)
    (hdone : ∀ (D : Nat) (xs : List ByteArray) (W : World), w.heap.size ≤ D → S xs → I xs W → W.heap[D]? = some (.deferred (some [])) → Q .normal { a with defers := { target := .collected D, args := #[] } :: a.defers } W)
    (hstop : ∀ (D : Nat) (pre : List ByteArray) (W : World), w.heap.size ≤ D → Sp pre → Ix pre W → W.heap[D]? = some (.deferred (some [])) → Code.ret.wpIn Fence.wide n Tryz.prog Q { a with defers := { target := .collected D, args := #[] } :: a.defers } W) :
    (Code.rangeFunc g #[p] assign body).wpIn Fence.wide n Tryz.prog Q a w := by
  refine wpIn_rangeFunc fun fn hfn => ?_
  have hlp : ∃ R : LoopState → Option Code → Loop, ∀ st pe, R st pe = { state := st, pending := pe, fn := fn, tmps := a.tmps, params := #[p], assign := assign, body := body, defers := w.heap.size } := ⟨_, fun _ _ => rfl⟩
  obtain ⟨R, hR⟩ := hlp
  -- the loop's two blocks: D for deferred calls, L for its record
  have hS1 : ((w.alloc (.deferred (some []))).alloc (.loop (R .ready none))).heap.size = w.heap.size + 2 := by simp
  have hD1 : ((w.alloc (.deferred (some []))).alloc (.loop (R .ready none))).heap[w.heap.size]? = some (.deferred (some [])) :=
    (heap_alloc_old _ _ (by simp)).trans (heap_alloc_new w _)
  have hL1 : ((w.alloc (.deferred (some []))).alloc (.loop (R .ready none))).heap[w.heap.size + 1]? = some (.loop (R .ready none)) := by
    have h := heap_alloc_new (w.alloc (.deferred (some []))) (.loop (R .ready none))
    have e : (w.alloc (.deferred (some []))).heap.size = w.heap.size + 1 := by simp
    rwa [e] at h
  have hI1 : I [] ((w.alloc (.deferred (some []))).alloc (.loop (R .ready none))) := hI.1 _ _ _ (hI.1 _ _ _ h0 (Nat.le_refl _)) (by simp)
  have hB1 : Below w.heap.size w ((w.alloc (.deferred (some []))).alloc (.loop (R .ready none))) := ((Below.refl _ w).alloc (Nat.le_refl _) _).alloc (by simp) _
  generalize hW1 : (w.alloc (.deferred (some []))).alloc (.loop (R .ready none)) = W1 at hS1 hD1 hL1 hI1 hB1
  refine ⟨w.heap.size + 1, [{ target := .collected w.heap.size, args := #[] }], W1, { target := .fn (.func gf) lb, args := #[.func (.yield (w.heap.size + 1)) #[] #[]] }, W1, gf, #[.func (.yield (w.heap.size + 1)) #[] #[]] ++ lb, W1, ?_, ?_, ?_, ?_, fun _ => h1, ?_⟩
  · rw [← hW1, hR]
    exact run_enterLoop_outer _ _ _ _ _
  · simp only [resolve, hg]
    simp [go_sem]
  · intro f' _
    exact trivial
  · simp [invoke, go_sem, eg]
  · -- the two blocks lie where a round's caller left them
    have hcall := hiter (w.heap.size + 1)
      (fun pre W => I pre W ∧ W.heap[w.heap.size + 1]? = some (.loop (R .ready none)) ∧ W.heap[w.heap.size]? = some (.deferred (some [])))
      (fun pre W => Ix pre W ∧ W.heap[w.heap.size + 1]? = some (.loop (R .done (some .ret))) ∧ W.heap[w.heap.size]? = some (.deferred (some []))) W1 hB1
      (fun s W W' h hb => ⟨hIb s W W' h.1 (by have := blk_lt h.2.1; omega) hb, (hb.block _ (blk_lt h.2.1)).trans h.2.1, (hb.block _ (blk_lt h.2.2)).trans h.2.2⟩)
      (fun pre x W hJ hT => ?_) ⟨hI1, hL1, hD1⟩
    · refine hcall.mono ?_
      rintro e W2 ⟨⟨v, rfl⟩, ⟨xs, hxs, hi, hl, hd⟩ | ⟨pre, hpre, hi, hl, hd⟩⟩
      · have hrun := run_endLoop (P := Tryz.prog) hl (by rw [hR]; simp)
        rw [show (R .ready none).pending = none by rw [hR]] at hrun
        exact ⟨none, _, hrun, hdone _ xs _ (Nat.le_refl _) hxs (hI.2 _ _ _ _ _ hi (by omega) hl rfl) ((World.putObj_heap_other (by omega)).trans hd)⟩
      · have hrun := run_endLoop (P := Tryz.prog) hl (by rw [hR]; simp)
        rw [show (R .done (some .ret)).pending = some .ret by rw [hR]] at hrun
        exact ⟨some .ret, _, hrun, hstop _ pre _ (Nat.le_refl _) hpre (hIx.2 _ _ _ _ _ hi (by omega) hl rfl) ((World.putObj_heap_other (by omega)).trans hd)⟩
    · obtain ⟨hi, hl, hd⟩ := hJ
      have hy := run_yield (P := Tryz.prog) (args := #[.string x]) hl (by rw [hR]; rfl)
      rw [hR] at hy
      have hz : ∀ (f : Array Value → Tmp × Value → Array Value), (#[p].zip #[Value.string x]).foldl f a.tmps = f a.tmps (p, .string x) := fun f => by simp
      dsimp only at hy
      rw [hz] at hy
      refine ⟨fn, _, assign, body, hy, roundIn_of_wpIn hfn ?_⟩
      have hbeg := run_beginRound (P := Tryz.prog) hl (by rw [hR])
      have hll : w.heap.size + 1 < W.heap.size := blk_lt hl
      refine hassign (w.heap.size + 1) x W _ ?_
      refine ⟨_, hbeg, ?_⟩
      have hl2 : (W.putObj (w.heap.size + 1) (.loop { R .ready none with state := .busy })).heap[w.heap.size + 1]? = some (.loop { R .ready none with state := .busy }) := World.putObj_heap_same hll
      have hd2 : (W.putObj (w.heap.size + 1) (.loop { R .ready none with state := .busy })).heap[w.heap.size]? = some (.deferred (some [])) := (World.putObj_heap_other (by omega)).trans hd
      refine wpIn_mono (hbody (w.heap.size + 1) pre x _ (by omega) (hI.2 _ _ _ _ _ hi (by omega) hl rfl) hT) fun e a3 W3 hp => ?_
      cases e with
      | normal =>
        obtain ⟨hk, hkp, hi3⟩ := hp
        have hl3 := hk.same _ _ (by omega) hl2 rfl
        have hd3 := hk.same _ _ (Nat.le_refl _) hd2 rfl
        have hend := run_endRound (P := Tryz.prog) none hl3
        refine ⟨_, _, hend, .inl ⟨rfl, ⟨hI.2 _ _ _ _ _ hi3 (by omega) hl3 rfl, ?_, (World.putObj_heap_other (by omega)).trans hd3⟩, hKt (hKt (hKb _ _ _ (by omega)) hkp) (hKb _ _ _ (by omega))⟩⟩
        rw [World.putObj_heap_same (blk_lt hl3)]
        simp only [hR]
        rfl
      | ret =>
        obtain ⟨hk, hi3⟩ := hp
        have hl3 := hk.same _ _ (by omega) hl2 rfl
        have hd3 := hk.same _ _ (Nat.le_refl _) hd2 rfl
        have hend := run_endRound (P := Tryz.prog) (some .ret) hl3
        refine ⟨_, _, hend, .inr ⟨rfl, hIx.2 _ _ _ _ _ hi3 (by omega) hl3 rfl, ?_, (World.putObj_heap_other (by omega)).trans hd3⟩⟩
        rw [World.putObj_heap_same (blk_lt hl3)]
        simp only [hR]
        rfl
      | exit id => exact hp.elim
      | goto t => exact hp.elim
      | panic ch => exact hp.elim
      | outgrown => exact hp.elim

/-- an asking's lines -/
def linesA (a : Ask) : List ByteArray := lineT inW a.args :: (a.regs.map (lineT withW) ++ [askedT a.k a.st a.fu])
theorem own_one {W : World} {b0 : Nat} (hb : b0 ≤ W.heap.size) (t : ByteArray) : (W.alloc (.cells #[.string t] 9)).ownsRow b0 9 1 (.slice (some ⟨W.heap.size, 0, none⟩) 1 1) 1 (sCells [t]) :=
  ⟨rfl, .inr ⟨W.heap.size, 1, #[.string t], rfl, hb, heap_alloc_new W _, Nat.le_refl _, by simp [maxLen], rfl, rfl⟩⟩

set_option maxRecDepth 100000 in
set_option maxHeartbeats 4000000 in
theorem refLines_any (a : Ask) (A1 A2 : Option Addr) (c1 c2 : Nat) (w : World) (hA : AskOK w a A1 A2) (hl1 : a.args.length ≤ 10000) (hl2 : a.regs.length ≤ 10000) (hl3 : ∀ ws ∈ a.regs, ws.length ≤ 10000) (hT : Tab w) (hst : 0 ≤ a.st ∧ a.st ≤ 18446744073709551615) (hfu : 0 ≤ a.fu ∧ a.fu ≤ 1000000) :
    Calls Tryz.prog 37 #[askVal a A1 c1 A2 c2] w (SlPost (linesA a) w) := by
  obtain ⟨k, args, regs, st, fu⟩ := a
  dsimp only at hl1 hl2 hl3 hst hfu
  unfold askVal linesA
  dsimp only
  obtain ⟨hW, hR, _, _⟩ := hA
  dsimp only at hW hR
  obtain ⟨n, hn⟩ : ∃ n, regs.length = n := ⟨_, rfl⟩
  rw [hn] at hl2 ⊢
  obtain ⟨i0, hi, hz0, hz1, hz2⟩ := info_parts info9
  have hi' := Lib.hid (And.intro hi (And.intro hz0 (And.intro hz1 hz2)))
  have hb0 := Lib.hid ((Below.refl w.heap.size w).alloc (Nat.le_refl _) (.cells #[.int .i64 k, .slice A1 args.length c1, .slice A2 n c2, .int .u64 st, .int .i64 fu] 42))
  have hbox := Lib.hid (heap_alloc_new w (.cells #[.int .i64 k, .slice A1 args.length c1, .slice A2 n c2, .int .u64 st, .int .i64 fu] 42))
  obtain ⟨g0, g1, g2, g3, g4, gf⟩ := box5 hbox.out
  have hlt := blk_lt hbox.out
  have kW := Lib.hid (show Calls Tryz.prog 17 #[.string ⟨#[105, 110]⟩, .slice A1 args.length c1] (w.alloc (.cells #[.int .i64 k, .slice A1 args.length c1, .slice A2 n c2, .int .u64 st, .int .i64 fu] 42)) (StrPost (lineT inW args) (w.alloc (.cells #[.int .i64 k, .slice A1 args.length c1, .slice A2 n c2, .int .u64 st, .int .i64 fu] 42))) from
    refWords_any inW A1 args.length c1 args _ rfl (hW.below hb0.out) (hT.below hb0.out) (by decide) (by omega))
  have kL := Lib.hid fun W (hb : Below w.heap.size w W) => refLine_any k A1 A2 args.length c1 n c2 st fu W (hT.below hb) hst.1 hst.2 hfu.1 hfu.2
  have kR := Lib.hid fun W (hb : Below w.heap.size w W) B cb ws (hB : WAt W B ws) (hl : ws.length ≤ 10000) => (show Calls Tryz.prog 17 #[.string ⟨#[119, 105, 116, 104]⟩, .slice B ws.length cb] W (StrPost (lineT withW ws) W) from refWords_any withW B ws.length cb ws W rfl hB (hT.below hb) (by decide) (by omega))
  have hR' := Lib.hid hR
  have hl3' := Lib.hid hl3
  have hn' := Lib.hid hn
  obtain ⟨T0, hT0⟩ : ∃ T0, lineT inW args = T0 := ⟨_, rfl⟩
  obtain ⟨Tl, hTl⟩ : ∃ Tl, askedT k st fu = Tl := ⟨_, rfl⟩
  rw [hT0] at kW ⊢
  rw [hTl] at kL ⊢
  clear hi hz0 hz1 hz2 hW hR hT hst hl3 hn hT0 hTl hfu
  go_enter Tryz.func37, Tryz.ntmps37
  go_wp2_with fail
  refine kW.out.mono ?_
  rintro e w1 ⟨rfl, hb1⟩
  have b1 := Lib.hid (Below.next hb0.out hb1)
  have hbx1 := Lib.hid ((hb1.block _ hlt).trans hbox.out)
  have hown0 := Lib.hid (own_one (W := w1) (b0 := w.heap.size + 1) (by have := blk_lt hbx1.out; omega) T0)
  have ba := Lib.hid (b1.out.alloc b1.out.size (.cells #[.string T0] 9))
  have hbx2 := Lib.hid ((heap_alloc_old w1 (.cells #[.string T0] 9) (blk_lt hbx1.out)).trans hbx1.out)
  clear hb1 g0 g1 g2 g3 g4 gf
  go_wp2_with fail
  go_loopg [3, 4] n (fun g s3 s4 wr => ∃ i : Nat, i + g = n ∧ s4 = .int .i64 i ∧ wr.ownsRow (w.heap.size + 1) 9 1 s3 (i + 1) (sCells (T0 :: (regs.take i).map (lineT withW))) ∧ wr.heap[w.heap.size]? = some (.cells #[.int .i64 k, .slice A1 args.length c1, .slice A2 n c2, .int .u64 st, .int .i64 fu] 42 (0, 0)) ∧ Below w.heap.size w wr)
  case atStart => exact ⟨0, by omega, rfl, hown0.out, hbx2.out, ba.out⟩
  case round =>
    obtain ⟨i, hig, rfl, ho, hbx, hb⟩ := hrel
    have ho := Lib.hid ho
    have hb := Lib.hid hb
    have hbx := Lib.hid hbx
    obtain ⟨g0, g1, g2, g3, g4, gf⟩ := box5 hbx.out
    have hsz := hb.out.size
    cases gk with
    | zero =>
      have e0 : ¬ ((i : Int) < (n : Int)) := by omega
      have htk : regs.take i = regs := List.take_of_length_le (by rw [hn'.out]; omega)
      have hot := ho.out
      rw [htk] at hot
      have ho := Lib.hid hot
      clear hot htk
      go_wp2_with fail
      refine (kL.out _ hb.out).mono ?_
      rintro e w4 ⟨rfl, hb4⟩
      have ho4 := ho.out.kept (row := none) ⟨hb4.os, hb4.tape, hb4.output, hb4.size, fun j hj _ => hb4.block j hj⟩ (Classical.em _)
      have b4 := Lib.hid (Below.next hb.out hb4)
      have hown := Lib.hid (ho4.alloc (.cells #[.string Tl] 9))
      have hnew := Lib.hid (cell_one_new w4 (.string Tl) 9)
      have hbA := Lib.hid (b4.out.alloc b4.out.size (.cells #[.string Tl] 9))
      have hone := Lib.hid (show ∀ v ∈ [Value.string Tl], v.oneCell' = true by simp [Value.oneCell'])
      have hk1 := Lib.hid (show i + 1 + 1 ≤ maxLen by unfold maxLen; omega)
      have hk2 := Lib.hid (show (i + 1 + 1) * 16 ≤ 140737488355328 by omega)
      have hbs0 := Lib.hid hbA.out.size
      have hbs := Lib.hid (show w.heap.size + 1 ≤ (w4.alloc (.cells #[.string Tl] 9)).heap.size by simp; have := b4.out.size; omega)
      have hin : i = n := by omega
      have hin := Lib.hid hin
      obtain ⟨hj1, hj2, hj3, hj4⟩ := hi'.out
      clear hb4 ho4
      go_wp2_with ((at_builtin; refine wpList_append_own_at _ rfl _ _ 67 rfl (w.heap.size + 1) 9 i0 _ 1 16 und67 hj1 hj2 hj3 hj4 rfl (by decide) u3 (i + 1) (sCells (T0 :: regs.map (lineT withW))) rfl hown.out ⟨w4.heap.size, 0, none⟩ 1 1 [.string Tl] rfl rfl hnew.out hone.out hk1.out hk2.out hbs.out ?_; intro v' w5 hown5 hg5 hnil5 hat5))
      have hB5 := Lib.hid (hbA.out.grown hg5 hbs0.out (fun g' e => by have := (hown.out.lt g' e).1; omega))
      obtain ⟨A, c, rfl, hS⟩ := own_SAt (ss := T0 :: (regs.map (lineT withW) ++ [Tl])) (by simpa [sCells] using hown5) (by simp [hn'.out]; have := hin.out; omega)
      have hS := Lib.hid hS
      clear hown5 hg5 hnil5 hat5
      go_wp2
      go_ret
      refine ⟨A, c, ?_, hS.out, hB5.out⟩
      have e6 : (T0 :: (regs.map (lineT withW) ++ [Tl])).length = i + 1 + 1 := by simp [hn'.out]; have := hin.out; omega
      rw [e6]; rfl
    | succ g =>
      have e0 : (i : Int) < (n : Int) := by omega
      obtain ⟨blk, off, ws, B, cb, rfl, hws, v1, v2, v3⟩ := (hR'.out.below hb.out).at_ (k := i) (by rw [hn'.out]; omega)
      have hws' := Lib.hid hws
      have hcall := Lib.hid (kR.out wr hb.out B cb ws v3 (hl3'.out ws (List.mem_of_getElem? hws)))
      clear hws v3
      go_wp2_with fail
      refine hcall.out.mono ?_
      rintro e w4 ⟨rfl, hb4⟩
      have ho4 := ho.out.kept (row := none) ⟨hb4.os, hb4.tape, hb4.output, hb4.size, fun j hj _ => hb4.block j hj⟩ (Classical.em _)
      have b4 := Lib.hid (Below.next hb.out hb4)
      have hlt4 := blk_lt hbx.out
      have hbx4 := Lib.hid ((heap_alloc_old w4 (.cells #[.string (lineT withW ws)] 9) (Nat.lt_of_lt_of_le hlt4 hb4.size)).trans ((hb4.block _ hlt4).trans hbx.out))
      have hown := Lib.hid (ho4.alloc (.cells #[.string (lineT withW ws)] 9))
      have hnew := Lib.hid (cell_one_new w4 (.string (lineT withW ws)) 9)
      have hbA := Lib.hid (b4.out.alloc b4.out.size (.cells #[.string (lineT withW ws)] 9))
      have hone := Lib.hid (show ∀ v ∈ [Value.string (lineT withW ws)], v.oneCell' = true by simp [Value.oneCell'])
      have hk1 := Lib.hid (show i + 1 + 1 ≤ maxLen by unfold maxLen; omega)
      have hk2 := Lib.hid (show (i + 1 + 1) * 16 ≤ 140737488355328 by omega)
      have hbs0 := Lib.hid hbA.out.size
      have hbs := Lib.hid (show w.heap.size + 1 ≤ (w4.alloc (.cells #[.string (lineT withW ws)] 9)).heap.size by simp; have := b4.out.size; omega)
      have hlt5 := Lib.hid (show w.heap.size < (w4.alloc (.cells #[.string (lineT withW ws)] 9)).heap.size by simp; have := hb4.size; omega)
      obtain ⟨hj1, hj2, hj3, hj4⟩ := hi'.out
      clear hb4 ho4 g0 g1 g2 g3 g4 gf v1 v2
      generalize hTw : lineT withW ws = Tw at *
      go_wp2_with ((at_builtin; refine wpList_append_own_at _ rfl _ _ 67 rfl (w.heap.size + 1) 9 i0 _ 1 16 und67 hj1 hj2 hj3 hj4 rfl (by decide) u3 (i + 1) (sCells (T0 :: (regs.take i).map (lineT withW))) rfl hown.out ⟨w4.heap.size, 0, none⟩ 1 1 [.string Tw] rfl rfl hnew.out hone.out hk1.out hk2.out hbs.out ?_; intro v' w5 hown5 hg5 hnil5 hat5))
      have hB5 := Lib.hid (hbA.out.grown hg5 hbs0.out (fun g' e => by have := (hown.out.lt g' e).1; omega))
      have hbx5 := Lib.hid (hg5.block _ hlt5.out (fun e => by
        have := (hown.out.lt _ e.symm).1; omega))
      have hown5' := Lib.hid hown5
      clear hown5 hg5 hnil5 hat5
      go_wp2
      go_roundg g
      case measure => omega
      case rel =>
        refine ⟨i + 1, by omega, by go_num, ?_, hbx5.out.trans hbx4.out, hB5.out⟩
        have e5 : (regs.take (i + 1)).map (lineT withW) = (regs.take i).map (lineT withW) ++ [Tw] := by
          rw [List.take_add_one, hws'.out, List.map_append, ← hTw]
          rfl
        rw [e5]
        simpa [sCells] using hown5'.out
end Go.Proofs.YtkbmckmlnphpmaaGreatDoor
