/- Going over an iterator that stores into its own captured box between two rounds. -/
import Derived.Test.YtkbmckmlnphpmaaGreatDoorAD
import Derived.Test.YtkbmckmlnphpmaaGreatDoorAB
import Derived.RangeFuncNested
set_option linter.unusedSimpArgs false
set_option linter.unusedVariables false
namespace Go.Proofs.YtkbmckmlnphpmaaGreatDoor
open Go.RowKit Go.Lib Go.Shelf

/-- what the iterator tells of a round's element -/
def Told (N : Nat) (pre : List ByteArray) (x : ByteArray) : Prop := pre.length < N ∧ x.size ≤ 1000000
/-- the contract of an iterator over texts that keeps its place in box Bs -/
def IterSaid (n : Nat) (gf : Nat) (lb : Array Value) (Bs N : Nat) (Kp : World → World → Prop) (S Sp : List ByteArray → Prop) (w : World) : Prop :=
  ∀ (l : Nat) (J Jx : List ByteArray → World → Prop) (W : World), Below w.heap.size w W → (∀ s W v, J s W → J s (W.setCell ⟨Bs, 0, none⟩ v)) →
    (∀ pre x W1, J pre W1 → Told N pre x → YieldAt Fence.wide (n - 1) Tryz.prog l #[.string x] W1 fun e W' => (e = .returned (.bool true) ∧ J (pre ++ [x]) W' ∧ Kp W1 W') ∨ (e = .returned (.bool false) ∧ Jx (pre ++ [x]) W')) →
    J [] W → CallsIn Fence.wide n Tryz.prog gf (#[.func (.yield l) #[] #[]] ++ lb) W fun e W' => (∃ v, e = .returned v) ∧ ((∃ xs, S xs ∧ J xs W') ∨ (∃ pre, Sp pre ∧ Jx pre W'))
/-- how a round's body is left -/
def roundEnd (B : Nat) (Kp : World → World → Prop) (I Ix : List ByteArray → World → Prop) (xs : List ByteArray) (W : World) : Exit → Act → World → Prop
  | .normal, _, W' => KeepsFrom B W W' ∧ Kp W W' ∧ I xs W'
  | .ret, _, W' => KeepsFrom B W W' ∧ Ix xs W'
  | _, _, _ => False
/-- what speaks of blocks that no loop's bookkeeping turns -/
def Calm (B : Nat) (I : List ByteArray → World → Prop) : Prop :=
  (∀ s W o, I s W → B ≤ W.heap.size → I s (W.alloc o)) ∧ (∀ s W l o o', I s W → B ≤ l → W.heap[l]? = some o → o.isCells = false → I s (W.putObj l o'))

theorem wpIn_range_box {n : Nat} {g : Operand} {p : Tmp} {assign body : Code} {Q : Exit → Act → World → Prop} {a : Act} {w : World} {gf : Nat} {lb : Array Value} {Bs N : Nat} {Kp : World → World → Prop} {S Sp : List ByteArray → Prop}
    (h1 : 1 ≤ n) (hg : a.eval g = .func (.func gf) #[] lb) (eg : ∀ args w, (callFunc gf args).run Tryz.prog w = .ok (.enter gf args) w)
    (hBs : Bs < w.heap.size) (hKt : ∀ {A B C : World}, Kp A B → Kp B C → Kp A C) (hKb : ∀ (W : World) (l : Nat) (o' : Obj), w.heap.size ≤ l → Kp W (W.putObj l o'))
    (hiter : IterSaid (n - 1) gf lb Bs N Kp S Sp w) (I Ix : List ByteArray → World → Prop) (hI : Calm w.heap.size I) (hIx : Calm w.heap.size Ix) (hIb : ∀ s W v, I s W → I s (W.setCell ⟨Bs, 0, none⟩ v)) (h0 : I [] w)
    (T : ByteArray → Array Value)
    (hassign : ∀ (l : Nat) (x : ByteArray) (W : World) (K : Act → World → Prop), K { tmps := T x, defers := [] } W →
      assign.wpIn (Fence.wide.inRound l) (n - 1 - 1) Tryz.prog (Exit.then K (fun _ _ _ => False)) { tmps := a.tmps.setIfInBounds p (.string x), defers := [] } W)
    (hbody : ∀ (l : Nat) (pre : List ByteArray) (x : ByteArray) (W : World), w.heap.size ≤ l → I pre W → Told N pre x → body.wpIn (Fence.wide.inRound l) (n - 1 - 1) Tryz.prog (roundEnd w.heap.size Kp I Ix (pre ++ [x]) W) { tmps := T x, defers := [] } W)
    (hdone : ∀ (D : Nat) (xs : List ByteArray) (W : World), w.heap.size ≤ D → S xs → I xs W → W.heap[D]? = some (.deferred (some [])) → Q .normal { a with defers := { target := .collected D, args := #[] } :: a.defers } W)
    (hstop : ∀ (D : Nat) (pre : List ByteArray) (W : World), w.heap.size ≤ D → Sp pre → Ix pre W → W.heap[D]? = some (.deferred (some [])) → Code.ret.wpIn Fence.wide n Tryz.prog Q { a with defers := { target := .collected D, args := #[] } :: a.defers } W) :
    (Code.rangeFunc g #[p] assign body).wpIn Fence.wide n Tryz.prog Q a w := by
  refine wpIn_rangeFunc fun fn hfn => ?_
  have hlp : ∃ R : LoopState → Option Code → Loop, ∀ st pe, R st pe = { state := st, pending := pe, fn := fn, tmps := a.tmps, params := #[p], assign := assign, body := body, defers := w.heap.size } := ⟨_, fun _ _ => rfl⟩
  obtain ⟨R, hR⟩ := hlp
  -- the loop's two blocks: D for deferred calls, L for its record
  have hS1 : ((w.alloc (.deferred (some []))).alloc (.loop (R .ready none))).heap.size = w.heap.size + 2 := by simp
  have hD1 : ((w.alloc (.deferred (some []))).alloc (.loop (R .ready none))).heap[w.heap.size]? = some (.deferred (some [])) :=
    (heap_alloc_old _ _ (by simp)).trans (heap_alloc_new w _)
  have hL1 : ((w.alloc (.deferred (some []))).alloc (.loop (R .ready none))).heap[w.heap.size + 1]? = some (.loop (R .ready none)) := by
    have h := heap_alloc_new (w.alloc (.deferred (some []))) (.loop (R .ready none))
    have e : (w.alloc (.deferred (some []))).heap.size = w.heap.size + 1 := by simp
    rwa [e] at h
  have hI1 : I [] ((w.alloc (.deferred (some []))).alloc (.loop (R .ready none))) := hI.1 _ _ _ (hI.1 _ _ _ h0 (Nat.le_refl _)) (by simp)
  have hB1 : Below w.heap.size w ((w.alloc (.deferred (some []))).alloc (.loop (R .ready none))) := ((Below.refl _ w).alloc (Nat.le_refl _) _).alloc (by simp) _
  generalize hW1 : (w.alloc (.deferred (some []))).alloc (.loop (R .ready none)) = W1 at hS1 hD1 hL1 hI1 hB1
  refine ⟨w.heap.size + 1, [{ target := .collected w.heap.size, args := #[] }], W1, { target := .fn (.func gf) lb, args := #[.func (.yield (w.heap.size + 1)) #[] #[]] }, W1, gf, #[.func (.yield (w.heap.size + 1)) #[] #[]] ++ lb, W1, ?_, ?_, ?_, ?_, fun _ => h1, ?_⟩
  · rw [← hW1, hR]
    exact run_enterLoop_outer _ _ _ _ _
  · simp only [resolve, hg]
    simp [go_sem]
  · intro f' _
    exact trivial
  · simp [invoke, go_sem, eg]
  · -- the two blocks lie where a round's caller left them
    have hset : ∀ (W : World) (v : Value) (k : Nat), w.heap.size ≤ k → (W.setCell ⟨Bs, 0, none⟩ v).heap[k]? = W.heap[k]? := fun W v k hk => set_other (by omega)
    have hcall := hiter (w.heap.size + 1)
      (fun pre W => I pre W ∧ W.heap[w.heap.size + 1]? = some (.loop (R .ready none)) ∧ W.heap[w.heap.size]? = some (.deferred (some [])))
      (fun pre W => Ix pre W ∧ W.heap[w.heap.size + 1]? = some (.loop (R .done (some .ret))) ∧ W.heap[w.heap.size]? = some (.deferred (some []))) W1 hB1
      (fun s W v h => ⟨hIb s W v h.1, (hset W v _ (by omega)).trans h.2.1, (hset W v _ (Nat.le_refl _)).trans h.2.2⟩)
      (fun pre x W hJ hT => ?_) ⟨hI1, hL1, hD1⟩
    · refine hcall.mono ?_
      rintro e W2 ⟨⟨v, rfl⟩, ⟨xs, hxs, hi, hl, hd⟩ | ⟨pre, hpre, hi, hl, hd⟩⟩
      · have hrun := run_endLoop (P := Tryz.prog) hl (by rw [hR]; simp)
        rw [show (R .ready none).pending = none by rw [hR]] at hrun
        exact ⟨none, _, hrun, hdone _ xs _ (Nat.le_refl _) hxs (hI.2 _ _ _ _ _ hi (by omega) hl rfl) ((World.putObj_heap_other (by omega)).trans hd)⟩
      · have hrun := run_endLoop (P := Tryz.prog) hl (by rw [hR]; simp)
        rw [show (R .done (some .ret)).pending = some .ret by rw [hR]] at hrun
        exact ⟨some .ret, _, hrun, hstop _ pre _ (Nat.le_refl _) hpre (hIx.2 _ _ _ _ _ hi (by omega) hl rfl) ((World.putObj_heap_other (by omega)).trans hd)⟩
    · obtain ⟨hi, hl, hd⟩ := hJ
      have hy := run_yield (P := Tryz.prog) (args := #[.string x]) hl (by rw [hR]; rfl)
      rw [hR] at hy
      have hz : ∀ (f : Array Value → Tmp × Value → Array Value), (#[p].zip #[Value.string x]).foldl f a.tmps = f a.tmps (p, .string x) := fun f => by simp
      dsimp only at hy
      rw [hz] at hy
      refine ⟨fn, _, assign, body, hy, roundIn_of_wpIn hfn ?_⟩
      have hbeg := run_beginRound (P := Tryz.prog) hl (by rw [hR])
      have hll : w.heap.size + 1 < W.heap.size := blk_lt hl
      refine hassign (w.heap.size + 1) x W _ ?_
      refine ⟨_, hbeg, ?_⟩
      have hl2 : (W.putObj (w.heap.size + 1) (.loop { R .ready none with state := .busy })).heap[w.heap.size + 1]? = some (.loop { R .ready none with state := .busy }) := World.putObj_heap_same hll
      have hd2 : (W.putObj (w.heap.size + 1) (.loop { R .ready none with state := .busy })).heap[w.heap.size]? = some (.deferred (some [])) := (World.putObj_heap_other (by omega)).trans hd
      refine wpIn_mono (hbody (w.heap.size + 1) pre x _ (by omega) (hI.2 _ _ _ _ _ hi (by omega) hl rfl) hT) fun e a3 W3 hp => ?_
      cases e with
      | normal =>
        obtain ⟨hk, hkp, hi3⟩ := hp
        have hl3 := hk.same _ _ (by omega) hl2 rfl
        have hd3 := hk.same _ _ (Nat.le_refl _) hd2 rfl
        have hend := run_endRound (P := Tryz.prog) none hl3
        refine ⟨_, _, hend, .inl ⟨rfl, ⟨hI.2 _ _ _ _ _ hi3 (by omega) hl3 rfl, ?_, (World.putObj_heap_other (by omega)).trans hd3⟩, hKt (hKt (hKb _ _ _ (by omega)) hkp) (hKb _ _ _ (by omega))⟩⟩
        rw [World.putObj_heap_same (blk_lt hl3)]
        simp only [hR]
        rfl
      | ret =>
        obtain ⟨hk, hi3⟩ := hp
        have hl3 := hk.same _ _ (by omega) hl2 rfl
        have hd3 := hk.same _ _ (Nat.le_refl _) hd2 rfl
        have hend := run_endRound (P := Tryz.prog) (some .ret) hl3
        refine ⟨_, _, hend, .inr ⟨rfl, hIx.2 _ _ _ _ _ hi3 (by omega) hl3 rfl, ?_, (World.putObj_heap_other (by omega)).trans hd3⟩⟩
        rw [World.putObj_heap_same (blk_lt hl3)]
        simp only [hR]
        rfl
      | exit id => exact hp.elim
      | goto t => exact hp.elim
      | panic ch => exact hp.elim
      | outgrown => exact hp.elim
end Go.Proofs.YtkbmckmlnphpmaaGreatDoor
