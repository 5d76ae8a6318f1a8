/- A range over code's lines. -/
import Derived.Test.YtmimmnjdgpdjlaaGreatDoorAJ
set_option linter.unusedSimpArgs false
set_option linter.unusedVariables false
namespace Go.Proofs.YtmimmnjdgpdjlaaGreatDoor
open Go.RowKit Go.Lib Go.Shelf

/-- the loops' own blocks stay -/
def KeepN (C : Nat) (W W' : World) : Prop := ∀ k o, C ≤ k → W.heap[k]? = some o → o.isCells = false → W'.heap[k]? = some o
theorem KeepN.refl (C : Nat) (W : World) : KeepN C W W := fun _ _ _ h _ => h
theorem KeepN.trans {C : Nat} {W W' W'' : World} (h : KeepN C W W') (g : KeepN C W' W'') : KeepN C W W'' := fun k o hk ho hc => g k o hk (h k o hk ho hc) hc
theorem KeepN.of_below {C : Nat} {W W' : World} (h : Below W.heap.size W W') : KeepN C W W' := fun k o _ ho _ => (h.block k (blk_lt ho)).trans ho
theorem KeepN.set {C b o : Nat} {W : World} {v : Value} {cs : Array Value} {t : TypeId} {fr : Nat × Nat} (hb : W.heap[b]? = some (.cells cs t fr)) : KeepN C W (W.setCell ⟨b, o, none⟩ v) := fun k x _ hx hc => by
  have hne : k ≠ b := by rintro rfl; rw [hb] at hx; cases hx; cases hc
  exact (Go.Deep.blk_setCell_other _ _ _ _ hne).trans hx
/-- how a round's body is left -/
def roundN (C : Nat) (I Ix : World → Prop) (W : World) : Exit → Act → World → Prop
  | .normal, _, W' => KeepN C W W' ∧ I W'
  | .ret, _, W' => KeepN C W W' ∧ Ix W'
  | _, _, _ => False
set_option maxHeartbeats 2000000 in
theorem wpIn_range_strs {g : Operand} {p : Tmp} {assign body : Code} {Q : Exit → Act → World → Prop} {a : Act} {w : World} (w0 : World) (hE0 : Env w0) (L : List In) (A : Option Addr) (c b : Nat) (hL : InsAt w0 L A) (hF : ∀ i ∈ L, Fit i) (hlen : L.length ≤ 2000000)
    (hbx : w.heap[b]? = some (.cells #[.slice A L.length c] 42 (0, 0)))
    (hg : a.eval g = .func (.func 109) #[] #[.pointer (some ⟨b, 0, none⟩)]) (I : Nat → World → Prop) (Ix : World → Prop)
    (hIg : ∀ k W W', I k W → w.heap.size ≤ W.heap.size → Below W.heap.size W W' → I k W') (hIp : ∀ k W l o o', I k W → w.heap.size ≤ l → W.heap[l]? = some o → o.isCells = false → I k (W.putObj l o'))
    (hIxp : ∀ W l o o', Ix W → w.heap.size ≤ l → W.heap[l]? = some o → o.isCells = false → Ix (W.putObj l o')) (hIb : ∀ k W, I k W → Below w0.heap.size w0 W) (h0 : I 0 w) (T : ByteArray → Array Value)
    (hassign : ∀ (l : Nat) (s : ByteArray) (W : World) (K : Act → World → Prop), K { tmps := T s, defers := [] } W →
      assign.wpIn (Fence.wide.inRound l) 6 Tryz.prog (Exit.then K (fun _ _ _ => False)) { tmps := a.tmps.setIfInBounds p (.string s), defers := [] } W)
    (hbody : ∀ (l k : Nat) (i : In) (W : World), mayAll L = true → w.heap.size ≤ l → w.heap.size + 2 ≤ W.heap.size → I k W → L[k]? = some i → body.wpIn (Fence.wide.inRound l) 6 Tryz.prog (roundN w.heap.size (I (k + 1)) Ix W) { tmps := T (bt (tellI i)), defers := [] } W)
    (hdone : ∀ (D : Nat) (W : World), w.heap.size ≤ D → ((mayAll L = true ∧ I L.length W) ∨ (mayAll L = false ∧ I 0 W)) → W.heap[D]? = some (.deferred (some [])) → Q .normal { a with defers := { target := .collected D, args := #[] } :: a.defers } W)
    (hstop : ∀ (D : Nat) (W : World), w.heap.size ≤ D → mayAll L = true → Ix W → W.heap[D]? = some (.deferred (some [])) → Code.ret.wpIn Fence.wide 8 Tryz.prog Q { a with defers := { target := .collected D, args := #[] } :: a.defers } W) :
    (Code.rangeFunc g #[p] assign body).wpIn Fence.wide 8 Tryz.prog Q a w := by
  refine wpIn_rangeFunc fun fn hfn => ?_
  have hlp : ∃ R : LoopState → Option Code → Loop, ∀ st pe, R st pe = { state := st, pending := pe, fn := fn, tmps := a.tmps, params := #[p], assign := assign, body := body, defers := w.heap.size } := ⟨_, fun _ _ => rfl⟩
  obtain ⟨R, hR⟩ := hlp
  have hS1 : ((w.alloc (.deferred (some []))).alloc (.loop (R .ready none))).heap.size = w.heap.size + 2 := by simp
  have hD1 : ((w.alloc (.deferred (some []))).alloc (.loop (R .ready none))).heap[w.heap.size]? = some (.deferred (some [])) :=
    (heap_alloc_old _ _ (by simp)).trans (heap_alloc_new w _)
  have hL1 : ((w.alloc (.deferred (some []))).alloc (.loop (R .ready none))).heap[w.heap.size + 1]? = some (.loop (R .ready none)) := by
    have h := heap_alloc_new (w.alloc (.deferred (some []))) (.loop (R .ready none))
    have e : (w.alloc (.deferred (some []))).heap.size = w.heap.size + 1 := by simp
    rwa [e] at h
  have hB1 : Below w.heap.size w ((w.alloc (.deferred (some []))).alloc (.loop (R .ready none))) := ((Below.refl _ w).alloc (Nat.le_refl _) _).alloc (by simp) _
  have hI1 : I 0 ((w.alloc (.deferred (some []))).alloc (.loop (R .ready none))) := hIg _ _ _ h0 (Nat.le_refl _) hB1
  generalize hW1 : (w.alloc (.deferred (some []))).alloc (.loop (R .ready none)) = W1 at hS1 hD1 hL1 hI1 hB1
  refine ⟨w.heap.size + 1, [{ target := .collected w.heap.size, args := #[] }], W1, { target := .fn (.func 109) #[.pointer (some ⟨b, 0, none⟩)], args := #[.func (.yield (w.heap.size + 1)) #[] #[]] }, W1, 109, #[.func (.yield (w.heap.size + 1)) #[] #[]] ++ #[.pointer (some ⟨b, 0, none⟩)], W1, ?_, ?_, ?_, ?_, fun _ => by decide, ?_⟩
  · rw [← hW1, hR]
    exact run_enterLoop_outer _ _ _ _ _
  · simp only [resolve, hg]
    simp [go_sem]
  · intro f' _
    exact trivial
  · simp [invoke, go_sem, enters_of Tryz.func109 (by kernel_rfl) rfl]
  · have hcall := iter109_any 7 (by decide) w0 hE0 L A c hL hF hlen b W1 ((hB1.block _ (blk_lt hbx)).trans hbx) (w.heap.size + 1)
      (fun k W => I k W ∧ W.heap[w.heap.size + 1]? = some (.loop (R .ready none)) ∧ W.heap[w.heap.size]? = some (.deferred (some [])))
      (fun W => Ix W ∧ W.heap[w.heap.size + 1]? = some (.loop (R .done (some .ret))) ∧ W.heap[w.heap.size]? = some (.deferred (some [])))
      ⟨fun h => hIb _ _ h.1, ?grow⟩ ?round ⟨hI1, hL1, hD1⟩
    · refine hcall.mono ?_
      rintro e W2 ⟨⟨v, rfl⟩, ⟨hm, hi, hl, hd⟩ | ⟨hm, hi, hl, hd⟩ | ⟨hm, hi, hl, hd⟩⟩
      · have hrun := run_endLoop (P := Tryz.prog) hl (by rw [hR]; simp)
        rw [show (R .ready none).pending = none by rw [hR]] at hrun
        exact ⟨none, _, hrun, hdone _ _ (Nat.le_refl _) (.inl ⟨hm, hIp _ _ _ _ _ hi (by omega) hl rfl⟩) ((World.putObj_heap_other (by omega)).trans hd)⟩
      · have hrun := run_endLoop (P := Tryz.prog) hl (by rw [hR]; simp)
        rw [show (R .ready none).pending = none by rw [hR]] at hrun
        exact ⟨none, _, hrun, hdone _ _ (Nat.le_refl _) (.inr ⟨hm, hIp _ _ _ _ _ hi (by omega) hl rfl⟩) ((World.putObj_heap_other (by omega)).trans hd)⟩
      · have hrun := run_endLoop (P := Tryz.prog) hl (by rw [hR]; simp)
        rw [show (R .done (some .ret)).pending = some .ret by rw [hR]] at hrun
        exact ⟨some .ret, _, hrun, hstop _ _ (Nat.le_refl _) hm (hIxp _ _ _ _ hi (by omega) hl rfl) ((World.putObj_heap_other (by omega)).trans hd)⟩
    case grow =>
      rintro k W W' ⟨hi, hl, hd⟩ hb
      have := blk_lt hd
      exact ⟨hIg _ _ _ hi (by omega) hb, (hb.block _ (blk_lt hl)).trans hl, (hb.block _ (blk_lt hd)).trans hd⟩
    case round =>
      rintro hm k i W ⟨hi, hl, hd⟩ hx
      have hy := run_yield (P := Tryz.prog) (args := #[.string (bt (tellI i))]) hl (by rw [hR]; rfl)
      rw [hR] at hy
      have hzip : ∀ (f : Array Value → Tmp × Value → Array Value), (#[p].zip #[Value.string (bt (tellI i))]).foldl f a.tmps = f a.tmps (p, .string (bt (tellI i))) := fun f => by simp
      dsimp only at hy
      rw [hzip] at hy
      refine ⟨fn, _, assign, body, hy, roundIn_of_wpIn hfn ?_⟩
      have hll : w.heap.size + 1 < W.heap.size := blk_lt hl
      refine hassign (w.heap.size + 1) (bt (tellI i)) W _ ?_
      have hbeg := run_beginRound (P := Tryz.prog) hl (by rw [hR])
      refine ⟨_, hbeg, ?_⟩
      have hl2 : (W.putObj (w.heap.size + 1) (.loop { R .ready none with state := .busy })).heap[w.heap.size + 1]? = some (.loop { R .ready none with state := .busy }) := World.putObj_heap_same hll
      have hd2 : (W.putObj (w.heap.size + 1) (.loop { R .ready none with state := .busy })).heap[w.heap.size]? = some (.deferred (some [])) := (World.putObj_heap_other (by omega)).trans hd
      have hsz2 : (W.putObj (w.heap.size + 1) (.loop { R .ready none with state := .busy })).heap.size = W.heap.size := by simp [World.putObj]
      refine wpIn_mono (hbody (w.heap.size + 1) k i _ hm (by omega) (by rw [hsz2]; omega) (hIp _ _ _ _ _ hi (by omega) hl rfl) hx) fun e a3 W3 hp => ?_
      cases e with
      | normal =>
        obtain ⟨hk, hi3⟩ := hp
        have hl3 := hk _ _ (by omega) hl2 rfl
        have hd3 := hk _ _ (Nat.le_refl _) hd2 rfl
        have hend := run_endRound (P := Tryz.prog) none hl3
        refine ⟨_, _, hend, .inl ⟨rfl, hIp _ _ _ _ _ hi3 (by omega) hl3 rfl, ?_, (World.putObj_heap_other (by omega)).trans hd3⟩⟩
        rw [World.putObj_heap_same (blk_lt hl3)]
        simp only [hR]
        rfl
      | ret =>
        obtain ⟨hk, hi3⟩ := hp
        have hl3 := hk _ _ (by omega) hl2 rfl
        have hd3 := hk _ _ (Nat.le_refl _) hd2 rfl
        have hend := run_endRound (P := Tryz.prog) (some .ret) hl3
        refine ⟨_, _, hend, .inr ⟨rfl, hIxp _ _ _ _ hi3 (by omega) hl3 rfl, ?_, (World.putObj_heap_other (by omega)).trans hd3⟩⟩
        rw [World.putObj_heap_same (blk_lt hl3)]
        simp only [hR]
        rfl
      | exit id => exact hp.elim
      | goto t => exact hp.elim
      | panic ch => exact hp.elim
      | outgrown => exact hp.elim
end Go.Proofs.YtmimmnjdgpdjlaaGreatDoor
