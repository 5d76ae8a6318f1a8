/- A range over a text's tokens. -/
import Derived.Test.YtmkfoknhjjgipaaGreatDoorU
set_option linter.unusedSimpArgs false
set_option linter.unusedVariables false
namespace Go.Proofs.YtmkfoknhjjgipaaGreatDoor
open Go.RowKit Go.Lib Go.Shelf

/-- what an iterator over a text's tokens goes over -/
def toksOf (s : ByteArray) : List Tp := if 65536 < s.size then [] else (scanA s).1
/-- the contract of an iterator over a text's tokens -/
def TokIter (n : Nat) (gf : Nat) (lb : Array Value) (s : ByteArray) (w : World) : Prop :=
  ∀ (l : Nat) (J : (Nat → Prop) → List Tp → World → Prop) (Jx : List Tp → World → Prop) (W : World) (Z0 : Nat → Prop), Below w.heap.size w W → TellOk J →
    (∀ Z pre t rest W1, J Z pre W1 → pre ++ t :: rest = (scanA s).1 → YieldAt Fence.wide (n - 1) Tryz.prog l #[.int .i64 t.a, tpV t] W1 (TellPost J Jx Z (pre ++ [t]) W1)) → J Z0 [] W →
    CallsIn Fence.wide n Tryz.prog gf (#[.func (.yield l) #[] #[]] ++ lb) W fun e W' => (∃ v, e = .returned v) ∧ ((∃ Z, J Z (toksOf s) W') ∨ (∃ pre rest, pre ≠ [] ∧ pre ++ rest = (scanA s).1 ∧ Jx pre W'))
theorem yieldAt_any {n m : Nat} {P : Program} {l : Nat} {args : Array Value} {W : World} {R : Ending → World → Prop} (h : YieldAt Fence.wide n P l args W R) : YieldAt Fence.wide m P l args W R := by
  obtain ⟨fn, tmps, assign, body, h1, h2⟩ := h
  exact ⟨fn, tmps, assign, body, h1, h2.1, fun c cs _ => h2.2 c cs (room_wide _)⟩
/-- what was made since a mark stays -/
structure KeepF (B : Nat) (W W' : World) : Prop where
  size : W.heap.size ≤ W'.heap.size
  block : ∀ k, B ≤ k → k < W.heap.size → W'.heap[k]? = W.heap[k]?
theorem KeepF.refl (B : Nat) (W : World) : KeepF B W W := ⟨Nat.le_refl _, fun _ _ _ => rfl⟩
theorem KeepF.trans {B : Nat} {W W' W'' : World} (h : KeepF B W W') (k : KeepF B W' W'') : KeepF B W W'' :=
  ⟨Nat.le_trans h.size k.size, fun i hi hl => (k.block i hi (Nat.lt_of_lt_of_le hl h.size)).trans (h.block i hi hl)⟩
theorem KeepF.of_below {B : Nat} {W W' : World} (h : Below W.heap.size W W') : KeepF B W W' := ⟨h.size, fun k _ hk => h.block k hk⟩
/-- how a round's body is left -/
def roundEndT (B : Nat) (I Ix : List Tp → World → Prop) (xs : List Tp) (W : World) : Exit → Act → World → Prop
  | .normal, _, W' => KeepF B W W' ∧ I xs W'
  | .ret, _, W' => KeepF B W W' ∧ Ix xs W'
  | _, _, _ => False
theorem below_putObj {B l : Nat} {W : World} (hl : B ≤ l) (o : Obj) : Below B W (W.putObj l o) :=
  ⟨rfl, rfl, rfl, by simp [World.putObj], fun k hk => World.putObj_heap_other (by omega)⟩

theorem wpIn_range_toks {n : Nat} {g : Operand} {p q : Tmp} {assign body : Code} {Q : Exit → Act → World → Prop} {a : Act} {w : World} {gf : Nat} {lb : Array Value} {s : ByteArray}
    (h1 : 1 ≤ n) (hg : a.eval g = .func (.func gf) #[] lb) (eg : ∀ args w, (callFunc gf args).run Tryz.prog w = .ok (.enter gf args) w)
    (hiter : TokIter (n - 1) gf lb s w) (I Ix : List Tp → World → Prop)
    (hI : ∀ xs W W', I xs W → Below w.heap.size W W' → I xs W') (hIx : ∀ xs W W', Ix xs W → Below w.heap.size W W' → Ix xs W') (hE : ∀ xs W, I xs W → Env W) (h0 : I [] w)
    (Ax : Tp → Act → World → Prop) (hAx : ∀ t a' W l o o', Ax t a' W → W.heap[l]? = some o → o.isCells = false → Ax t a' (W.putObj l o'))
    (hassign : ∀ (l : Nat) (t : Tp) (W : World) (K : Act → World → Prop), w.heap.size ≤ W.heap.size → (∀ a' W', Below W.heap.size W W' → Ax t a' W' → K a' W') →
      assign.wpIn (Fence.wide.inRound l) (n - 1 - 1) Tryz.prog (Exit.then K (fun _ _ _ => False)) { tmps := (a.tmps.setIfInBounds p (.int .i64 t.a)).setIfInBounds q (tpV t), defers := [] } W)
    (hbody : ∀ (l : Nat) (pre : List Tp) (t : Tp) (rest : List Tp) (a' : Act) (W : World), w.heap.size ≤ l → w.heap.size + 2 ≤ W.heap.size → I pre W → Ax t a' W → pre ++ t :: rest = (scanA s).1 → body.wpIn (Fence.wide.inRound l) (n - 1 - 1) Tryz.prog (roundEndT w.heap.size I Ix (pre ++ [t]) W) a' W)
    (hdone : ∀ (D : Nat) (W : World), w.heap.size ≤ D → I (toksOf s) W → W.heap[D]? = some (.deferred (some [])) → Q .normal { a with defers := { target := .collected D, args := #[] } :: a.defers } W)
    (hstop : ∀ (D : Nat) (pre rest : List Tp) (W : World), w.heap.size ≤ D → pre ≠ [] → pre ++ rest = (scanA s).1 → Ix pre W → W.heap[D]? = some (.deferred (some [])) → Code.ret.wpIn Fence.wide n Tryz.prog Q { a with defers := { target := .collected D, args := #[] } :: a.defers } W) :
    (Code.rangeFunc g #[p, q] assign body).wpIn Fence.wide n Tryz.prog Q a w := by
  refine wpIn_rangeFunc fun fn hfn => ?_
  have hlp : ∃ R : LoopState → Option Code → Loop, ∀ st pe, R st pe = { state := st, pending := pe, fn := fn, tmps := a.tmps, params := #[p, q], assign := assign, body := body, defers := w.heap.size } := ⟨_, fun _ _ => rfl⟩
  obtain ⟨R, hR⟩ := hlp
  have hS1 : ((w.alloc (.deferred (some []))).alloc (.loop (R .ready none))).heap.size = w.heap.size + 2 := by simp
  have hD1 : ((w.alloc (.deferred (some []))).alloc (.loop (R .ready none))).heap[w.heap.size]? = some (.deferred (some [])) :=
    (heap_alloc_old _ _ (by simp)).trans (heap_alloc_new w _)
  have hL1 : ((w.alloc (.deferred (some []))).alloc (.loop (R .ready none))).heap[w.heap.size + 1]? = some (.loop (R .ready none)) := by
    have h := heap_alloc_new (w.alloc (.deferred (some []))) (.loop (R .ready none))
    have e : (w.alloc (.deferred (some []))).heap.size = w.heap.size + 1 := by simp
    rwa [e] at h
  have hB1 : Below w.heap.size w ((w.alloc (.deferred (some []))).alloc (.loop (R .ready none))) := ((Below.refl _ w).alloc (Nat.le_refl _) _).alloc (by simp) _
  have hI1 : I [] ((w.alloc (.deferred (some []))).alloc (.loop (R .ready none))) := hI _ _ _ h0 hB1
  generalize hW1 : (w.alloc (.deferred (some []))).alloc (.loop (R .ready none)) = W1 at hS1 hD1 hL1 hI1 hB1
  refine ⟨w.heap.size + 1, [{ target := .collected w.heap.size, args := #[] }], W1, { target := .fn (.func gf) lb, args := #[.func (.yield (w.heap.size + 1)) #[] #[]] }, W1, gf, #[.func (.yield (w.heap.size + 1)) #[] #[]] ++ lb, W1, ?_, ?_, ?_, ?_, fun _ => h1, ?_⟩
  · rw [← hW1, hR]
    exact run_enterLoop_outer _ _ _ _ _
  · simp only [resolve, hg]
    simp [go_sem]
  · intro f' _
    exact trivial
  · simp [invoke, go_sem, eg]
  · have hcall := hiter (w.heap.size + 1)
      (fun Z pre W => I pre W ∧ W.heap[w.heap.size + 1]? = some (.loop (R .ready none)) ∧ W.heap[w.heap.size]? = some (.deferred (some [])) ∧ ∀ k, Z k → w.heap.size + 2 ≤ k)
      (fun pre W => Ix pre W ∧ W.heap[w.heap.size + 1]? = some (.loop (R .done (some .ret))) ∧ W.heap[w.heap.size]? = some (.deferred (some []))) W1 (fun _ => False) hB1
      ⟨?grow, fun h => hE _ _ h.1⟩ ?round ⟨hI1, hL1, hD1, fun k hk => hk.elim⟩
    · refine hcall.mono ?_
      rintro e W2 ⟨⟨v, rfl⟩, ⟨Z, hi, hl, hd, _⟩ | ⟨pre, rest, hp0, hpre, hi, hl, hd⟩⟩
      · have hrun := run_endLoop (P := Tryz.prog) hl (by rw [hR]; simp)
        rw [show (R .ready none).pending = none by rw [hR]] at hrun
        exact ⟨none, _, hrun, hdone _ _ (Nat.le_refl _) (hI _ _ _ hi (below_putObj (by omega) _)) ((World.putObj_heap_other (by omega)).trans hd)⟩
      · have hrun := run_endLoop (P := Tryz.prog) hl (by rw [hR]; simp)
        rw [show (R .done (some .ret)).pending = some .ret by rw [hR]] at hrun
        exact ⟨some .ret, _, hrun, hstop _ pre rest _ (Nat.le_refl _) hp0 hpre (hIx _ _ _ hi (below_putObj (by omega) _)) ((World.putObj_heap_other (by omega)).trans hd)⟩
    case grow =>
      rintro Z pre W W' ⟨hi, hl, hd, hz⟩ he
      have hlt := blk_lt hl
      refine ⟨hI _ _ _ hi ⟨he.os, he.tape, he.output, he.size, fun k hk => he.block k (by omega) fun hk2 => ?_⟩, (he.block _ hlt fun hk2 => ?_).trans hl, (he.block _ (by omega) fun hk2 => ?_).trans hd, ?_⟩
      · have := hz k hk2; omega
      · have := hz _ hk2; omega
      · have := hz _ hk2; omega
      · rintro k (hk2 | hk2)
        · exact hz k hk2
        · omega
    case round =>
      rintro Z pre t rest W ⟨hi, hl, hd, hz⟩ hpre
      have hy := run_yield (P := Tryz.prog) (args := #[.int .i64 t.a, tpV t]) hl (by rw [hR]; rfl)
      rw [hR] at hy
      have hzip : ∀ (f : Array Value → Tmp × Value → Array Value), (#[p, q].zip #[Value.int .i64 t.a, tpV t]).foldl f a.tmps = f (f a.tmps (p, .int .i64 t.a)) (q, tpV t) := fun f => by simp
      dsimp only at hy
      rw [hzip] at hy
      refine ⟨fn, _, assign, body, hy, roundIn_of_wpIn hfn ?_⟩
      have hll : w.heap.size + 1 < W.heap.size := blk_lt hl
      refine hassign (w.heap.size + 1) t W _ (by omega) fun a' Wa hba hax => ?_
      have hla := (hba.block _ hll).trans hl
      have hda := (hba.block _ (by omega)).trans hd
      have hlla := blk_lt hla
      have hbaw : Below w.heap.size W Wa := hba.mono (by omega)
      have hbeg := run_beginRound (P := Tryz.prog) hla (by rw [hR])
      refine ⟨_, hbeg, ?_⟩
      have hl2 : (Wa.putObj (w.heap.size + 1) (.loop { R .ready none with state := .busy })).heap[w.heap.size + 1]? = some (.loop { R .ready none with state := .busy }) := World.putObj_heap_same hlla
      have hd2 : (Wa.putObj (w.heap.size + 1) (.loop { R .ready none with state := .busy })).heap[w.heap.size]? = some (.deferred (some [])) := (World.putObj_heap_other (by omega)).trans hda
      have hsz2 : (Wa.putObj (w.heap.size + 1) (.loop { R .ready none with state := .busy })).heap.size = Wa.heap.size := by simp [World.putObj]
      refine wpIn_mono (hbody (w.heap.size + 1) pre t rest a' _ (by omega) (by rw [hsz2]; omega) (hI _ _ _ hi (hbaw.trans (below_putObj (by omega) _))) (hAx _ _ _ _ _ _ hax hla rfl) hpre) fun e a3 W3 hp => ?_
      have hsz := hba.size
      have hka : w.heap.size + 1 < (Wa.putObj (w.heap.size + 1) (.loop { R .ready none with state := .busy })).heap.size := by rw [hsz2]; omega
      have hkw : W.heap.size ≤ (Wa.putObj (w.heap.size + 1) (.loop { R .ready none with state := .busy })).heap.size := by rw [hsz2]; omega
      cases e with
      | normal =>
        obtain ⟨hk, hi3⟩ := hp
        have hl3 := (hk.block _ (by omega) hka).trans hl2
        have hd3 := (hk.block _ (Nat.le_refl _) (Nat.lt_of_succ_lt hka)).trans hd2
        have hend := run_endRound (P := Tryz.prog) none hl3
        refine ⟨_, _, hend, .inl ⟨rfl, ⟨hI _ _ _ hi3 (below_putObj (by omega) _), ?_, (World.putObj_heap_other (by omega)).trans hd3, hz⟩, fun k hk2 hk3 => ?_⟩⟩
        · rw [World.putObj_heap_same (blk_lt hl3)]
          simp only [hR]
          rfl
        · have := hz k hk2
          rw [World.putObj_heap_other (by omega), hk.block k (by omega) (Nat.lt_of_lt_of_le hk3 hkw), World.putObj_heap_other (by omega), hba.block k hk3]
      | ret =>
        obtain ⟨hk, hi3⟩ := hp
        have hl3 := (hk.block _ (by omega) hka).trans hl2
        have hd3 := (hk.block _ (Nat.le_refl _) (Nat.lt_of_succ_lt hka)).trans hd2
        have hend := run_endRound (P := Tryz.prog) (some .ret) hl3
        refine ⟨_, _, hend, .inr ⟨rfl, hIx _ _ _ hi3 (below_putObj (by omega) _), ?_, (World.putObj_heap_other (by omega)).trans hd3⟩⟩
        rw [World.putObj_heap_same (blk_lt hl3)]
        simp only [hR]
        rfl
      | exit id => exact hp.elim
      | goto t => exact hp.elim
      | panic ch => exact hp.elim
      | outgrown => exact hp.elim
end Go.Proofs.YtmkfoknhjjgipaaGreatDoor
