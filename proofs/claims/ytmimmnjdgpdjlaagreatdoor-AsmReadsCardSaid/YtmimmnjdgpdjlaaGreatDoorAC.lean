/- Code as it lies; the iterator over its labels. A range over code's labels. Code that may be: open, May. -/
import Derived.Test.YtmimmnjdgpdjlaaGreatDoorZ3
import Derived.RangeFuncNested
import Derived.RangeFuncBound
import Derived.RangeFuncCalls
import Derived.RangeFuncLeaves
import Derived.Shelf.Abstract
import Derived.Shelf.RegionOpen
import Derived.OwnWalkIn
import Derived.TacticsInMore
import Derived.LoopNIn
import Derived.LoopIn
import Derived.ControlIn
import Derived.Sort.LoopGhostIn
set_option linter.unusedSimpArgs false
set_option linter.unusedVariables false
namespace Go.Proofs.YtmimmnjdgpdjlaaGreatDoor
open Go.RowKit Go.Lib Go.Shelf

/-- rows of k cells lie in a slice -/
def CellsAt {α : Type} (k : Nat) (cells : α → List Value) (w : World) (L : List α) (A : Option Addr) : Prop :=
  ∃ blk off : Nat, (0 < L.length → A = some ⟨blk, off, none⟩) ∧ ∀ (i : Nat) (x : α), L[i]? = some x → ∀ j, j < k → w.cell? ⟨blk, off + i * k + j, none⟩ = (cells x)[j]?
theorem CellsAt.keep {α : Type} {k : Nat} {cells : α → List Value} {w w' : World} {L : List α} {A : Option Addr} (hl : ∀ x, (cells x).length = k) (h : CellsAt k cells w L A) (hb : Below w.heap.size w w') : CellsAt k cells w' L A := by
  obtain ⟨blk, off, h1, h2⟩ := h
  refine ⟨blk, off, h1, fun i x hx j hj => ?_⟩
  have h3 := h2 i x hx j hj
  have e := List.getElem?_eq_getElem (show j < (cells x).length by rw [hl]; exact hj)
  rw [e] at h3 ⊢
  exact (hb.cell (p := ⟨blk, off + i * k + j, none⟩) (cell_some_lt h3)).trans h3
theorem CellsAt.nil {α : Type} {k : Nat} {cells : α → List Value} {w : World} (A : Option Addr) : CellsAt k cells w [] A := ⟨0, 0, fun h => absurd h (by simp), fun i x hx => by simp at hx⟩
theorem CellsAt.at_ {α : Type} {k : Nat} {cells : α → List Value} {w : World} {L : List α} {A : Option Addr} (h : CellsAt k cells w L A) {i : Nat} (hi : i < L.length) :
    ∃ blk off x, A = some ⟨blk, off, none⟩ ∧ L[i]? = some x ∧ ∀ j, j < k → w.cell? ⟨blk, off + i * k + j, none⟩ = (cells x)[j]? := by
  obtain ⟨blk, off, h1, h2⟩ := h
  have e := List.getElem?_eq_getElem hi
  exact ⟨blk, off, _, h1 (by omega), e, h2 i _ e⟩
def inCells (i : In) : List Value := [.int .i64 i.op, .int .i64 i.bn, .int .i64 i.sh, .int .i64 i.cd, .int .i64 i.ds, .int .i64 i.sr, .int .u64 (i.im : Int), .int .i64 i.ba, .int .i64 i.ix, .bool i.hb, .bool i.hi, .int .i64 i.dp, .int .i64 i.lb]
theorem inCells_len (i : In) : (inCells i).length = 13 := rfl
/-- code lies in a slice -/
abbrev InsAt (w : World) (L : List In) (A : Option Addr) : Prop := CellsAt 13 inCells w L A
theorem InsAt.keep {w w' : World} {L : List In} {A : Option Addr} (h : InsAt w L A) (hb : Below w.heap.size w w') : InsAt w' L A := CellsAt.keep inCells_len h hb
theorem labels121_any (A : Option Addr) (n c : Nat) (w : World) : Calls Tryz.prog 121 #[.slice A n c] w fun e w' => e = .returned (.func (.func 149) #[] #[.pointer (some ⟨w.heap.size, 0, none⟩)]) ∧ w' = w.alloc (.cells #[.slice A n c] 42) := by
  go_enter Tryz.func121, Tryz.ntmps121
  go_wp2
  go_ret
  exact ⟨rfl, rfl⟩
theorem yieldAt_any {n m : Nat} {P : Program} {l : Nat} {args : Array Value} {W : World} {R : Ending → World → Prop} (h : YieldAt Fence.wide n P l args W R) : YieldAt Fence.wide m P l args W R := by
  obtain ⟨fn, tmps, assign, body, h1, h2⟩ := h
  exact ⟨fn, tmps, assign, body, h1, h2.1, fun c cs _ => h2.2 c cs (room_wide _)⟩
/-- what a label's yield leaves -/
def LabPost (J : Nat → World → Prop) (Jx : World → Prop) (k : Nat) (e : Ending) (W' : World) : Prop := (e = .returned (.bool true) ∧ J (k + 1) W') ∨ (e = .returned (.bool false) ∧ Jx W')
structure LabOk (w0 : World) (L : List In) (J : Nat → World → Prop) : Prop where
  bel : ∀ {k W}, J k W → Below w0.heap.size w0 W
  grow : ∀ {k W W'}, J k W → Below W.heap.size W W' → J k W'
  skip : ∀ {k i W}, J k W → L[k]? = some i → i.op ≠ 19 → J (k + 1) W
attribute [local go_sem] Oper.semAt_some
set_option maxRecDepth 100000 in
set_option maxHeartbeats 8000000 in
theorem iter149_any (m : Nat) (hm : 1 ≤ m) (w0 : World) (L : List In) (A : Option Addr) (c : Nat) (hL : InsAt w0 L A) (hlen : L.length ≤ 2000000) (b : Nat) (W : World) (hbx : W.heap[b]? = some (.cells #[.slice A L.length c] 42 (0, 0))) (l : Nat)
    (J : Nat → World → Prop) (Jx : World → Prop) (hJ : LabOk w0 L J) (hY : ∀ k i W1, J k W1 → L[k]? = some i → i.op = 19 → YieldAt Fence.wide (m - 1) Tryz.prog l #[.int .i64 i.lb, .int .i64 (k : Int)] W1 (LabPost J Jx k)) (hJ0 : J 0 W) :
    CallsIn Fence.wide m Tryz.prog 149 #[.func (.yield l) #[] #[], .pointer (some ⟨b, 0, none⟩)] W fun e W' => (∃ v, e = .returned v) ∧ (J L.length W' ∨ Jx W') := by
  obtain ⟨x0, xf⟩ := (⟨by rw [blk_cell hbx]; rfl, fun k => by simp [World.frozen?, hbx]⟩ : W.cell? ⟨b, 0, none⟩ = some (.slice A L.length c) ∧ ∀ k, W.frozen? ⟨b, k, none⟩ = false)
  obtain ⟨n, hnn⟩ : ∃ n, L.length = n := ⟨_, rfl⟩
  rw [hnn] at hlen x0 ⊢
  have hn' := Lib.hid hnn
  have hL := Lib.hid hL
  have hJ := Lib.hid hJ
  have hY := Lib.hid hY
  have hJ0 := Lib.hid hJ0
  have hm := Lib.hid hm
  clear hnn hbx
  refine callsIn_of_wp Tryz.func149 rfl trivial ?_ rfl
  simp only [Tryz.ntmps149, List.size_toArray, List.length_cons, List.length_nil, Nat.reduceAdd, Nat.reduceSub, Array.replicate_succ, Array.replicate_zero, List.push_toArray, List.append_toArray, List.nil_append, List.cons_append]
  gi_wp2_with fail
  clear x0 xf
  gi_loopg [7] n (fun g s7 wr => ∃ k : Nat, k + g = n ∧ s7 = .int .i64 k ∧ J k wr)
  case atStart => exact ⟨0, by omega, rfl, hJ0.out⟩
  case round =>
    obtain ⟨k, hkg, rfl, hJr⟩ := hrel
    have hJr := Lib.hid hJr
    cases gk with
    | zero =>
      have e0 : ¬ (k : Int) < (n : Int) := by omega
      have hfin := Lib.hid (show k = n by omega)
      gi_wp2
      refine Go.bodyPost_end (results_none rfl _ _ _) rfl ?_
      exact ⟨⟨_, rfl⟩, .inl (by rw [← hfin.out]; exact hJr.out)⟩
    | succ g2 =>
      have e0 : (k : Int) < (n : Int) := by omega
      have hbw := Lib.hid (hJ.out.bel hJr.out)
      obtain ⟨blk, off, i, rfl, hx, hcx⟩ := (hL.out).at_ (i := k) (by rw [hn'.out]; omega)
      have hYk := fun W1 h => hY.out k i W1 h hx
      have hsk := fun W1 h => hJ.out.skip (W := W1) h hx
      obtain ⟨op, bn, sh, cd, ds, sr, im, ba, ix, hb, hi, dp, lb⟩ := i
      dsimp only at hYk hsk
      have v0 : w0.cell? ⟨blk, off + k * 13, none⟩ = some (.int .i64 op) := hcx 0 (by omega)
      have v0 := (hbw.out.cell (p := ⟨blk, off + k * 13, none⟩) (cell_some_lt v0)).trans v0
      have v1 : w0.cell? ⟨blk, off + k * 13 + 1, none⟩ = some (.int .i64 bn) := hcx 1 (by omega)
      have v1 := (hbw.out.cell (p := ⟨blk, off + k * 13 + 1, none⟩) (cell_some_lt v1)).trans v1
      have v2 : w0.cell? ⟨blk, off + k * 13 + 2, none⟩ = some (.int .i64 sh) := hcx 2 (by omega)
      have v2 := (hbw.out.cell (p := ⟨blk, off + k * 13 + 2, none⟩) (cell_some_lt v2)).trans v2
      have v3 : w0.cell? ⟨blk, off + k * 13 + 3, none⟩ = some (.int .i64 cd) := hcx 3 (by omega)
      have v3 := (hbw.out.cell (p := ⟨blk, off + k * 13 + 3, none⟩) (cell_some_lt v3)).trans v3
      have v4 : w0.cell? ⟨blk, off + k * 13 + 4, none⟩ = some (.int .i64 ds) := hcx 4 (by omega)
      have v4 := (hbw.out.cell (p := ⟨blk, off + k * 13 + 4, none⟩) (cell_some_lt v4)).trans v4
      have v5 : w0.cell? ⟨blk, off + k * 13 + 5, none⟩ = some (.int .i64 sr) := hcx 5 (by omega)
      have v5 := (hbw.out.cell (p := ⟨blk, off + k * 13 + 5, none⟩) (cell_some_lt v5)).trans v5
      have v6 : w0.cell? ⟨blk, off + k * 13 + 6, none⟩ = some (.int .u64 (im : Int)) := hcx 6 (by omega)
      have v6 := (hbw.out.cell (p := ⟨blk, off + k * 13 + 6, none⟩) (cell_some_lt v6)).trans v6
      have v7 : w0.cell? ⟨blk, off + k * 13 + 7, none⟩ = some (.int .i64 ba) := hcx 7 (by omega)
      have v7 := (hbw.out.cell (p := ⟨blk, off + k * 13 + 7, none⟩) (cell_some_lt v7)).trans v7
      have v8 : w0.cell? ⟨blk, off + k * 13 + 8, none⟩ = some (.int .i64 ix) := hcx 8 (by omega)
      have v8 := (hbw.out.cell (p := ⟨blk, off + k * 13 + 8, none⟩) (cell_some_lt v8)).trans v8
      have v9 : w0.cell? ⟨blk, off + k * 13 + 9, none⟩ = some (.bool hb) := hcx 9 (by omega)
      have v9 := (hbw.out.cell (p := ⟨blk, off + k * 13 + 9, none⟩) (cell_some_lt v9)).trans v9
      have v10 : w0.cell? ⟨blk, off + k * 13 + 10, none⟩ = some (.bool hi) := hcx 10 (by omega)
      have v10 := (hbw.out.cell (p := ⟨blk, off + k * 13 + 10, none⟩) (cell_some_lt v10)).trans v10
      have v11 : w0.cell? ⟨blk, off + k * 13 + 11, none⟩ = some (.int .i64 dp) := hcx 11 (by omega)
      have v11 := (hbw.out.cell (p := ⟨blk, off + k * 13 + 11, none⟩) (cell_some_lt v11)).trans v11
      have v12 : w0.cell? ⟨blk, off + k * 13 + 12, none⟩ = some (.int .i64 lb) := hcx 12 (by omega)
      have v12 := (hbw.out.cell (p := ⟨blk, off + k * 13 + 12, none⟩) (cell_some_lt v12)).trans v12
      obtain ⟨w1, hw1⟩ : ∃ w1, wr.alloc (.cells #[.int .i64 op, .int .i64 bn, .int .i64 sh, .int .i64 cd, .int .i64 ds, .int .i64 sr, .int .u64 (im : Int), .int .i64 ba, .int .i64 ix, .bool hb, .bool hi, .int .i64 dp, .int .i64 lb] 32) = w1 := ⟨_, rfl⟩
      have hb1 : Below wr.heap.size wr w1 := by rw [← hw1]; exact (Below.refl _ wr).alloc (Nat.le_refl _) _
      have hX : w1.heap[wr.heap.size]? = some (.cells #[.int .i64 op, .int .i64 bn, .int .i64 sh, .int .i64 cd, .int .i64 ds, .int .i64 sr, .int .u64 (im : Int), .int .i64 ba, .int .i64 ix, .bool hb, .bool hi, .int .i64 dp, .int .i64 lb] 32 (0, 0)) := by rw [← hw1]; exact heap_alloc_new _ _
      obtain ⟨q0, q1, q2, q3, q4, q5, q6, q7, q8, q9, q10, q11, q12⟩ := box13 hX
      have hJ1 := hJ.out.grow hJr.out hb1
      have hYk := hYk _ hJ1
      have hsk := hsk _ hJ1
      have hw1' := Lib.hid hw1
      clear hw1 hb1 hcx hx hJ1 hX
      by_cases e19 : op = 19
      · subst e19
        obtain ⟨fn, tmps, assign, body, hy, hRo⟩ := hYk rfl
        have hRo := Lib.hid hRo
        clear hsk hYk
        obtain rfl := hw1'.out
        gi_wp2_with fail
        refine hRo.out.mono ?_
        rintro e w2 (⟨rfl, hJ2⟩ | ⟨rfl, hJ2⟩)
        · have hJ2 := Lib.hid hJ2
          gi_wp2
          gi_roundg g2
          case measure => omega
          case rel => exact ⟨k + 1, by omega, by go_num, hJ2.out⟩
        · have hJ2 := Lib.hid hJ2
          gi_wp2
          refine bodyPost_ret (results_none rfl _ _ _) rfl ?_
          exact ⟨⟨_, rfl⟩, .inr hJ2.out⟩
      · have hsk := Lib.hid (hsk e19)
        clear hYk
        have hb19 : (op == 19) = false := beq_no e19
        obtain rfl := hw1'.out
        gi_wp2_with fail
        refine ⟨(fun _ h => by cases h), ?_⟩
        gi_wp2
        gi_roundg g2
        case measure => omega
        case rel => exact ⟨k + 1, by omega, by go_num, hsk.out⟩
end Go.Proofs.YtmimmnjdgpdjlaaGreatDoor
namespace Go.Proofs.YtmimmnjdgpdjlaaGreatDoor
open Go.RowKit Go.Lib Go.Shelf

/-- what was made since a mark stays -/
structure KeepF (B : Nat) (W W' : World) : Prop where
  size : W.heap.size ≤ W'.heap.size
  block : ∀ k, B ≤ k → k < W.heap.size → W'.heap[k]? = W.heap[k]?
theorem KeepF.refl (B : Nat) (W : World) : KeepF B W W := ⟨Nat.le_refl _, fun _ _ _ => rfl⟩
theorem KeepF.trans {B : Nat} {W W' W'' : World} (h : KeepF B W W') (k : KeepF B W' W'') : KeepF B W W'' :=
  ⟨Nat.le_trans h.size k.size, fun i hi hl => (k.block i hi (Nat.lt_of_lt_of_le hl h.size)).trans (h.block i hi hl)⟩
theorem KeepF.of_below {B : Nat} {W W' : World} (h : Below W.heap.size W W') : KeepF B W W' := ⟨h.size, fun k _ hk => h.block k hk⟩
theorem below_putObj {B l : Nat} {W : World} (hl : B ≤ l) (o : Obj) : Below B W (W.putObj l o) :=
  ⟨rfl, rfl, rfl, by simp [World.putObj], fun k hk => World.putObj_heap_other (by omega)⟩
/-- how a round's body is left -/
def roundE (B : Nat) (I Ix : World → Prop) (W : World) : Exit → Act → World → Prop
  | .normal, _, W' => KeepF B W W' ∧ I W'
  | .ret, _, W' => KeepF B W W' ∧ Ix W'
  | _, _, _ => False
set_option maxHeartbeats 2000000 in
theorem wpIn_range_labs {g : Operand} {p q : Tmp} {assign body : Code} {Q : Exit → Act → World → Prop} {a : Act} {w : World} (w0 : World) (L : List In) (A : Option Addr) (c b : Nat) (hL : InsAt w0 L A) (hlen : L.length ≤ 2000000)
    (hbx : w.heap[b]? = some (.cells #[.slice A L.length c] 42 (0, 0)))
    (hg : a.eval g = .func (.func 149) #[] #[.pointer (some ⟨b, 0, none⟩)]) (I : Nat → World → Prop) (Ix : World → Prop)
    (hI : ∀ k W W', I k W → Below w.heap.size W W' → I k W') (hIx : ∀ W W', Ix W → Below w.heap.size W W' → Ix W') (hIb : ∀ k W, I k W → Below w0.heap.size w0 W) (hIs : ∀ k i W, I k W → L[k]? = some i → i.op ≠ 19 → I (k + 1) W) (h0 : I 0 w) (T : Int → Nat → Array Value)
    (hassign : ∀ (l : Nat) (i : Int) (k : Nat) (W : World) (K : Act → World → Prop), K { tmps := T i k, defers := [] } W →
      assign.wpIn (Fence.wide.inRound l) 6 Tryz.prog (Exit.then K (fun _ _ _ => False)) { tmps := (a.tmps.setIfInBounds p (.int .i64 i)).setIfInBounds q (.int .i64 (k : Int)), defers := [] } W)
    (hbody : ∀ (l k : Nat) (i : In) (W : World), w.heap.size ≤ l → w.heap.size + 2 ≤ W.heap.size → I k W → L[k]? = some i → i.op = 19 → body.wpIn (Fence.wide.inRound l) 6 Tryz.prog (roundE w.heap.size (I (k + 1)) Ix W) { tmps := T i.lb k, defers := [] } W)
    (hdone : ∀ (D : Nat) (W : World), w.heap.size ≤ D → I L.length W → W.heap[D]? = some (.deferred (some [])) → Q .normal { a with defers := { target := .collected D, args := #[] } :: a.defers } W)
    (hstop : ∀ (D : Nat) (W : World), w.heap.size ≤ D → Ix W → W.heap[D]? = some (.deferred (some [])) → Code.ret.wpIn Fence.wide 8 Tryz.prog Q { a with defers := { target := .collected D, args := #[] } :: a.defers } W) :
    (Code.rangeFunc g #[p, q] assign body).wpIn Fence.wide 8 Tryz.prog Q a w := by
  refine wpIn_rangeFunc fun fn hfn => ?_
  have hlp : ∃ R : LoopState → Option Code → Loop, ∀ st pe, R st pe = { state := st, pending := pe, fn := fn, tmps := a.tmps, params := #[p, q], assign := assign, body := body, defers := w.heap.size } := ⟨_, fun _ _ => rfl⟩
  obtain ⟨R, hR⟩ := hlp
  have hS1 : ((w.alloc (.deferred (some []))).alloc (.loop (R .ready none))).heap.size = w.heap.size + 2 := by simp
  have hD1 : ((w.alloc (.deferred (some []))).alloc (.loop (R .ready none))).heap[w.heap.size]? = some (.deferred (some [])) :=
    (heap_alloc_old _ _ (by simp)).trans (heap_alloc_new w _)
  have hL1 : ((w.alloc (.deferred (some []))).alloc (.loop (R .ready none))).heap[w.heap.size + 1]? = some (.loop (R .ready none)) := by
    have h := heap_alloc_new (w.alloc (.deferred (some []))) (.loop (R .ready none))
    have e : (w.alloc (.deferred (some []))).heap.size = w.heap.size + 1 := by simp
    rwa [e] at h
  have hB1 : Below w.heap.size w ((w.alloc (.deferred (some []))).alloc (.loop (R .ready none))) := ((Below.refl _ w).alloc (Nat.le_refl _) _).alloc (by simp) _
  have hI1 : I 0 ((w.alloc (.deferred (some []))).alloc (.loop (R .ready none))) := hI _ _ _ h0 hB1
  generalize hW1 : (w.alloc (.deferred (some []))).alloc (.loop (R .ready none)) = W1 at hS1 hD1 hL1 hI1 hB1
  refine ⟨w.heap.size + 1, [{ target := .collected w.heap.size, args := #[] }], W1, { target := .fn (.func 149) #[.pointer (some ⟨b, 0, none⟩)], args := #[.func (.yield (w.heap.size + 1)) #[] #[]] }, W1, 149, #[.func (.yield (w.heap.size + 1)) #[] #[]] ++ #[.pointer (some ⟨b, 0, none⟩)], W1, ?_, ?_, ?_, ?_, fun _ => by decide, ?_⟩
  · rw [← hW1, hR]
    exact run_enterLoop_outer _ _ _ _ _
  · simp only [resolve, hg]
    simp [go_sem]
  · intro f' _
    exact trivial
  · simp [invoke, go_sem, enters_of Tryz.func149 (by kernel_rfl) rfl]
  · have hcall := iter149_any 7 (by decide) w0 L A c hL hlen b W1 ((hB1.block _ (blk_lt hbx)).trans hbx) (w.heap.size + 1)
      (fun k W => I k W ∧ W.heap[w.heap.size + 1]? = some (.loop (R .ready none)) ∧ W.heap[w.heap.size]? = some (.deferred (some [])))
      (fun W => Ix W ∧ W.heap[w.heap.size + 1]? = some (.loop (R .done (some .ret))) ∧ W.heap[w.heap.size]? = some (.deferred (some [])))
      ⟨fun h => hIb _ _ h.1, ?grow, fun h hx h19 => ⟨hIs _ _ _ h.1 hx h19, h.2⟩⟩ ?round ⟨hI1, hL1, hD1⟩
    · refine hcall.mono ?_
      rintro e W2 ⟨⟨v, rfl⟩, ⟨hi, hl, hd⟩ | ⟨hi, hl, hd⟩⟩
      · have hrun := run_endLoop (P := Tryz.prog) hl (by rw [hR]; simp)
        rw [show (R .ready none).pending = none by rw [hR]] at hrun
        exact ⟨none, _, hrun, hdone _ _ (Nat.le_refl _) (hI _ _ _ hi (below_putObj (by omega) _)) ((World.putObj_heap_other (by omega)).trans hd)⟩
      · have hrun := run_endLoop (P := Tryz.prog) hl (by rw [hR]; simp)
        rw [show (R .done (some .ret)).pending = some .ret by rw [hR]] at hrun
        exact ⟨some .ret, _, hrun, hstop _ _ (Nat.le_refl _) (hIx _ _ hi (below_putObj (by omega) _)) ((World.putObj_heap_other (by omega)).trans hd)⟩
    case grow =>
      rintro k W W' ⟨hi, hl, hd⟩ hb
      have := blk_lt hd
      exact ⟨hI _ _ _ hi (hb.mono (by omega)), (hb.block _ (blk_lt hl)).trans hl, (hb.block _ (blk_lt hd)).trans hd⟩
    case round =>
      rintro k i W ⟨hi, hl, hd⟩ hx h19
      have hy := run_yield (P := Tryz.prog) (args := #[.int .i64 i.lb, .int .i64 (k : Int)]) hl (by rw [hR]; rfl)
      rw [hR] at hy
      have hzip : ∀ (f : Array Value → Tmp × Value → Array Value), (#[p, q].zip #[Value.int .i64 i.lb, .int .i64 (k : Int)]).foldl f a.tmps = f (f a.tmps (p, .int .i64 i.lb)) (q, .int .i64 (k : Int)) := fun f => by simp
      dsimp only at hy
      rw [hzip] at hy
      refine ⟨fn, _, assign, body, hy, roundIn_of_wpIn hfn ?_⟩
      have hll : w.heap.size + 1 < W.heap.size := blk_lt hl
      refine hassign (w.heap.size + 1) i.lb k W _ ?_
      have hbeg := run_beginRound (P := Tryz.prog) hl (by rw [hR])
      refine ⟨_, hbeg, ?_⟩
      have hl2 : (W.putObj (w.heap.size + 1) (.loop { R .ready none with state := .busy })).heap[w.heap.size + 1]? = some (.loop { R .ready none with state := .busy }) := World.putObj_heap_same hll
      have hd2 : (W.putObj (w.heap.size + 1) (.loop { R .ready none with state := .busy })).heap[w.heap.size]? = some (.deferred (some [])) := (World.putObj_heap_other (by omega)).trans hd
      have hsz2 : (W.putObj (w.heap.size + 1) (.loop { R .ready none with state := .busy })).heap.size = W.heap.size := by simp [World.putObj]
      refine wpIn_mono (hbody (w.heap.size + 1) k i _ (by omega) (by rw [hsz2]; omega) (hI _ _ _ hi (below_putObj (by omega) _)) hx h19) fun e a3 W3 hp => ?_
      cases e with
      | normal =>
        obtain ⟨hk, hi3⟩ := hp
        have hl3 := (hk.block _ (by omega) (by rw [hsz2]; omega)).trans hl2
        have hd3 := (hk.block _ (Nat.le_refl _) (by rw [hsz2]; omega)).trans hd2
        have hend := run_endRound (P := Tryz.prog) none hl3
        refine ⟨_, _, hend, .inl ⟨rfl, hI _ _ _ hi3 (below_putObj (by omega) _), ?_, (World.putObj_heap_other (by omega)).trans hd3⟩⟩
        rw [World.putObj_heap_same (blk_lt hl3)]
        simp only [hR]
        rfl
      | ret =>
        obtain ⟨hk, hi3⟩ := hp
        have hl3 := (hk.block _ (by omega) (by rw [hsz2]; omega)).trans hl2
        have hd3 := (hk.block _ (Nat.le_refl _) (by rw [hsz2]; omega)).trans hd2
        have hend := run_endRound (P := Tryz.prog) (some .ret) hl3
        refine ⟨_, _, hend, .inr ⟨rfl, hIx _ _ hi3 (below_putObj (by omega) _), ?_, (World.putObj_heap_other (by omega)).trans hd3⟩⟩
        rw [World.putObj_heap_same (blk_lt hl3)]
        simp only [hR]
        rfl
      | exit id => exact hp.elim
      | goto t => exact hp.elim
      | panic ch => exact hp.elim
      | outgrown => exact hp.elim

/-! ## marks of loops that are over -/
theorem below_put {B l : Nat} {w W : World} (h : Below B w W) (hl : B ≤ l) (o' : Obj) : Below B w (W.putObj l o') :=
  h.trans ⟨rfl, rfl, rfl, by simp, fun k hk => World.putObj_heap_other (by omega)⟩
def mks (Ds : List Nat) : List Deferred := Ds.map fun D => { target := .collected D, args := #[] }
def shutAll : List Nat → World → World
  | [], W => W
  | D :: Ds, W => shutAll Ds (W.putObj D (.deferred none))
theorem leaves_marks {F : Fence} {n : Nat} {P : Program} {fn : Func} {tmps : Array Value} {R : Ending → World → Prop} : ∀ (Ds : List Nat) (W : World), (∀ D ∈ Ds, W.heap[D]? = some (.deferred (some []))) → Ds.Nodup →
    LeavesIn F n P fn tmps R [] .returning (shutAll Ds W) → LeavesInM F n P fn tmps R (mks Ds) .returning W
  | [], W, _, _, h => h
  | D :: Ds, W, hk, hn, h => by
    obtain ⟨h1, h2⟩ := List.nodup_cons.1 hn
    refine ⟨by simp, .inl ⟨D, _, rfl, run_takeDeferred (hk D (by simp)), leaves_marks Ds _ (fun D' hD' => ?_) h2 h⟩⟩
    exact (World.putObj_heap_other (by rintro rfl; exact h1 hD')).trans (hk D' (by simp [hD']))
theorem shut_below {B : Nat} {w : World} : ∀ (Ds : List Nat) (W : World), (∀ D ∈ Ds, B ≤ D) → Below B w W → Below B w (shutAll Ds W)
  | [], W, _, h => h
  | D :: Ds, W, hk, h => shut_below Ds _ (fun D' hD' => hk D' (by simp [hD'])) (below_put h (hk D (by simp)) _)

/-! ## the map of labels -/
/-- a map's keys -/
def HasKeys (es : List MapEntry) (ls : List Int) : Prop := ∃ f : List (Int × Value × Nat), es = f.map (fun x => ⟨.int .i64 x.1, x.2.1, x.2.2⟩) ∧ f.map (·.1) = ls
theorem HasKeys.nil : HasKeys [] [] := ⟨[], rfl, rfl⟩
theorem HasKeys.push {es : List MapEntry} {ls : List Int} (h : HasKeys es ls) (n : Int) (v : Value) (c : Nat) : HasKeys (es ++ [⟨.int .i64 n, v, c⟩]) (ls ++ [n]) := by
  obtain ⟨f, rfl, rfl⟩ := h
  exact ⟨f ++ [(n, v, c)], by simp, by simp⟩
theorem HasKeys.no {es : List MapEntry} {ls : List Int} (h : HasKeys es ls) {n : Int} (hn : n ∉ ls) : Instr.findNow (.int .i64) (.int .i64 n) es 0 = some none := by
  obtain ⟨f, rfl, rfl⟩ := h
  refine find_parts _ _ _ fun x hx => ?_
  obtain ⟨y, hy, rfl⟩ := List.mem_map.1 hx
  exact ⟨_, _, _, rfl, fun e => hn (List.mem_map.2 ⟨y, hy, e⟩)⟩
theorem find_keys : ∀ (f : List (Int × Value × Nat)) (n : Int) (i : Nat), n ∈ f.map (·.1) → ∃ j v, Instr.findNow (.int .i64) (.int .i64 n) (f.map fun x => ⟨.int .i64 x.1, x.2.1, x.2.2⟩) i = some (some (j, v))
  | [], n, i, h => by simp at h
  | x :: f, n, i, h => by
    by_cases e : n = x.1
    · refine ⟨i, x.2.1, ?_⟩
      have hb : (n == x.1) = true := by simp [e]
      simp [Instr.findNow, Instr.sameNow, hb]
    · have hb : (n == x.1) = false := beq_no e
      obtain ⟨j, v, hj⟩ := find_keys f n (i + 1) (by
        rcases List.mem_cons.1 h with h | h
        · exact absurd h e
        · exact h)
      refine ⟨j, v, ?_⟩
      simp [Instr.findNow, Instr.sameNow, hb, hj]
theorem HasKeys.yes {es : List MapEntry} {ls : List Int} (h : HasKeys es ls) {n : Int} (hn : n ∈ ls) : ∃ j v, Instr.findNow (.int .i64) (.int .i64 n) es 0 = some (some (j, v)) := by
  obtain ⟨f, rfl, rfl⟩ := h
  exact find_keys f n 0 hn
theorem labs_take {L : List In} {k : Nat} {i : In} (h : L[k]? = some i) (h19 : i.op = 19) : labsL (L.take (k + 1)) = labsL (L.take k) ++ [i.lb] := by
  rw [List.take_add_one, h, labs_app]
  simp [labsL, h19]
theorem labs_take_no {L : List In} {k : Nat} {i : In} (h : L[k]? = some i) (h19 : i.op ≠ 19) : labsL (L.take (k + 1)) = labsL (L.take k) := by
  rw [List.take_add_one, h, labs_app]
  simp [labsL, h19]
theorem labs_dup {L : List In} {k : Nat} {i : In} (h : L[k]? = some i) (h19 : i.op = 19) (hm : i.lb ∈ labsL (L.take k)) : mayAll L = false := by
  refine mayAll_dup fun hn => ?_
  have e := List.take_append_drop (k + 1) L
  rw [← e, labs_app, labs_take h h19] at hn
  have h1 := (List.nodup_append.1 hn).1
  exact (List.nodup_append.1 h1).2.2 _ hm _ (by simp) rfl
end Go.Proofs.YtmimmnjdgpdjlaaGreatDoor
namespace Go.Proofs.YtmimmnjdgpdjlaaGreatDoor
open Go.RowKit Go.Lib Go.Shelf
open Go.ChangeMaps (setBlock heap_setBlock_same heap_setBlock_other)

def OpenPost (L : List In) (W : World) (e : Ending) (W' : World) : Prop := (∃ v, e = .returned (.tuple #[v, .bool (mayAll L)])) ∧ Below W.heap.size W W'
/-- what open has in hand -/
structure OpSt (w0 : World) (s : Value) (ls : List Int) (W : World) : Prop where
  bel : Below w0.heap.size w0 W
  r2 : W.heap[w0.heap.size]? = some (.cells #[.pointer none] 119 (0, 0))
  r3 : W.heap[w0.heap.size + 1]? = some (.cells #[.bool false] 4 (0, 0))
  bx : W.heap[w0.heap.size + 1 + 1 + 1]? = some (.cells #[s, .map (some (w0.heap.size + 1 + 1))] 139 (0, 0))
  p4 : W.heap[w0.heap.size + 1 + 1 + 1 + 1]? = some (.cells #[.pointer (some ⟨w0.heap.size + 1 + 1 + 1, 0, none⟩)] 119 (0, 0))
  mp : ∃ es clock, W.heap[w0.heap.size + 1 + 1]? = some (.map es clock) ∧ HasKeys es.toList ls
  nd : ls.Nodup
theorem OpSt.next {w0 W W' : World} {s : Value} {ls : List Int} (h : OpSt w0 s ls W) {m : Nat} (hm : w0.heap.size + 5 ≤ m) (hb : Below m W W') : OpSt w0 s ls W' := by
  have hk : ∀ k o, k < w0.heap.size + 5 → W.heap[k]? = some o → W'.heap[k]? = some o := fun k o hlt ho => (hb.block k (by omega)).trans ho
  obtain ⟨es, ck, he, hh⟩ := h.mp
  exact ⟨h.bel.trans (hb.mono (by omega)), hk _ _ (by omega) h.r2, hk _ _ (by omega) h.r3, hk _ _ (by omega) h.bx, hk _ _ (by omega) h.p4, ⟨es, ck, hk _ _ (by omega) he, hh⟩, h.nd⟩
theorem OpSt.drew {w0 W : World} {s : Value} {ls : List Int} (h : OpSt w0 s ls W) : OpSt w0 s ls W.drew := ⟨h.bel.drew, h.r2, h.r3, h.bx, h.p4, h.mp, h.nd⟩
theorem OpSt.lt {w0 W : World} {s : Value} {ls : List Int} (h : OpSt w0 s ls W) : w0.heap.size + 5 ≤ W.heap.size := by have := blk_lt h.p4; omega
theorem OpSt.cells {w0 W : World} {s : Value} {ls : List Int} (h : OpSt w0 s ls W) : W.cell? ⟨w0.heap.size, 0, none⟩ = some (.pointer none) ∧ W.cell? ⟨w0.heap.size + 1, 0, none⟩ = some (.bool false) ∧ W.cell? ⟨w0.heap.size + 1 + 1 + 1, 0, none⟩ = some s ∧ W.cell? ⟨w0.heap.size + 1 + 1 + 1, 1, none⟩ = some (.map (some (w0.heap.size + 1 + 1))) ∧ W.cell? ⟨w0.heap.size + 1 + 1 + 1 + 1, 0, none⟩ = some (.pointer (some ⟨w0.heap.size + 1 + 1 + 1, 0, none⟩)) ∧ (∀ k, W.frozen? ⟨w0.heap.size, k, none⟩ = false) ∧ (∀ k, W.frozen? ⟨w0.heap.size + 1, k, none⟩ = false) := by
  refine ⟨by rw [blk_cell h.r2]; rfl, by rw [blk_cell h.r3]; rfl, by rw [blk_cell h.bx]; rfl, by rw [blk_cell h.bx]; rfl, by rw [blk_cell h.p4]; rfl, fun k => by simp [World.frozen?, h.r2], fun k => by simp [World.frozen?, h.r3]⟩
theorem OpSt.add {w0 W : World} {s : Value} {ls : List Int} (h : OpSt w0 s ls W) {es : Array MapEntry} {ck : Nat} (he : W.heap[w0.heap.size + 1 + 1]? = some (.map es ck)) (hk : HasKeys es.toList ls) {n : Int} (hn : n ∉ ls) (v : Value) :
    OpSt w0 s (ls ++ [n]) (setBlock W (w0.heap.size + 1 + 1) (.map (es.push ⟨.int .i64 n, v, ck⟩) (ck + 1))) := by
  have ho : ∀ k, k ≠ w0.heap.size + 1 + 1 → (setBlock W (w0.heap.size + 1 + 1) (.map (es.push ⟨.int .i64 n, v, ck⟩) (ck + 1))).heap[k]? = W.heap[k]? := fun k hk => heap_setBlock_other he _ hk
  refine ⟨⟨h.bel.os, h.bel.tape, h.bel.output, by simpa [setBlock] using h.bel.size, fun k hk => (ho k (by omega)).trans (h.bel.block k hk)⟩, (ho _ (by omega)).trans h.r2, (ho _ (by omega)).trans h.r3, (ho _ (by omega)).trans h.bx, (ho _ (by omega)).trans h.p4, ⟨_, _, heap_setBlock_same he _, by simpa using hk.push n v ck⟩, ?_⟩
  rw [List.nodup_append]
  exact ⟨h.nd, by simp, fun a ha b hb => by rintro rfl; simp at hb; subst hb; exact hn ha⟩
/-- what open has said no with -/
structure OpNo (w0 : World) (W : World) : Prop where
  bel : Below w0.heap.size w0 W
  r2 : W.heap[w0.heap.size]? = some (.cells #[.pointer none] 119 (0, 0))
  r3 : W.heap[w0.heap.size + 1]? = some (.cells #[.bool false] 4 (0, 0))
theorem OpNo.next {w0 W W' : World} (h : OpNo w0 W) {m : Nat} (hm : w0.heap.size + 2 ≤ m) (hb : Below m W W') : OpNo w0 W' :=
  ⟨h.bel.trans (hb.mono (by omega)), (hb.block _ (by omega)).trans h.r2, (hb.block _ (by omega)).trans h.r3⟩
theorem set1o {W : World} {b : Nat} {v0 v : Value} {t : TypeId} (h : W.heap[b]? = some (.cells #[v0] t (0, 0))) : (W.setCell ⟨b, 0, none⟩ v).heap[b]? = some (.cells #[v] t (0, 0)) := by
  simp [World.setCell, Array.getElem?_modify, h]
theorem OpSt.no {w0 W : World} {s : Value} {ls : List Int} (h : OpSt w0 s ls W) : OpNo w0 ((W.setCell ⟨w0.heap.size, 0, none⟩ (.pointer none)).setCell ⟨w0.heap.size + 1, 0, none⟩ (.bool false)) :=
  ⟨(h.bel.setCell (p := ⟨w0.heap.size, 0, none⟩) (Nat.le_refl _) _).setCell (p := ⟨w0.heap.size + 1, 0, none⟩) (Nat.le_succ _) _, (Go.Deep.blk_setCell_other _ _ _ _ (show w0.heap.size ≠ w0.heap.size + 1 by omega)).trans (set1o h.r2), set1o ((Go.Deep.blk_setCell_other _ _ _ _ (show w0.heap.size + 1 ≠ w0.heap.size by omega)).trans h.r3)⟩
theorem opno_keep {w0 W : World} (B : Nat) (hB : w0.heap.size + 2 ≤ B) : KeepF B W ((W.setCell ⟨w0.heap.size, 0, none⟩ (.pointer none)).setCell ⟨w0.heap.size + 1, 0, none⟩ (.bool false)) :=
  ⟨by simp [World.setCell], fun k hk _ => (Go.Deep.blk_setCell_other _ _ _ _ (show k ≠ w0.heap.size + 1 by omega)).trans (Go.Deep.blk_setCell_other _ _ _ _ (show k ≠ w0.heap.size by omega))⟩
theorem made5 (w : World) (a b c d e : Obj) : (((((w.alloc a).alloc b).alloc c).alloc d).alloc e).heap[w.heap.size]? = some a ∧ (((((w.alloc a).alloc b).alloc c).alloc d).alloc e).heap[w.heap.size + 1]? = some b ∧ (((((w.alloc a).alloc b).alloc c).alloc d).alloc e).heap[w.heap.size + 1 + 1]? = some c ∧ (((((w.alloc a).alloc b).alloc c).alloc d).alloc e).heap[w.heap.size + 1 + 1 + 1]? = some d ∧ (((((w.alloc a).alloc b).alloc c).alloc d).alloc e).heap[w.heap.size + 1 + 1 + 1 + 1]? = some e := by
  have hh : ∀ (w : World) (o : Obj), (w.alloc o).heap = w.heap.push o := fun _ _ => rfl
  simp only [hh, Array.getElem?_push, Array.size_push]
  refine ⟨?_, ?_, ?_, ?_, ?_⟩ <;> (repeat (first | rw [if_pos trivial] | rw [if_neg (by omega)]))
attribute [local go_sem] Oper.semAt_some
theorem op_no {w0 W : World} {s : Value} {ls : List Int} {D : Nat} {mv : Bool} {tl : List Value} {x0 x1 : Value} (h : OpSt w0 s ls W) (hD : W.heap[D]? = some (.deferred (some []))) (hlt : w0.heap.size + 5 ≤ D) (hz : mv = false) :
    bodyPostM Fence.wide 8 Tryz.prog Tryz.f97 (fun e W' => (∃ v, e = Ending.returned (Value.tuple #[v, Value.bool mv])) ∧ Below w0.heap.size w0 W') Exit.ret { tmps := (x0 :: x1 :: .pointer (some ⟨w0.heap.size, 0, none⟩) :: .pointer (some ⟨w0.heap.size + 1, 0, none⟩) :: tl).toArray, defers := [{ target := .collected D, args := #[] }] } ((W.setCell ⟨w0.heap.size, 0, none⟩ (.pointer none)).setCell ⟨w0.heap.size + 1, 0, none⟩ (.bool false)) := by
  have hN := h.no
  have hN2 : OpNo w0 (shutAll [D] ((W.setCell ⟨w0.heap.size, 0, none⟩ (.pointer none)).setCell ⟨w0.heap.size + 1, 0, none⟩ (.bool false))) := hN.next (m := w0.heap.size + 5) (by omega) (below_putObj hlt _)
  have q2 : (shutAll [D] ((W.setCell ⟨w0.heap.size, 0, none⟩ (.pointer none)).setCell ⟨w0.heap.size + 1, 0, none⟩ (.bool false))).cell? ⟨w0.heap.size, 0, none⟩ = some (.pointer none) := by rw [blk_cell hN2.r2]; rfl
  have q3 : (shutAll [D] ((W.setCell ⟨w0.heap.size, 0, none⟩ (.pointer none)).setCell ⟨w0.heap.size + 1, 0, none⟩ (.bool false))).cell? ⟨w0.heap.size + 1, 0, none⟩ = some (.bool false) := by rw [blk_cell hN2.r3]; rfl
  have rD : ((W.setCell ⟨w0.heap.size, 0, none⟩ (.pointer none)).setCell ⟨w0.heap.size + 1, 0, none⟩ (.bool false)).heap[D]? = some (.deferred (some [])) :=
    (Go.Deep.blk_setCell_other _ _ _ _ (show D ≠ w0.heap.size + 1 by omega)).trans ((Go.Deep.blk_setCell_other _ _ _ _ (show D ≠ w0.heap.size by omega)).trans hD)
  refine leaves_marks [D] _ (fun D' hD' => by simp at hD'; subst hD'; exact rD) (by simp) ⟨.tuple #[.pointer none, .bool mv], ?_, ⟨.pointer none, rfl⟩, hN2.bel⟩
  rw [hz]
  simp [results, Tryz.f97, go_sem, q2, q3]
set_option maxRecDepth 100000 in
set_option maxHeartbeats 8000000 in
theorem open97_any (L : List In) (A : Option Addr) (c : Nat) (w0 : World) (hL : InsAt w0 L A) (hF : ∀ i ∈ L, Fit i) (hlen : L.length ≤ 1000000000000) :
    Calls Tryz.prog 97 #[.slice A L.length c] w0 (OpenPost L w0) := by
  unfold OpenPost
  obtain ⟨n, hnn⟩ : ∃ n, L.length = n := ⟨_, rfl⟩
  have hn' := Lib.hid hnn
  have hbig' := Lib.hid (fun h : 1048576 < L.length => mayAll_long h)
  rw [hnn] at hlen ⊢
  have hL := Lib.hid hL
  have hF := Lib.hid hF
  obtain ⟨mv, hmv⟩ : ∃ mv, mayAll L = mv := ⟨_, rfl⟩
  rw [hmv]
  have hmv := Lib.hid hmv
  have hmm := @run_makeMap Tryz.prog
  clear hnn
  refine (callsIn_wide (n := 8)).1 (callsIn_of_wp_marks Tryz.func97 rfl trivial ?_ rfl)
  simp only [Tryz.ntmps97, List.size_toArray, List.length_cons, List.length_nil, Nat.reduceAdd, Nat.reduceSub, Array.replicate_succ, Array.replicate_zero, List.push_toArray, List.append_toArray, List.nil_append, List.cons_append]
  refine wpIn_wide.2 ?_
  by_cases hbig : 1048576 < n
  · have hz := Lib.hid (show mv = false by rw [← hmv.out]; exact hbig'.out (by rw [hn'.out]; exact hbig))
    have e0 : (1048576 : Int) < (n : Int) := by omega
    go_wp2_with fail
    obtain ⟨m0, m1, m2, m3, m4⟩ := made5 w0 (Obj.cells #[Value.pointer none] 119) (Obj.cells #[Value.bool false] 4) (Obj.map #[] 0) (Obj.cells #[Value.slice A n c, Value.map (some (w0.heap.size + 1 + 1))] 139) (Obj.cells #[Value.pointer (some { block := w0.heap.size + 1 + 1 + 1, off := 0 })] 119)
    have hbW : Below w0.heap.size w0 (((((w0.alloc (Obj.cells #[Value.pointer none] 119)).alloc (Obj.cells #[Value.bool false] 4)).alloc (Obj.map #[] 0)).alloc (Obj.cells #[Value.slice A n c, Value.map (some (w0.heap.size + 1 + 1))] 139)).alloc (Obj.cells #[Value.pointer (some { block := w0.heap.size + 1 + 1 + 1, off := 0 })] 119)) := (((((Below.refl _ w0).alloc (Nat.le_refl _) _).alloc (by simp) _).alloc (by simp; omega) _).alloc (by simp; omega) _).alloc (by simp; omega) _
    generalize (((((w0.alloc (Obj.cells #[Value.pointer none] 119)).alloc (Obj.cells #[Value.bool false] 4)).alloc (Obj.map #[] 0)).alloc (Obj.cells #[Value.slice A n c, Value.map (some (w0.heap.size + 1 + 1))] 139)).alloc (Obj.cells #[Value.pointer (some { block := w0.heap.size + 1 + 1 + 1, off := 0 })] 119)) = W1 at m0 m1 hbW ⊢
    have y0 : (shutAll [] W1).cell? ⟨w0.heap.size, 0, none⟩ = some (.pointer none) := by show W1.cell? _ = _; rw [blk_cell m0]; rfl
    have y1 : (shutAll [] W1).cell? ⟨w0.heap.size + 1, 0, none⟩ = some (.bool false) := by show W1.cell? _ = _; rw [blk_cell m1]; rfl
    refine leaves_marks [] _ (fun D hD => by cases hD) List.nodup_nil ⟨.tuple #[.pointer none, .bool mv], ?_, ⟨.pointer none, rfl⟩, hbW⟩
    rw [hz.out]
    simp [results, Tryz.f97, go_sem, y0, y1]
  · have e0 : ¬ (1048576 : Int) < (n : Int) := by omega
    obtain ⟨w1, hw1⟩ : ∃ w1, (((((w0.alloc (Obj.cells #[Value.pointer none] 119)).alloc (Obj.cells #[Value.bool false] 4)).alloc (Obj.map #[] 0)).alloc (Obj.cells #[Value.slice A n c, Value.map (some (w0.heap.size + 1 + 1))] 139)).alloc (Obj.cells #[Value.pointer (some { block := w0.heap.size + 1 + 1 + 1, off := 0 })] 119)) = w1 := ⟨_, rfl⟩
    have hs1 : w1.heap.size = w0.heap.size + 1 + 1 + 1 + 1 + 1 := by rw [← hw1]; simp
    have hO1 : OpSt w0 (.slice A n c) (labsL (L.take 0)) w1 := by
      rw [← hw1]
      obtain ⟨m0, m1, m2, m3, m4⟩ := made5 w0 (Obj.cells #[Value.pointer none] 119) (Obj.cells #[Value.bool false] 4) (Obj.map #[] 0) (Obj.cells #[Value.slice A n c, Value.map (some (w0.heap.size + 1 + 1))] 139) (Obj.cells #[Value.pointer (some { block := w0.heap.size + 1 + 1 + 1, off := 0 })] 119)
      exact ⟨(((((Below.refl _ w0).alloc (Nat.le_refl _) _).alloc (by simp) _).alloc (by simp; omega) _).alloc (by simp; omega) _).alloc (by simp; omega) _, m0, m1, m3, m4, ⟨#[], 0, m2, HasKeys.nil⟩, List.nodup_nil⟩
    have hl := Lib.hid (labels121_any A n c w1)
    have hw1' := Lib.hid hw1
    have hO1 := Lib.hid hO1
    have hs1 := Lib.hid hs1
    clear hw1
    go_wp2_with fail
    rw [hw1'.out]
    refine hl.out.mono ?_
    rintro e w2 ⟨rfl, hw2⟩
    have hb2 : Below w1.heap.size w1 w2 := by rw [hw2]; exact (Below.refl _ _).alloc (Nat.le_refl _) _
    have hx2 : w2.heap[w1.heap.size]? = some (.cells #[.slice A n c] 42 (0, 0)) := by rw [hw2]; exact heap_alloc_new _ _
    have hO2 := Lib.hid (hO1.out.next (by have := hs1.out; omega) hb2)
    have hx2 := Lib.hid hx2
    obtain ⟨b5, hb5⟩ : ∃ b5, w1.heap.size = b5 := ⟨_, rfl⟩
    rw [hb5] at hx2 ⊢
    clear hl hw2 hb2
    go_wp2_with fail
    refine (wpIn_wide (n := 8)).1 (wpIn_range_labs w0 L A c b5 hL.out (by rw [hn'.out]; omega) (by rw [hn'.out]; exact hx2.out) rfl (fun k W => OpSt w0 (.slice A n c) (labsL (L.take k)) W) (fun W => OpNo w0 W ∧ mv = false)
      (fun k W W' h hb => h.next (hO2.out.lt) hb) (fun W W' h hb => ⟨h.1.next (by have := hO2.out.lt; omega) hb, h.2⟩) (fun k W h => h.bel) (fun k i W h hx h19 => by rw [labs_take_no hx h19]; exact h) hO2.out (fun i k => #[.slice A n c, undef, .pointer (some ⟨w0.heap.size, 0, none⟩), .pointer (some ⟨w0.heap.size + 1, 0, none⟩), .pointer (some ⟨w0.heap.size + 1 + 1 + 1 + 1, 0, none⟩), .int .i64 i, .int .i64 (k : Int), undef, undef, undef, undef, undef, undef, undef, .slice A n c, .map (some (w0.heap.size + 1 + 1)), .agg #[.slice A n c, .map (some (w0.heap.size + 1 + 1))], .pointer (some ⟨w0.heap.size + 1 + 1 + 1, 0, none⟩), .slice A n c, .int .i64 (n : Int), .bool false, .slice A n c, .func (.func 149) #[] #[.pointer (some ⟨b5, 0, none⟩)], .int .i64 i, .int .i64 (k : Int), undef, undef, undef, undef, undef, undef, undef, undef, undef, undef, undef, undef, undef, undef, undef, undef, undef, undef, undef, undef, undef, undef, undef, undef, undef, undef, undef, undef, undef, undef, undef, undef, undef, undef, undef, undef, undef, undef, undef, undef, undef, undef, undef, undef, undef, undef, undef, undef, undef, undef, undef, undef, undef]) ?assign ?body ?done ?stop)
    case assign =>
      intro l i k W K hK
      have hK' := Lib.hid hK
      clear hK
      gi_wp2
      exact hK'.out
    case body =>
      intro l k i W hl hs hI hx h19
      obtain ⟨es, ck, hmb, hmk⟩ := hI.mp
      obtain ⟨y0, y1, y2, y3, y4, f0, f1⟩ := hI.cells
      by_cases hm : i.lb ∈ labsL (L.take k)
      · have hz := Lib.hid (show mv = false by rw [← hmv.out]; exact labs_dup hx h19 hm)
        obtain ⟨j, v, hj⟩ := hmk.yes hm
        have hlk := run_lookup2_lit (P := Tryz.prog) Tryz.underlying137 Tryz.underlying3 hmb i.lb v j hj
        have hI := Lib.hid hI
        generalize i.lb = lb at hlk ⊢
        dsimp only
        clear hm hj hmk hmb hx
        gi_wp2
        exact ⟨opno_keep _ (by have := hO2.out.lt; omega), hI.out.no, hz.out⟩
      · have hlk := run_lookup2_none (P := Tryz.prog) Tryz.underlying137 Tryz.underlying3 hmb i.lb _ (zero3 W) (hmk.no hm)
        have hup := run_mapUpdate_new (P := Tryz.prog) Tryz.underlying137 Tryz.underlying3 hmb i.lb (.int .i64 (k : Int)) (hmk.no hm)
        have hfin : OpSt w0 (.slice A n c) (labsL (L.take (k + 1))) (setBlock W (w0.heap.size + 1 + 1) (.map (es.push ⟨.int .i64 i.lb, .int .i64 (k : Int), ck⟩) (ck + 1))) := by
          rw [labs_take hx h19]
          exact hI.add hmb hmk hm _
        have hkp : KeepF w2.heap.size W (setBlock W (w0.heap.size + 1 + 1) (.map (es.push ⟨.int .i64 i.lb, .int .i64 (k : Int), ck⟩) (ck + 1))) := ⟨by simp [setBlock], fun j hj _ => heap_setBlock_other hmb _ (by have := hO2.out.lt; omega)⟩
        have hfin := Lib.hid hfin
        have hkp := Lib.hid hkp
        generalize i.lb = lb at hlk hup hfin hkp ⊢
        dsimp only
        clear hm hmk hx f0 f1
        gi_wp2
        exact ⟨hkp.out, hfin.out⟩
    case stop =>
      rintro D W hD ⟨hN, hz⟩ hK
      have hN2 : OpNo w0 (shutAll [D] W) := hN.next (m := w2.heap.size) (by have := hO2.out.lt; omega) (below_putObj hD _)
      have y0 : (shutAll [D] W).cell? ⟨w0.heap.size, 0, none⟩ = some (.pointer none) := by rw [blk_cell hN2.r2]; rfl
      have y1 : (shutAll [D] W).cell? ⟨w0.heap.size + 1, 0, none⟩ = some (.bool false) := by rw [blk_cell hN2.r3]; rfl
      refine wpIn_wide.2 ?_
      go_wp2_with fail
      refine leaves_marks [D] _ (fun D' hD' => by simp at hD'; subst hD'; exact hK) (by simp) ⟨.tuple #[.pointer none, .bool mv], ?_, ⟨.pointer none, rfl⟩, hN2.bel⟩
      rw [hz]
      simp [results, Tryz.f97, go_sem, y0, y1]
    case done =>
      intro D W hD hO hK
      rw [List.take_length] at hO
      obtain ⟨y0, y1, y2, y3, y4, f0, f1⟩ := hO.cells
      have hp := Lib.hid (parts99_any W)
      have hO := Lib.hid hO
      have hK := Lib.hid hK
      clear y0 y1 y2 y3 y4 f0 f1
      go_wp2_with fail
      refine hp.out.mono ?_
      rintro e w3 ⟨pb, rfl, hpa, hpl, hb3⟩
      have hO3 := Lib.hid (hO.out.next (m := W.heap.size) hO.out.lt hb3)
      have hD3 := Lib.hid ((hb3.block D (blk_lt hK.out)).trans hK.out)
      have hpa := Lib.hid hpa
      clear hb3 hp
      go_wp2_with fail
      go_loopg [44] n (fun g s44 wr => ∃ k : Nat, k + g = n ∧ s44 = .int .i64 k ∧ Below w3.heap.size w3 wr ∧ ∀ j i, j < k → L[j]? = some i → mayB i = true ∧ needB L i = true)
      case atStart => exact ⟨0, by omega, rfl, Below.refl _ _, fun j i hj => absurd hj (by omega)⟩
      case round =>
        obtain ⟨k, hkg, rfl, hbr, hall⟩ := hrel
        have hbr := Lib.hid hbr
        have hall := Lib.hid hall
        cases gk with
        | zero =>
          have e0 : ¬ (k : Int) < (n : Int) := by omega
          have hz := Lib.hid (show mv = true by
            rw [← hmv.out]
            refine mayAll_yes (by rw [hn'.out]; omega) hO.out.nd fun i hi => ?_
            obtain ⟨j, hj⟩ := List.getElem?_of_mem hi
            exact hall.out j i (by have := (List.getElem?_eq_some_iff.1 hj).1; rw [hn'.out] at this; omega) hj)
          have hO4 := hO3.out.next (m := w3.heap.size) hO3.out.lt hbr.out
          obtain ⟨y0, y1, y2, y3, y4, f0, f1⟩ := hO4.cells
          have hD4 := Lib.hid ((hbr.out.block D (blk_lt hD3.out)).trans hD3.out)
          have hO4 := Lib.hid hO4
          have hdl := Lib.hid hD
          go_wp2_with fail
          have hne1 : D ≠ w0.heap.size := by have := hO2.out.lt; omega
          have hne2 : D ≠ w0.heap.size + 1 := by have := hO2.out.lt; omega
          have r2 : ((wr.setCell ⟨w0.heap.size, 0, none⟩ (.pointer (some ⟨w0.heap.size + 1 + 1 + 1, 0, none⟩))).setCell ⟨w0.heap.size + 1, 0, none⟩ (.bool true)).heap[w0.heap.size]? = some (.cells #[.pointer (some ⟨w0.heap.size + 1 + 1 + 1, 0, none⟩)] 119 (0, 0)) :=
            (Go.Deep.blk_setCell_other _ _ _ _ (show w0.heap.size ≠ w0.heap.size + 1 by omega)).trans (set1o hO4.out.r2)
          have r3 : ((wr.setCell ⟨w0.heap.size, 0, none⟩ (.pointer (some ⟨w0.heap.size + 1 + 1 + 1, 0, none⟩))).setCell ⟨w0.heap.size + 1, 0, none⟩ (.bool true)).heap[w0.heap.size + 1]? = some (.cells #[.bool true] 4 (0, 0)) :=
            set1o ((Go.Deep.blk_setCell_other _ _ _ _ (show w0.heap.size + 1 ≠ w0.heap.size by omega)).trans hO4.out.r3)
          have rD : ((wr.setCell ⟨w0.heap.size, 0, none⟩ (.pointer (some ⟨w0.heap.size + 1 + 1 + 1, 0, none⟩))).setCell ⟨w0.heap.size + 1, 0, none⟩ (.bool true)).heap[D]? = some (.deferred (some [])) :=
            (Go.Deep.blk_setCell_other _ _ _ _ hne2).trans ((Go.Deep.blk_setCell_other _ _ _ _ hne1).trans hD4.out)
          have hbW : Below w0.heap.size w0 ((wr.setCell ⟨w0.heap.size, 0, none⟩ (.pointer (some ⟨w0.heap.size + 1 + 1 + 1, 0, none⟩))).setCell ⟨w0.heap.size + 1, 0, none⟩ (.bool true)) :=
            (hO4.out.bel.setCell (p := ⟨w0.heap.size, 0, none⟩) (Nat.le_refl _) _).setCell (p := ⟨w0.heap.size + 1, 0, none⟩) (Nat.le_succ _) _
          generalize (wr.setCell ⟨w0.heap.size, 0, none⟩ (.pointer (some ⟨w0.heap.size + 1 + 1 + 1, 0, none⟩))).setCell ⟨w0.heap.size + 1, 0, none⟩ (.bool true) = V at r2 r3 rD hbW ⊢
          have q2 : (shutAll [D] V).cell? ⟨w0.heap.size, 0, none⟩ = some (.pointer (some ⟨w0.heap.size + 1 + 1 + 1, 0, none⟩)) := by
            show (V.putObj D (.deferred none)).cell? _ = _
            rw [blk_cell (show (V.putObj D (.deferred none)).heap[w0.heap.size]? = _ from (World.putObj_heap_other (Ne.symm hne1)).trans r2)]; rfl
          have q3 : (shutAll [D] V).cell? ⟨w0.heap.size + 1, 0, none⟩ = some (.bool true) := by
            show (V.putObj D (.deferred none)).cell? _ = _
            rw [blk_cell (show (V.putObj D (.deferred none)).heap[w0.heap.size + 1]? = _ from (World.putObj_heap_other (Ne.symm hne2)).trans r3)]; rfl
          refine leaves_marks [D] _ (fun D' hD' => by simp at hD'; subst hD'; exact rD) (by simp) ⟨.tuple #[.pointer (some ⟨w0.heap.size + 1 + 1 + 1, 0, none⟩), .bool mv], ?_, ⟨_, rfl⟩, shut_below [D] _ (fun D' hD' => by simp at hD'; subst hD'; have := hO.out.lt; have := hO2.out.lt; omega) hbW⟩
          rw [hz.out]
          simp [results, Tryz.f97, go_sem, q2, q3]
        | succ g2 =>
          have e0 : (k : Int) < (n : Int) := by omega
          have hO4 := hO3.out.next (m := w3.heap.size) hO3.out.lt hbr.out
          have hbw := Lib.hid hO4.bel
          obtain ⟨blk, off, i, rfl, hx, hcx⟩ := (hL.out).at_ (i := k) (by rw [hn'.out]; omega)
          have hfit := hF.out i (List.mem_of_getElem? hx)
          obtain ⟨op, bn, sh, cd, ds, sr, im, ba, ix, hb, hi, dp, lb⟩ := i
          have v0 : w0.cell? ⟨blk, off + k * 13, none⟩ = some (.int .i64 op) := hcx 0 (by omega)
          have v0 := (hbw.out.cell (p := ⟨blk, off + k * 13, none⟩) (cell_some_lt v0)).trans v0
          have v1 : w0.cell? ⟨blk, off + k * 13 + 1, none⟩ = some (.int .i64 bn) := hcx 1 (by omega)
          have v1 := (hbw.out.cell (p := ⟨blk, off + k * 13 + 1, none⟩) (cell_some_lt v1)).trans v1
          have v2 : w0.cell? ⟨blk, off + k * 13 + 2, none⟩ = some (.int .i64 sh) := hcx 2 (by omega)
          have v2 := (hbw.out.cell (p := ⟨blk, off + k * 13 + 2, none⟩) (cell_some_lt v2)).trans v2
          have v3 : w0.cell? ⟨blk, off + k * 13 + 3, none⟩ = some (.int .i64 cd) := hcx 3 (by omega)
          have v3 := (hbw.out.cell (p := ⟨blk, off + k * 13 + 3, none⟩) (cell_some_lt v3)).trans v3
          have v4 : w0.cell? ⟨blk, off + k * 13 + 4, none⟩ = some (.int .i64 ds) := hcx 4 (by omega)
          have v4 := (hbw.out.cell (p := ⟨blk, off + k * 13 + 4, none⟩) (cell_some_lt v4)).trans v4
          have v5 : w0.cell? ⟨blk, off + k * 13 + 5, none⟩ = some (.int .i64 sr) := hcx 5 (by omega)
          have v5 := (hbw.out.cell (p := ⟨blk, off + k * 13 + 5, none⟩) (cell_some_lt v5)).trans v5
          have v6 : w0.cell? ⟨blk, off + k * 13 + 6, none⟩ = some (.int .u64 (im : Int)) := hcx 6 (by omega)
          have v6 := (hbw.out.cell (p := ⟨blk, off + k * 13 + 6, none⟩) (cell_some_lt v6)).trans v6
          have v7 : w0.cell? ⟨blk, off + k * 13 + 7, none⟩ = some (.int .i64 ba) := hcx 7 (by omega)
          have v7 := (hbw.out.cell (p := ⟨blk, off + k * 13 + 7, none⟩) (cell_some_lt v7)).trans v7
          have v8 : w0.cell? ⟨blk, off + k * 13 + 8, none⟩ = some (.int .i64 ix) := hcx 8 (by omega)
          have v8 := (hbw.out.cell (p := ⟨blk, off + k * 13 + 8, none⟩) (cell_some_lt v8)).trans v8
          have v9 : w0.cell? ⟨blk, off + k * 13 + 9, none⟩ = some (.bool hb) := hcx 9 (by omega)
          have v9 := (hbw.out.cell (p := ⟨blk, off + k * 13 + 9, none⟩) (cell_some_lt v9)).trans v9
          have v10 : w0.cell? ⟨blk, off + k * 13 + 10, none⟩ = some (.bool hi) := hcx 10 (by omega)
          have v10 := (hbw.out.cell (p := ⟨blk, off + k * 13 + 10, none⟩) (cell_some_lt v10)).trans v10
          have v11 : w0.cell? ⟨blk, off + k * 13 + 11, none⟩ = some (.int .i64 dp) := hcx 11 (by omega)
          have v11 := (hbw.out.cell (p := ⟨blk, off + k * 13 + 11, none⟩) (cell_some_lt v11)).trans v11
          have v12 : w0.cell? ⟨blk, off + k * 13 + 12, none⟩ = some (.int .i64 lb) := hcx 12 (by omega)
          have v12 := (hbw.out.cell (p := ⟨blk, off + k * 13 + 12, none⟩) (cell_some_lt v12)).trans v12
          obtain ⟨w4, hw4⟩ : ∃ w4, wr.alloc (.cells #[.int .i64 op, .int .i64 bn, .int .i64 sh, .int .i64 cd, .int .i64 ds, .int .i64 sr, .int .u64 (im : Int), .int .i64 ba, .int .i64 ix, .bool hb, .bool hi, .int .i64 dp, .int .i64 lb] 32) = w4 := ⟨_, rfl⟩
          have hb4 : Below wr.heap.size wr w4 := by rw [← hw4]; exact (Below.refl _ wr).alloc (Nat.le_refl _) _
          have hX : w4.heap[wr.heap.size]? = some (.cells #[.int .i64 op, .int .i64 bn, .int .i64 sh, .int .i64 cd, .int .i64 ds, .int .i64 sr, .int .u64 (im : Int), .int .i64 ba, .int .i64 ix, .bool hb, .bool hi, .int .i64 dp, .int .i64 lb] 32 (0, 0)) := by rw [← hw4]; exact heap_alloc_new _ _
          have hO5 := hO4.next (m := wr.heap.size) hO4.lt hb4
          have hpa5 := PartsAt.below (hpa.out.below hbr.out) hb4
          have h98 := Lib.hid (may98_any ⟨op, bn, sh, cd, ds, sr, im, ba, ix, hb, hi, dp, lb⟩ hfit pb w4.drew hpa5)
          obtain ⟨q0, q1, q2, q3, q4, q5, q6, q7, q8, q9, q10, q11, q12⟩ := box13 hX
          obtain ⟨es, ck, hmb, hmk⟩ := hO5.mp
          obtain ⟨y0, y1, y2, y3, y4, f0, f1⟩ := hO5.cells
          have hbr4 := Lib.hid (Below.next hbr.out hb4).drew
          have hO5 := Lib.hid hO5
          have hX := Lib.hid hX
          obtain ⟨z, there, hlk, hth⟩ : ∃ z there, (Instr.lookup 137 (.map (some (w0.heap.size + 1 + 1))) (.int .i64 lb) true).run Tryz.prog w4.drew = .ok (.tuple #[z, .bool there]) w4.drew ∧ there = (labsL L).contains lb := by
            by_cases hm : lb ∈ labsL L
            · obtain ⟨j, v, hj⟩ := hmk.yes hm
              exact ⟨v, true, run_lookup2_lit (P := Tryz.prog) Tryz.underlying137 Tryz.underlying3 (show w4.drew.heap[_]? = _ from hmb) lb v j hj, by simp [hm]⟩
            · exact ⟨_, false, run_lookup2_none (P := Tryz.prog) Tryz.underlying137 Tryz.underlying3 (show w4.drew.heap[_]? = _ from hmb) lb _ (zero3 w4.drew) (hmk.no hm), by simp [hm]⟩
          have hth' := Lib.hid hth
          clear hth
          have hw4' := Lib.hid hw4
          have hx := Lib.hid hx
          clear hw4 hb4 hcx hmb hmk hO4 hfit hpa5
          obtain rfl := hw4'.out
          go_wp2_with fail
          go_region
          go_wp2_with fail
          refine h98.out.mono ?_
          rintro e w5 ⟨rfl, hb5'⟩
          have hX5 := (hb5'.block _ (blk_lt hX.out)).trans hX.out
          obtain ⟨q0, q1, q2, q3, q4, q5, q6, q7, q8, q9, q10, q11, q12⟩ := box13 hX5
          have hbr5 := Lib.hid (Below.next hbr4.out hb5')
          have hO6 := hO5.out.drew.next (m := _) hO5.out.lt hb5'
          obtain ⟨y0, y1, y2, y3, y4, f0, f1⟩ := hO6.cells
          have hO6 := Lib.hid hO6
          have hX5 := Lib.hid hX5
          have hdone : ∀ g, g = (mayB ⟨op, bn, sh, cd, ds, sr, im, ba, ix, hb, hi, dp, lb⟩ && needB L ⟨op, bn, sh, cd, ds, sr, im, ba, ix, hb, hi, dp, lb⟩) → (g = true → ∀ j i, j < k + 1 → L[j]? = some i → mayB i = true ∧ needB L i = true) ∧ (g = false → mv = false) := by
            rintro g rfl
            refine ⟨fun hg j i hj hi => ?_, fun hg => ?_⟩
            · by_cases e : j = k
              · subst e
                rw [hx.out] at hi
                cases hi
                rwa [Bool.and_eq_true] at hg
              · exact hall.out j i (by omega) hi
            · rw [← hmv.out]
              exact mayAll_bad (List.mem_of_getElem? hx.out) hg
          have hnd : needB L ⟨op, bn, sh, cd, ds, sr, im, ba, ix, hb, hi, dp, lb⟩ = (!(decide (op = 17) || decide (op = 18)) || there) := by rw [hth'.out]; rfl
          rw [hnd] at hdone
          obtain ⟨mb, hmbq⟩ : ∃ mb, mayB ⟨op, bn, sh, cd, ds, sr, im, ba, ix, hb, hi, dp, lb⟩ = mb := ⟨_, rfl⟩
          rw [hmbq] at hdone ⊢
          have hdone := Lib.hid hdone
          clear hnd hmbq hb5' h98 hX
          have hdl := Lib.hid hD
          have hD5 := Lib.hid ((hbr5.out.block D (blk_lt hD3.out)).trans hD3.out)
          cases hg : (mb && (!(decide (op = 17) || decide (op = 18)) || there)) with
          | true =>
            have hall2 := Lib.hid ((hdone.out true hg.symm).1 rfl)
            clear hdone
            rw [Bool.and_eq_true] at hg
            obtain ⟨rfl, hg⟩ := hg
            by_cases h17 : op = 17
            · have hb17 : (op == 17) = true := by rw [h17]; rfl
              have ht : there = true := by simpa [h17] using hg
              subst ht
              clear hg h17
              go_wp2
              go_roundg g2
              case measure => omega
              case rel => exact ⟨k + 1, by omega, by go_num, hbr5.out, hall2.out⟩
            · have hb17 : (op == 17) = false := beq_no h17
              by_cases h18 : op = 18
              · have hb18 : (op == 18) = true := by rw [h18]; rfl
                have ht : there = true := by simpa [h18] using hg
                subst ht
                clear hg h18 h17
                go_wp2
                go_roundg g2
                case measure => omega
                case rel => exact ⟨k + 1, by omega, by go_num, hbr5.out, hall2.out⟩
              · have hb18 : (op == 18) = false := beq_no h18
                clear hg h17 h18
                go_wp2
                go_roundg g2
                case measure => omega
                case rel => exact ⟨k + 1, by omega, by go_num, hbr5.out, hall2.out⟩
          | false =>
            have hz := Lib.hid ((hdone.out false hg.symm).2 rfl)
            clear hdone
            cases mb with
            | false =>
              clear hg
              go_wp2_with fail
              exact op_no hO6.out hD5.out (by have := hO2.out.lt; have := hdl.out; omega) hz.out
            | true =>
              have hg2 : (decide (op = 17) || decide (op = 18)) = true ∧ there = false := by
                rw [Bool.true_and, Bool.or_eq_false_iff] at hg
                refine ⟨?_, hg.2⟩
                cases hd : (decide (op = 17) || decide (op = 18)) with
                | true => rfl
                | false => rw [hd] at hg; exact absurd hg.1 (by decide)
              clear hg
              obtain ⟨hg, rfl⟩ := hg2
              by_cases h17 : op = 17
              · have hb17 : (op == 17) = true := by rw [h17]; rfl
                clear hg h17
                go_wp2_with fail
                exact op_no hO6.out hD5.out (by have := hO2.out.lt; have := hdl.out; omega) hz.out
              · have hb17 : (op == 17) = false := beq_no h17
                have h18 : op = 18 := by
                  rw [decide_eq_false h17, Bool.false_or, decide_eq_true_eq] at hg
                  exact hg
                have hb18 : (op == 18) = true := by rw [h18]; rfl
                clear hg h17 h18
                go_wp2_with fail
                exact op_no hO6.out hD5.out (by have := hO2.out.lt; have := hdl.out; omega) hz.out
set_option maxHeartbeats 4000000 in
theorem may41_any (L : List In) (A : Option Addr) (c : Nat) (W : World) (hL : InsAt W L A) (hF : ∀ i ∈ L, Fit i) (hlen : L.length ≤ 1000000000000) :
    Calls Tryz.prog 41 #[.slice A L.length c] W (BoolPost (mayAll L) W) := by
  have hc := open97_any L A c W hL hF hlen
  generalize L.length = n at hc ⊢
  unfold OpenPost at hc
  generalize mayAll L = mv at hc ⊢
  have hc := Lib.hid hc
  clear hL hF hlen
  go_enter Tryz.func41, Tryz.ntmps41
  go_wp2_with fail
  refine hc.out.mono ?_
  rintro e w1 ⟨⟨v, rfl⟩, hb⟩
  have hb := Lib.hid hb
  go_wp2
  go_ret
  exact ⟨rfl, hb.out⟩
end Go.Proofs.YtmimmnjdgpdjlaaGreatDoor
