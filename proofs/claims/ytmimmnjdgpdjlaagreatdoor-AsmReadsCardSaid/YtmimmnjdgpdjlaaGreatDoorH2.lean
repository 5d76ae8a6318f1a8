/- The table of what operations name. Quiet regions with callees that make memory (turned from the chapter of pretty texts). Which instructions may be: the program's may and MayOne. Which instructions may be, whatever the operation: may, MayOne. -/
import Derived.Test.YtmimmnjdgpdjlaaGreatDoorE
import Derived.OneCell
import Derived.ChangeMaps5
import Derived.ChangeKeysEq
import Derived.Maps.OwnOps
import Derived.BigQuiet
import Derived.ControlIn
import Derived.Laws.Rows
import Derived.OrdersIn
import Derived.StillTail
import Derived.TacticsInMore
import Derived.Laws.StructEq
set_option linter.unusedSimpArgs false
set_option linter.unusedVariables false
namespace Go.Proofs.YtmimmnjdgpdjlaaGreatDoor
open Go.RowKit Go.Lib Go.Shelf Go.MapKept
open Go.ChangeMaps (setBlock heap_setBlock_same heap_setBlock_other)

theorem run_mapUpdate_new {P : Program} {t k e : TypeId} (ht : P.underlying t = some (.map k e)) (hk : P.underlying k = some (.int .i64)) {w : World} {b : Nat} {es : Array MapEntry} {clock : Nat}
    (hb : w.heap[b]? = some (.map es clock)) (n : Int) (v : Value) (hno : Instr.findNow (.int .i64) (.int .i64 n) es.toList 0 = some none) :
    (Instr.mapUpdate t (.map (some b)) (.int .i64 n) v).run P w = .ok () (setBlock w b (.map (es.push ⟨.int .i64 n, v, clock⟩) (clock + 1))) := by
  have hik : IsKey (.int .i64) (.int .i64 n) := by simp [IsKey]
  simp [Instr.mapUpdate, run_underlying ht, Go.MapKept.run_getObj_map hb, run_checkKey hk hik, run_findKey hk hno, run_setObj_map _ hb, Result.andThen]
  rfl

theorem run_lookup_lit {P : Program} {t k e : TypeId} (ht : P.underlying t = some (.map k e)) (hk : P.underlying k = some (.int .i64)) {w : World} {b : Nat} {es : Array MapEntry} {clock : Nat}
    (hb : w.heap[b]? = some (.map es clock)) (n : Int) (v : Value) (i : Nat) (hf : Instr.findNow (.int .i64) (.int .i64 n) es.toList 0 = some (some (i, v))) :
    (Instr.lookup t (.map (some b)) (.int .i64 n) false).run P w = .ok v w := by
  have hik : IsKey (.int .i64) (.int .i64 n) := by simp [IsKey]
  simp [Instr.lookup, run_underlying ht, Go.MapKept.run_getObj_map hb, run_checkKey hk hik, run_findKey hk hf, Result.andThen]

theorem run_lookup_none {P : Program} {t k e : TypeId} (ht : P.underlying t = some (.map k e)) (hk : P.underlying k = some (.int .i64)) {w : World} {b : Nat} {es : Array MapEntry} {clock : Nat}
    (hb : w.heap[b]? = some (.map es clock)) (n : Int) (z : Value) (hz : (zeroValue e).run P w = .ok z w) (hf : Instr.findNow (.int .i64) (.int .i64 n) es.toList 0 = some none) :
    (Instr.lookup t (.map (some b)) (.int .i64 n) false).run P w = .ok z w := by
  have hik : IsKey (.int .i64) (.int .i64 n) := by simp [IsKey]
  simp [Instr.lookup, run_underlying ht, Go.MapKept.run_getObj_map hb, run_checkKey hk hik, run_findKey hk hf, hz, Result.andThen]

/-- A block of one cell that holds v. -/
def HasCell (w : World) (p : Nat) (v : Value) : Prop := ∃ t, w.heap[p]? = some (.cells #[v] t (0, 0))
/-- A MAP THAT THE CALL BUILDS: block b of w, made since w0, whose entries are written out; boxes of one cell that the call has made; nothing that was there in w0 has turned. -/
def BM (w0 w : World) (b : Nat) (es : Array MapEntry) (clock : Nat) (cs : List (Nat × Value)) : Prop :=
  w.heap[b]? = some (.map es clock) ∧ Below w0.heap.size w0 w ∧ w0.heap.size ≤ b ∧ ∀ x ∈ cs, HasCell w x.1 x.2 ∧ x.1 ≠ b ∧ w0.heap.size ≤ x.1

theorem BM.made {w0 w : World} (h : Below w0.heap.size w0 w) : BM w0 (w.alloc (.map #[] 0)) w.heap.size #[] 0 [] :=
  ⟨(heap_alloc w _).1, h.alloc h.size _, h.size, by simp⟩
theorem BM.insert {w0 w : World} {b : Nat} {es es' : Array MapEntry} {clock clock' : Nat} {cs : List (Nat × Value)} (h : BM w0 w b es clock cs) : BM w0 (setBlock w b (.map es' clock')) b es' clock' cs := by
  obtain ⟨hb, hl, hB, hc⟩ := h
  refine ⟨heap_setBlock_same hb _, ⟨hl.os, hl.tape, hl.output, by simpa [setBlock] using hl.size, fun k hk => (heap_setBlock_other hb _ (by omega)).trans (hl.block k hk)⟩, hB, ?_⟩
  intro x hx
  obtain ⟨⟨t, ht⟩, hne, hle⟩ := hc x hx
  exact ⟨⟨t, (heap_setBlock_other hb _ hne).trans ht⟩, hne, hle⟩
theorem BM.box {w0 w : World} {b : Nat} {es : Array MapEntry} {clock : Nat} {cs : List (Nat × Value)} (h : BM w0 w b es clock cs) (v : Value) (t : TypeId) : BM w0 (w.alloc (.cells #[v] t)) b es clock ((w.heap.size, v) :: cs) := by
  obtain ⟨hb, hl, hB, hc⟩ := h
  have hbl := lt_of_block hb
  refine ⟨((heap_alloc w _).2 b hbl).trans hb, hl.alloc hl.size _, hB, ?_⟩
  intro x hx
  rcases List.mem_cons.1 hx with rfl | hx
  · exact ⟨⟨t, (heap_alloc w _).1⟩, by dsimp only; omega, hl.size⟩
  · obtain ⟨⟨t', ht⟩, hne, hle⟩ := hc x hx
    exact ⟨⟨t', ((heap_alloc w _).2 _ (lt_of_block ht)).trans ht⟩, hne, hle⟩

def BoxOf (w w' : World) (v : Value) : Prop := ∃ t, w' = w.alloc (.cells #[v] t)
theorem BM.boxed {w0 w w' : World} {b : Nat} {es : Array MapEntry} {clock : Nat} {cs : List (Nat × Value)} {v : Value} (h : BM w0 w b es clock cs) (hx : BoxOf w w' v) : BM w0 w' b es clock ((w.heap.size, v) :: cs) := by
  obtain ⟨t, rfl⟩ := hx
  exact h.box v t

theorem wpList_insert_new {P : Program} {w0 : World} (w : World) {ops : Array Oper} {rest : List Oper} {o : Oper} {a : Act} {Q : Exit → Act → World → Prop}
    (hg : o.guard = none) (m x v : Operand) (t : TypeId) (hop : o.op = Op.insert t m x v)
    (k e : TypeId) (ht : P.underlying t = some (.map k e)) (hk : P.underlying k = some (.int .i64)) (b : Nat) (n : Int) (val : Value) (es : Array MapEntry) (clock : Nat) (cs : List (Nat × Value))
    (hm : a.eval m = .map (some b)) (hx : a.eval x = .int .i64 n) (hv : a.eval v = val) (hb : BM w0 w b es clock cs)
    (hno : Instr.findNow (.int .i64) (.int .i64 n) es.toList 0 = some none)
    (hK : ∀ w', BM w0 w' b (es.push ⟨.int .i64 n, val, clock⟩) (clock + 1) cs → wpList P ops Q rest (a.put o.dst undef) w') :
    wpList P ops Q (o :: rest) a w := by
  refine wpList_plain hg fun K' hK' => ?_
  have hrun := run_mapUpdate_new ht hk hb.1 n val hno
  unfold Oper.wp
  simp [execOp, hop, hm, hx, hv, hrun, Result.andThen]
  exact hK' _ _ (hK _ hb.insert)


theorem run_lookup2_lit {P : Program} {t k e : TypeId} (ht : P.underlying t = some (.map k e)) (hk : P.underlying k = some (.int .i64)) {w : World} {b : Nat} {es : Array MapEntry} {clock : Nat}
    (hb : w.heap[b]? = some (.map es clock)) (n : Int) (v : Value) (i : Nat) (hf : Instr.findNow (.int .i64) (.int .i64 n) es.toList 0 = some (some (i, v))) :
    (Instr.lookup t (.map (some b)) (.int .i64 n) true).run P w = .ok (.tuple #[v, .bool true]) w := by
  have hik : IsKey (.int .i64) (.int .i64 n) := by simp [IsKey]
  simp [Instr.lookup, run_underlying ht, Go.MapKept.run_getObj_map hb, run_checkKey hk hik, run_findKey hk hf, Result.andThen]
theorem run_lookup2_none {P : Program} {t k e : TypeId} (ht : P.underlying t = some (.map k e)) (hk : P.underlying k = some (.int .i64)) {w : World} {b : Nat} {es : Array MapEntry} {clock : Nat}
    (hb : w.heap[b]? = some (.map es clock)) (n : Int) (z : Value) (hz : (zeroValue e).run P w = .ok z w) (hf : Instr.findNow (.int .i64) (.int .i64 n) es.toList 0 = some none) :
    (Instr.lookup t (.map (some b)) (.int .i64 n) true).run P w = .ok (.tuple #[z, .bool false]) w := by
  have hik : IsKey (.int .i64) (.int .i64 n) := by simp [IsKey]
  simp [Instr.lookup, run_underlying ht, Go.MapKept.run_getObj_map hb, run_checkKey hk hik, run_findKey hk hf, hz, Result.andThen]
def partsEs : Array MapEntry := #[⟨.int .i64 1, .int .i64 3, 0⟩, ⟨.int .i64 2, .int .i64 5, 1⟩, ⟨.int .i64 3, .int .i64 9, 2⟩, ⟨.int .i64 4, .int .i64 10, 3⟩, ⟨.int .i64 5, .int .i64 19, 4⟩, ⟨.int .i64 6, .int .i64 21, 5⟩, ⟨.int .i64 7, .int .i64 33, 6⟩, ⟨.int .i64 8, .int .i64 37, 7⟩, ⟨.int .i64 9, .int .i64 1, 8⟩, ⟨.int .i64 10, .int .i64 1, 9⟩, ⟨.int .i64 11, .int .i64 3, 10⟩, ⟨.int .i64 12, .int .i64 3, 11⟩, ⟨.int .i64 13, .int .i64 5, 12⟩, ⟨.int .i64 14, .int .i64 65, 13⟩, ⟨.int .i64 15, .int .i64 3, 14⟩, ⟨.int .i64 16, .int .i64 67, 15⟩, ⟨.int .i64 17, .int .i64 128, 16⟩, ⟨.int .i64 18, .int .i64 192, 17⟩, ⟨.int .i64 19, .int .i64 128, 18⟩, ⟨.int .i64 20, .int .i64 0, 19⟩]
def PartsAt (w : World) (b : Nat) : Prop := w.heap[b]? = some (.map partsEs 20)
theorem PartsAt.below {w w' : World} {b : Nat} (h : PartsAt w b) (hb : Below w.heap.size w w') : PartsAt w' b := (hb.block b (blk_lt h)).trans h
def PartsPost (w : World) (e : Ending) (w' : World) : Prop := ∃ b, e = .returned (.map (some b)) ∧ PartsAt w' b ∧ w.heap.size ≤ b ∧ Below w.heap.size w w'
set_option maxRecDepth 100000 in
set_option maxHeartbeats 4000000 in
theorem parts99_any (w : World) : Calls Tryz.prog 99 #[] w (PartsPost w) := by
  have hmm := @run_makeMap Tryz.prog
  have hbm : BM w (w.alloc (.map #[] 0)) w.heap.size #[] 0 [] := BM.made (Below.refl _ _)
  go_enter Tryz.func99, Tryz.ntmps99
  go_wp2_with (refine wpList_insert_new (w0 := w) _ rfl _ _ _ _ rfl _ _ Tryz.underlying123 Tryz.underlying23 _ _ _ _ _ _ rfl rfl rfl hbm rfl ?_; clear hbm; intro w1 hbm; simp [Act.eval, Act.put] at hbm)
  go_ret
  exact ⟨_, rfl, hbm.1, hbm.2.2.1, hbm.2.1⟩
theorem find_parts : ∀ (L : List MapEntry) (n : Int) (i : Nat), (∀ x ∈ L, ∃ k v c, x = ⟨.int .i64 k, v, c⟩ ∧ k ≠ n) → Instr.findNow (.int .i64) (.int .i64 n) L i = some none
  | [], n, i, _ => rfl
  | x :: L, n, i, h => by
    obtain ⟨k, v, c, rfl, hne⟩ := h x (by simp)
    have ih := find_parts L n (i + 1) (fun y hy => h y (by simp [hy]))
    have hb : (n == k) = false := beq_no (Ne.symm hne)
    simp [Instr.findNow, Instr.sameNow, hb, ih]
theorem parts_no (op : Int) (h : ¬ (1 ≤ op ∧ op ≤ 20)) : Instr.findNow (.int .i64) (.int .i64 op) partsEs.toList 0 = some none := by
  refine find_parts _ _ _ fun x hx => ?_
  have hx : x ∈ [⟨.int .i64 1, .int .i64 3, 0⟩, ⟨.int .i64 2, .int .i64 5, 1⟩, ⟨.int .i64 3, .int .i64 9, 2⟩, ⟨.int .i64 4, .int .i64 10, 3⟩, ⟨.int .i64 5, .int .i64 19, 4⟩, ⟨.int .i64 6, .int .i64 21, 5⟩, ⟨.int .i64 7, .int .i64 33, 6⟩, ⟨.int .i64 8, .int .i64 37, 7⟩, ⟨.int .i64 9, .int .i64 1, 8⟩, ⟨.int .i64 10, .int .i64 1, 9⟩, ⟨.int .i64 11, .int .i64 3, 10⟩, ⟨.int .i64 12, .int .i64 3, 11⟩, ⟨.int .i64 13, .int .i64 5, 12⟩, ⟨.int .i64 14, .int .i64 65, 13⟩, ⟨.int .i64 15, .int .i64 3, 14⟩, ⟨.int .i64 16, .int .i64 67, 15⟩, ⟨.int .i64 17, .int .i64 128, 16⟩, ⟨.int .i64 18, .int .i64 192, 17⟩, ⟨.int .i64 19, .int .i64 128, 18⟩, ⟨.int .i64 20, .int .i64 0, 19⟩] := hx
  simp only [List.mem_cons, List.not_mem_nil, or_false] at hx
  rcases hx with rfl | rfl | rfl | rfl | rfl | rfl | rfl | rfl | rfl | rfl | rfl | rfl | rfl | rfl | rfl | rfl | rfl | rfl | rfl | rfl <;> exact ⟨_, _, _, rfl, by omega⟩
theorem zero3 (w : World) : (zeroValue 3).run Tryz.prog w = .ok (.int .i64 0) w := by kernel_rfl
theorem look_no {w : World} {b : Nat} (hp : PartsAt w b) (op : Int) (h : ¬ (1 ≤ op ∧ op ≤ 20)) : (Instr.lookup 123 (.map (some b)) (.int .i64 op) true).run Tryz.prog w = .ok (.tuple #[.int .i64 0, .bool false]) w :=
  run_lookup2_none Tryz.underlying123 Tryz.underlying23 hp op _ (zero3 w) (parts_no op h)
theorem parts_yes : ∀ k : Fin 20, Instr.findNow (.int .i64) (.int .i64 ((k.val : Nat) + 1 : Int)) partsEs.toList 0 = some (some (k.val, .int .i64 ((maskL.getD k.val 0 : Nat) : Int))) := by
  intro k
  obtain ⟨k, hk⟩ := k
  rcases (show k = 0 ∨ k = 1 ∨ k = 2 ∨ k = 3 ∨ k = 4 ∨ k = 5 ∨ k = 6 ∨ k = 7 ∨ k = 8 ∨ k = 9 ∨ k = 10 ∨ k = 11 ∨ k = 12 ∨ k = 13 ∨ k = 14 ∨ k = 15 ∨ k = 16 ∨ k = 17 ∨ k = 18 ∨ k = 19 by omega) with rfl | rfl | rfl | rfl | rfl | rfl | rfl | rfl | rfl | rfl | rfl | rfl | rfl | rfl | rfl | rfl | rfl | rfl | rfl | rfl <;> rfl
theorem look_yes {w : World} {b : Nat} (hp : PartsAt w b) (k : Fin 20) : (Instr.lookup 123 (.map (some b)) (.int .i64 ((k.val : Nat) + 1 : Int)) true).run Tryz.prog w = .ok (.tuple #[.int .i64 ((maskL.getD k.val 0 : Nat) : Int), .bool true]) w :=
  run_lookup2_lit Tryz.underlying123 Tryz.underlying23 hp _ _ k.val (parts_yes k)
end Go.Proofs.YtmimmnjdgpdjlaaGreatDoor
namespace Go.Proofs.YtmimmnjdgpdjlaaGreatDoor
open Go.RowKit Go.Lib Go.Shelf

def Sub (w : World) : Type := { w' : World // Below w.heap.size w w' }
instance (w : World) : Nonempty (Sub w) := ⟨⟨w, Below.refl _ _⟩⟩
theorem wp_region_below {P : Program} {id : Nat} {Q : Exit → Act → World → Prop} {a : Act} {w : World} {l : List Oper} (hm : P.follows .mixedOrders = true) (hB : Region.lexB .any l.toArray = true)
    (h : wpQuiet P l.toArray (fun w' => ∃ s : Sub w, w' = s.val) (fun a' => ∀ w', (∃ s : Sub w, w' = s.val) → Q .normal a' w') l a) : (Code.region id l.toArray true).wp P Q a w :=
  wp_region_quiet (C := fun w' => ∃ s : Sub w, w' = s.val) hm hB ⟨⟨{ w with drawn := w.drawn + 1 }, (Below.refl _ _).drew⟩, rfl⟩ (by simpa using h)
theorem Sub.cell {w : World} {b o : Nat} {v : Value} (h : w.cell? ⟨b, o, none⟩ = some v) : ∀ s : Sub w, s.val.cell? ⟨b, o, none⟩ = some v :=
  fun s => (s.property.cell (p := ⟨b, o, none⟩) (World.block_lt_of_cell? w _ h)).trans h
theorem Sub.call {P : Program} {f : FuncId} {args : Array Value} {w : World} {s : Sub w} {v : Value} (h : Calls P f args s.val fun e w' => e = .returned v ∧ Below s.val.heap.size s.val w') :
    Calls P f args s.val fun e w'' => e = .returned v ∧ ∃ t : Sub w, w'' = t.val :=
  h.mono fun _ w'' ⟨he, hb⟩ => ⟨he, ⟨w'', Below.next s.property hb⟩, rfl⟩
theorem below_drewN {B : Nat} {a w : World} (h : Below B a w) (n : Nat) : Below B a (w.drewN n) := ⟨h.os, h.tape, h.output, h.size, h.block⟩

section
variable {P : Program} {ops : Array Oper} {md : Region.Mode} {C : World → Prop}
/-- the head, whatever order is picked: nothing of the tail comes up -/
def wpAnyM (P : Program) (md : Region.Mode) (ops : Array Oper) (C : World → Prop) (n : Nat) (L : Array Bool → Act → Prop) : Nat → Array Bool → Act → Prop
  | 0, listed, a => L listed a
  | f + 1, listed, a =>
    Region.ready md ops listed ≠ [] ∧ ∀ i ∈ Region.ready md ops listed, i < n ∧ qOp P ops C i (wpAnyM P md ops C n L f (listed.setIfInBounds i true)) a
theorem wpAny_of_headM {n g : Nat} {L : Array Bool → Act → Prop} {Q' : Exit → Act → World → Prop} (hL : ∀ listed a w, C w → L listed a → wpAny P md ops Q' g listed a w) :
    ∀ (f : Nat) (listed : Array Bool) (a : Act) (w : World), C w → wpAnyM P md ops C n L f listed a → wpAny P md ops Q' (f + g) listed a w
  | 0, listed, a, w, hw, h => by rw [Nat.zero_add]; exact hL _ _ _ hw h
  | f + 1, listed, a, w, hw, h => by
    rw [show f + 1 + g = (f + g) + 1 by omega]
    exact ⟨fun h0 => absurd h0 h.1, fun i hi => wpOp_of_qOp hw (fun a' w' hw' h' => wpAny_of_headM hL f _ a' w' hw' h') (h.2 i hi).2⟩
theorem Oper.wpIn_of_quiet {m : Nat} {o : Oper} {a : Act} {K : Act → Prop} {K' : Act → World → Prop} {Q' : Exit → Act → World → Prop} {w : World} (hw : C w) (h : ∀ a w', C w' → K a → K' a w') (hh : o.quiet P a C K) : o.wpIn Fence.wide m P a w K' Q' := by
  obtain ⟨v, h1, h2⟩ := hh
  have h3 := h1 w hw
  unfold Oper.quietAt at h3
  refine ⟨fun f _ => trivial, ?_⟩
  show Oper.uponIn Fence.wide m P o a K' Q' ((o.semAt none a.eval).run P w)
  rw [Oper.semAt_none]
  generalize (execOp a.eval o).run P w = r at *
  cases r with
  | ok n w' =>
    cases n <;> simp only [Oper.quietUpon] at h3 <;> simp only [Oper.uponIn]
    case value u =>
      obtain ⟨e1, e2⟩ := h3
      rw [e1, e2]
      exact h _ _ hw h2
    case skip =>
      obtain ⟨e1, e2⟩ := h3
      rw [e1, ← e2]
      exact h _ _ hw h2
    case enter f args =>
      obtain ⟨e1, hc⟩ := h3
      rw [e1]
      refine ⟨fun hd => absurd hd (by simp [Fence.wide]), (callsIn_wide.2 hc).mono fun e w'' ⟨he, hw''⟩ => ?_⟩
      subst he
      exact h _ _ hw'' h2
  | halt x w' => simp only [Oper.quietUpon] at h3
theorem wpOpIn_of_qOp {m i : Nat} {a : Act} {K : Act → Prop} {K' : Act → World → Prop} {Q' : Exit → Act → World → Prop} {w : World} (hC : C w) (h : ∀ a w', C w' → K a → K' a w') (hh : qOp P ops C i K a) : wpOpIn Fence.wide m P ops Q' i K' a w := by
  unfold qOp at hh
  unfold wpOpIn
  split
  · rename_i ho; simp only [ho] at hh; exact h _ _ hC hh
  · rename_i o ho
    simp only [ho] at hh
    split
    · rename_i hw; simp only [hw, if_true] at hh; exact Oper.wpIn_of_quiet hC h hh
    · rename_i hw; simp only [hw] at hh; exact ⟨fun f _ => trivial, h _ _ hC hh⟩
theorem wpAnyIn_of_headM {m n g : Nat} {L : Array Bool → Act → Prop} {Q' : Exit → Act → World → Prop} (hL : ∀ listed a w, C w → L listed a → wpAnyIn Fence.wide m P md ops Q' g listed a w) :
    ∀ (f : Nat) (listed : Array Bool) (a : Act) (w : World), C w → wpAnyM P md ops C n L f listed a → wpAnyIn Fence.wide m P md ops Q' (f + g) listed a w
  | 0, listed, a, w, hw, h => by rw [Nat.zero_add]; exact hL _ _ _ hw h
  | f + 1, listed, a, w, hw, h => by
    rw [show f + 1 + g = (f + g) + 1 by omega]
    exact ⟨fun h0 => absurd h0 h.1, fun i hi => wpOpIn_of_qOp hw (fun a' w' hw' h' => wpAnyIn_of_headM hL f _ a' w' hw' h') (h.2 i hi).2⟩

theorem wpAnyM_first {n i : Nat} {oi : Oper} {v : Value} {L : Array Bool → Act → Prop} (hi : ops[i]? = some oi) (hsel : ∀ (j : Nat) (o : Oper) cs b, ops[j]? = some o → o.op ≠ .select cs b)
    (hs : Region.sinkB md ops n = true) (hc : Region.chainB md ops n = true) (hn : n < ops.size) (hin : i < n)
    (hdone : ∀ listed a, L listed a → ∀ j ∈ Region.ready md ops listed, n ≤ j) :
    ∀ (f : Nat) (listed : Array Bool) (a : Act), HeadInv md ops n listed →
      (∀ j oj, ops[j]? = some oj → j ≠ i → listed.getD j true = false → (∀ e ∈ oj.after, Region.binds md e = true → e.on ≠ i) → oi.apart ops oj = true) →
      i ∈ Region.ready md ops listed → YieldsIn P ops C oi v a →
      wpAnyM P md ops C n L f (listed.setIfInBounds i true) (a.put oi.dst v) → wpAnyM P md ops C n L (f + 1) listed a := by
  intro f
  induction f with
  | zero =>
    intro listed a inv _ hr hy H
    have hun := (mem_ready.1 hr).1
    refine ⟨fun h => (by rw [h] at hr; cases hr), fun j hj => ?_⟩
    have hjn : j < n := by
      rcases Nat.lt_or_ge j n with h | h
      · exact h
      · exact absurd hj (tail_waits hs hc hn inv _ i rfl hin hun j h)
    refine ⟨hjn, ?_⟩
    by_cases hji : j = i
    · subst hji; exact hy.qOp hi H
    · have := hdone _ _ H j (ready_mono hj hji)
      omega
  | succ f ih =>
    intro listed a inv hfree hr hy H
    have hun := (mem_ready.1 hr).1
    refine ⟨fun h => (by rw [h] at hr; cases hr), fun j hj => ?_⟩
    have hjn : j < n := by
      rcases Nat.lt_or_ge j n with h | h
      · exact h
      · exact absurd hj (tail_waits hs hc hn inv _ i rfl hin hun j h)
    refine ⟨hjn, ?_⟩
    by_cases hji : j = i
    · subst hji; exact hy.qOp hi H
    · have h1 := (H.2 j (ready_mono hj hji)).2
      obtain ⟨hjun, oj, hoj, hall⟩ := mem_ready.1 hj
      have hnot : ∀ e ∈ oj.after, Region.binds md e = true → e.on ≠ i := fun e he hb heq => by
        have h1 := hall e he hb
        rw [heq, getD_both hun] at h1
        cases h1
      have h2 := qOp_put hoj (hfree j oj hoj hji hjun hnot) (fun cs b => hsel i oi cs b hi) (fun cs b => hsel j oj cs b hoj) hy h1
      have hfree' : ∀ k ok, ops[k]? = some ok → k ≠ i → (listed.setIfInBounds j true).getD k true = false →
          (∀ e ∈ ok.after, Region.binds md e = true → e.on ≠ i) → oi.apart ops ok = true := fun k ok hk hki hun hno => by
        refine hfree k ok hk hki ?_ hno
        by_cases hjk : j = k
        · subst hjk; exact hjun
        · rw [getD_set_ne true hjk] at hun; exact hun
      refine qOp_mono (fun a' h3 => ih (listed.setIfInBounds j true) a' (inv.set hj hjn) hfree' (ready_mono hr (Ne.symm hji)) h3.1 ?_) h2
      rw [Array.setIfInBounds_comm _ _ hji]
      exact h3.2
theorem wpAnyM_lex {n g : Nat} {Lq : Act → Prop} (hsel : Region.noSelect ops = true) (hs : Region.sinkB md ops n = true) (hc : Region.chainB md ops n = true) (hn : n < ops.size) :
    ∀ (l : List Oper) (k : Nat) (listed : Array Bool) (a : Act), (∀ j, j < l.length → l[j]? = ops[k + j]?) → k + l.length = n → HeadInv md ops n listed →
    Region.lexHead md ops g l.length k listed = true → wpQuiet P ops C Lq l a →
    wpAnyM P md ops C n (fun listed' a' => Region.seqB md ops g n listed' = true ∧ Lq a') l.length listed a
  | [], k, listed, a, _, hk, _, hB, h => by
    have : k = n := by simpa using hk
    subst this
    exact ⟨by simpa [Region.lexHead] using hB, h⟩
  | o :: l, k, listed, a, hl, hk, inv, hB, h => by
    have h0 : ops[k]? = some o := by simpa using (hl 0 (by simp)).symm
    simp only [List.length_cons, Region.lexHead, Bool.and_eq_true] at hB
    obtain ⟨⟨hr, hf⟩, hB'⟩ := hB
    have hkn : k < n := by simp only [List.length_cons] at hk; omega
    have hr' : k ∈ Region.ready md ops listed := by simpa using hr
    have hst : qOp P ops C k (wpQuiet P ops C Lq l) a := by unfold qOp; simp only [h0]; exact h
    obtain ⟨v, hy, hK⟩ := yieldsIn_of_qOp h0 hst
    exact wpAnyM_first h0 (Region.noSelect_spec hsel) hs hc hn hkn (fun listed' a' hL => seqB_ready hL.1) l.length listed a inv (Region.free_spec h0 hf) hr' hy
      (wpAnyM_lex hsel hs hc hn l (k + 1) _ _ (fun j hj => by have := hl (j + 1) (by simp; omega); simpa [Nat.add_assoc, Nat.add_comm 1 j] using this) (by simp only [List.length_cons] at hk; omega) (inv.set hr' hkn) hB' hK)
theorem wpAnyIn_of_seq {m : Nat} {Q' : Exit → Act → World → Prop} : ∀ (l : List Oper) (k : Nat) (listed : Array Bool) (a : Act) (w : World), (∀ j, l[j]? = ops[k + j]?) →
    Region.seqB md ops l.length k listed = true → wpListIn Fence.wide m P ops Q' l a w → wpAnyIn Fence.wide m P md ops Q' l.length listed a w
  | [], _, _, _, _, _, hB, h => ⟨by simpa [Region.seqB] using hB, h⟩
  | o :: l, k, listed, a, w, hl, hB, h => by
    have h0 : ops[k]? = some o := by simpa using (hl 0).symm
    simp only [List.length_cons, Region.seqB, Bool.and_eq_true, decide_eq_true_eq] at hB
    refine ⟨fun h1 => (by rw [hB.1] at h1; cases h1), fun i hi => ?_⟩
    rw [hB.1] at hi
    have hik : i = k := by simpa using hi
    subst hik
    have hw : wpOpIn Fence.wide m P ops Q' i (wpListIn Fence.wide m P ops Q' l) a w := by unfold wpOpIn; simp only [h0]; exact h
    exact wpOpIn_mono (fun a' w' h' => wpAnyIn_of_seq l (i + 1) _ a' w' (fun j => by have := hl (j + 1); simpa [Nat.add_assoc, Nat.add_comm 1 j] using this) hB.2 h') hw
theorem quiet_tail_head {a : Act} {l : List Oper} {Lq : Act → Prop} (n : Nat) (hB : Region.lexTailB .any l.toArray n = true) (h : wpQuiet P l.toArray C Lq (l.take n) a) :
    n + (l.toArray.size - n) = l.toArray.size ∧ wpAnyM P .any l.toArray C n (fun listed' a' => Region.seqB .any l.toArray (l.toArray.size - n) n listed' = true ∧ Lq a') n (Array.replicate l.toArray.size false) a := by
  simp only [Region.lexTailB, Bool.and_eq_true, decide_eq_true_eq] at hB
  obtain ⟨⟨⟨⟨hsel, hn⟩, hs⟩, hc⟩, hlex⟩ := hB
  have hn' : n < l.length := by simpa using hn
  have htl : (l.take n).length = n := by simp; omega
  have inv0 : HeadInv .any l.toArray n (Array.replicate l.toArray.size false) :=
    ⟨by simp, fun j oj _ hl => (by rw [getD_replicate_false] at hl; cases hl), fun t _ ht => getD_in (by simpa using ht) (getD_replicate_false _ _)⟩
  have H := wpAnyM_lex (md := .any) (g := l.toArray.size - n) hsel hs hc hn (l.take n) 0 _ a (fun j hj => by
    have hj' : j < n := by rw [htl] at hj; exact hj
    simp [hj']) (by simpa using htl) inv0 (by rw [htl]; exact hlex) h
  rw [htl] at H
  exact ⟨by omega, H⟩
/-- the head quiet in a class of worlds, the tail in its one order -/
theorem wp_region_quiet_tail {id : Nat} {Q : Exit → Act → World → Prop} {a : Act} {w : World} {l : List Oper} (n : Nat) (hm : P.follows .mixedOrders = true) (hB : Region.lexTailB .any l.toArray n = true) (hC : C { w with drawn := w.drawn + 1 })
    (h : wpQuiet P l.toArray C (fun a' => ∀ w', C w' → wpList P l.toArray Q (l.drop n) a' w') (l.take n) a) : (Code.region id l.toArray true).wp P Q a w := by
  obtain ⟨he, H⟩ := quiet_tail_head n hB h
  refine wp_region_any hm ?_
  have hdl : (l.drop n).length = l.toArray.size - n := by simp
  have := wpAny_of_headM (Q' := Q) (g := l.toArray.size - n) (fun listed a' w' hw' hL => by
    have := wpAny_of_seq (md := .any) (Q' := Q) (l.drop n) n listed a' w' (fun j => by simp [List.getElem?_drop]) (by rw [hdl]; exact hL.1) (hL.2 w' hw')
    rwa [hdl] at this) _ _ _ _ hC H
  rw [he] at this
  exact this
theorem wpIn_region_quiet_tail {m id : Nat} {Q : Exit → Act → World → Prop} {a : Act} {w : World} {l : List Oper} (n : Nat) (hm : P.follows .mixedOrders = true) (hB : Region.lexTailB .any l.toArray n = true) (hC : C { w with drawn := w.drawn + 1 })
    (h : wpQuiet P l.toArray C (fun a' => ∀ w', C w' → wpListIn Fence.wide m P l.toArray Q (l.drop n) a' w') (l.take n) a) : (Code.region id l.toArray true).wpIn Fence.wide m P Q a w := by
  obtain ⟨he, H⟩ := quiet_tail_head n hB h
  refine wpIn_region_any hm ?_
  have hdl : (l.drop n).length = l.toArray.size - n := by simp
  have := wpAnyIn_of_headM (m := m) (Q' := Q) (g := l.toArray.size - n) (fun listed a' w' hw' hL => by
    have := wpAnyIn_of_seq (m := m) (md := .any) (Q' := Q) (l.drop n) n listed a' w' (fun j => by simp [List.getElem?_drop]) (by rw [hdl]; exact hL.1) (hL.2 w' hw')
    rwa [hdl] at this) _ _ _ _ hC H
  rw [he] at this
  exact this
end
/-- the worlds that have grown out of w -/
theorem wp_region_below_tail {P : Program} {id : Nat} {Q : Exit → Act → World → Prop} {a : Act} {w : World} {l : List Oper} (n : Nat) (hm : P.follows .mixedOrders = true) (hB : Region.lexTailB .any l.toArray n = true)
    (h : wpQuiet P l.toArray (fun w' => ∃ s : Sub w, w' = s.val) (fun a' => ∀ w', (∃ s : Sub w, w' = s.val) → wpList P l.toArray Q (l.drop n) a' w') (l.take n) a) : (Code.region id l.toArray true).wp P Q a w :=
  wp_region_quiet_tail (C := fun w' => ∃ s : Sub w, w' = s.val) n hm hB ⟨⟨{ w with drawn := w.drawn + 1 }, (Below.refl _ _).drew⟩, rfl⟩ h
theorem wpIn_region_below_tail {m : Nat} {P : Program} {id : Nat} {Q : Exit → Act → World → Prop} {a : Act} {w : World} {l : List Oper} (n : Nat) (hm : P.follows .mixedOrders = true) (hB : Region.lexTailB .any l.toArray n = true)
    (h : wpQuiet P l.toArray (fun w' => ∃ s : Sub w, w' = s.val) (fun a' => ∀ w', (∃ s : Sub w, w' = s.val) → wpListIn Fence.wide m P l.toArray Q (l.drop n) a' w') (l.take n) a) : (Code.region id l.toArray true).wpIn Fence.wide m P Q a w :=
  wpIn_region_quiet_tail (C := fun w' => ∃ s : Sub w, w' = s.val) n hm hB ⟨⟨{ w with drawn := w.drawn + 1 }, (Below.refl _ _).drew⟩, rfl⟩ h
end Go.Proofs.YtmimmnjdgpdjlaaGreatDoor
namespace Go.Proofs.YtmimmnjdgpdjlaaGreatDoor
open Go.RowKit Go.Lib Go.Shelf

theorem guard32 : Tryz.prog.eqGuardType Tryz.prog.depth 32 = false := by kernel_rfl
theorem held32 : Tryz.prog.stoodInHeld 32 = false := by kernel_rfl
theorem held30 : Tryz.prog.stoodInHeld 30 = false := by kernel_rfl
theorem stepB {α : Type} [DecidableEq α] {a b : α} {c : Bool} {w : World} {R : Result Bool} (h : R = .ok c w) : (if a = b then R else .ok false w) = .ok (decide (a = b) && c) w := by
  by_cases e : a = b
  · rw [if_pos e, h, decide_eq_true e, Bool.true_and]
  · rw [if_neg e, decide_eq_false e, Bool.false_and]
theorem lastB {α : Type} [DecidableEq α] {a b : α} {w : World} : (if a = b then Result.ok true w else .ok false w) = .ok (decide (a = b)) w := by
  by_cases e : a = b
  · rw [if_pos e, decide_eq_true e]
  · rw [if_neg e, decide_eq_false e]
theorem in_eq_iff (a0 a1 a2 a3 a4 a5 : Int) (a6 : Nat) (a7 a8 : Int) (a9 a10 : Bool) (a11 a12 b0 b1 b2 b3 b4 b5 : Int) (b6 : Nat) (b7 b8 : Int) (b9 b10 : Bool) (b11 b12 : Int) :
    (decide (a0 = b0) && (decide (a1 = b1) && (decide (a2 = b2) && (decide (a3 = b3) && (decide (a4 = b4) && (decide (a5 = b5) && (decide ((a6 : Int) = (b6 : Int)) && (decide (a7 = b7) && (decide (a8 = b8) && (decide (a9 = b9) && (decide (a10 = b10) && (decide (a11 = b11) && decide (a12 = b12))))))))))))) =
      decide (In.mk a0 a1 a2 a3 a4 a5 a6 a7 a8 a9 a10 a11 a12 = ⟨b0, b1, b2, b3, b4, b5, b6, b7, b8, b9, b10, b11, b12⟩) := by
  rw [Bool.eq_iff_iff]
  simp only [Bool.and_eq_true, decide_eq_true_eq, In.mk.injEq, Int.natCast_inj]
theorem eqIn13 (i j : In) (w : World) : (Op.equalIn 10000 32 (inV i) (inV j)).run Tryz.prog w = .ok (decide (i = j)) w := by
  obtain ⟨a0, a1, a2, a3, a4, a5, a6, a7, a8, a9, a10, a11, a12⟩ := i
  obtain ⟨b0, b1, b2, b3, b4, b5, b6, b7, b8, b9, b10, b11, b12⟩ := j
  rw [← in_eq_iff]
  simp only [inV, inC]
  simp [go_sem, Tryz.underlying32, Tryz.underlying30, held32, held30]
  exact stepB (stepB (stepB (stepB (stepB (stepB (stepB (stepB (stepB (stepB (stepB (stepB lastB)))))))))))
theorem run_eq13 (i j : In) (w : World) : (binOp BinOp.eql 32 (inV i) (inV j)).run Tryz.prog w = .ok (.bool (decide (i = j))) w := by
  have h := eqIn13 i j w
  unfold inV at h ⊢
  rw [run_eql_struct, h]
  rfl
theorem run_ne13 (i j : In) (w : World) : (binOp BinOp.neq 32 (inV i) (inV j)).run Tryz.prog w = .ok (.bool (!decide (i = j))) w := by
  have h := eqIn13 i j w
  unfold inV at h ⊢
  rw [run_neq_struct, h]
  rfl

section
variable {P : Program} {C : World → Prop} {a : Act} {o : Oper} {K : Act → Prop}
theorem quiet_run {v : Value} (h : ∀ w, C w → (execOp a.eval o).run P w = .ok (.value v) w) (hk : K (a.put o.dst v)) : o.quiet P a C K :=
  ⟨v, fun w hw => by unfold Oper.quietAt; rw [h w hw]; exact ⟨rfl, rfl⟩, hk⟩
/-- two values of a struct's type compared -/
theorem quiet_neq_agg (t t' : TypeId) (x y : Operand) (ho : o.op = .binOp .neq t x y t') (xs ys : Array Value) (v : Value) (hx : a.eval x = .agg xs) (hy : a.eval y = .agg ys) (hm : P.eqGuardType P.depth t = false) (hr : ∀ w, (binOp .neq t (.agg xs) (.agg ys)).run P w = .ok v w) (h : K (a.put o.dst v)) : o.quiet P a C K :=
  quiet_run (fun w hw => by
    unfold execOp
    simp only [ho, hx, hy, Sem.run_bind, Sem.run_pure, Result.andThen_ok, run_eqGuard_agg w .neq t x y xs ys hm, hr w]) h
end

theorem may5 : ∀ e r1 r2 ad : Bool, e = false ∨ (e = true ∧ r1 = false) ∨ (e = true ∧ r1 = true ∧ r2 = false) ∨ (e = true ∧ r1 = true ∧ r2 = true ∧ ad = false) ∨ (e = true ∧ r1 = true ∧ r2 = true ∧ ad = true) := by decide
def mayX (e r1 r2 ad B S : Bool) (bn sh cd lb op : Int) (im : Nat) : Bool :=
  e && (r1 && r2 && ad) && ((!B || decide (1 ≤ bn) && decide (bn ≤ 8)) && (!S || decide (1 ≤ sh) && decide (sh ≤ 5))) && (decide (0 ≤ cd) && decide (cd ≤ 15) && (decide (0 ≤ lb) && decide (lb ≤ 1048576))) && (if op = 6 ∨ op = 13 then shortN im else if op = 8 then decide (im < 64) else true)
theorem mayX_bad {e r1 r2 ad B S : Bool} {bn sh cd lb op : Int} {im : Nat} (h : e = false ∨ r1 = false ∨ r2 = false ∨ ad = false) : mayX e r1 r2 ad B S bn sh cd lb op im = false := by
  unfold mayX
  rcases h with rfl | rfl | rfl | rfl <;> simp
theorem mayX_bn {B S : Bool} {bn sh cd lb op : Int} {im : Nat} (hB : B = true) (h : bn < 1 ∨ 8 < bn) : mayX true true true true B S bn sh cd lb op im = false := by
  unfold mayX
  subst hB
  rcases h with h | h
  · rw [decide_eq_false (show ¬ 1 ≤ bn by omega)]; simp
  · rw [decide_eq_false (show ¬ bn ≤ 8 by omega)]; simp
theorem mayX_sh {B S : Bool} {bn sh cd lb op : Int} {im : Nat} (hS : S = true) (h : sh < 1 ∨ 5 < sh) : mayX true true true true B S bn sh cd lb op im = false := by
  unfold mayX
  subst hS
  rcases h with h | h
  · rw [decide_eq_false (show ¬ 1 ≤ sh by omega)]; simp
  · rw [decide_eq_false (show ¬ sh ≤ 5 by omega)]; simp
theorem mayX_cd {B S : Bool} {bn sh cd lb op : Int} {im : Nat} (h : cd < 0 ∨ 15 < cd ∨ lb < 0 ∨ 1048576 < lb) : mayX true true true true B S bn sh cd lb op im = false := by
  unfold mayX
  rcases h with h | h | h | h
  · rw [decide_eq_false (show ¬ 0 ≤ cd by omega)]; simp
  · rw [decide_eq_false (show ¬ cd ≤ 15 by omega)]; simp
  · rw [decide_eq_false (show ¬ 0 ≤ lb by omega)]; simp
  · rw [decide_eq_false (show ¬ lb ≤ 1048576 by omega)]; simp
theorem mayX_on {B S : Bool} {bn sh cd lb op : Int} {im : Nat} (h1 : B = false ∨ 1 ≤ bn ∧ bn ≤ 8) (h2 : S = false ∨ 1 ≤ sh ∧ sh ≤ 5) (h3 : 0 ≤ cd ∧ cd ≤ 15) (h4 : 0 ≤ lb ∧ lb ≤ 1048576) :
    mayX true true true true B S bn sh cd lb op im = (if op = 6 ∨ op = 13 then shortN im else if op = 8 then decide (im < 64) else true) := by
  unfold mayX
  rw [decide_eq_true h3.1, decide_eq_true h3.2, decide_eq_true h4.1, decide_eq_true h4.2]
  rcases h1 with rfl | h1
  · rcases h2 with rfl | h2
    · simp
    · rw [decide_eq_true h2.1, decide_eq_true h2.2]; simp
  · rw [decide_eq_true h1.1, decide_eq_true h1.2]
    rcases h2 with rfl | h2
    · simp
    · rw [decide_eq_true h2.1, decide_eq_true h2.2]; simp
theorem mayP_eq (i : In) (p : Nat) : mayP i p = mayX (decide (i = strip i p)) (regB i.ds) (regB i.sr) (addrB i.ba i.ix i.hb i.hi i.dp) (has p 16) (has p 32) i.bn i.sh i.cd i.lb i.op i.im := rfl
/-- an instruction's fields lie within their words -/
def Fit (i : In) : Prop := i.im < 18446744073709551616 ∧ -9223372036854775808 ≤ i.dp ∧ i.dp ≤ 9223372036854775807

set_option maxRecDepth 100000 in
set_option maxHeartbeats 8000000 in
theorem may98_gen (op bn sh cd ds sr : Int) (im : Nat) (ba ix : Int) (hb hi : Bool) (dp lb : Int) (him : im < 18446744073709551616) (hd0 : -9223372036854775808 ≤ dp) (hd1 : dp ≤ 9223372036854775807) (p : Nat) (b : Nat) (w : World) (hp : PartsAt w b)
    (hlk : ∀ W : World, PartsAt W b → (Instr.lookup 123 (.map (some b)) (.int .i64 op) true).run Tryz.prog W = .ok (.tuple #[.int .i64 (p : Int), .bool true]) W)
    (hb16 : (¬ bits .and .i64 (p : Int) 16 = 0 → has p 16 = true) ∧ (bits .and .i64 (p : Int) 16 = 0 → has p 16 = false)) (hb32 : (¬ bits .and .i64 (p : Int) 32 = 0 → has p 32 = true) ∧ (bits .and .i64 (p : Int) 32 = 0 → has p 32 = false))
    (hs : ∀ W : World, Calls Tryz.prog 122 #[inV ⟨op, bn, sh, cd, ds, sr, im, ba, ix, hb, hi, dp, lb⟩, .int .i64 (p : Int)] W (InPost (strip ⟨op, bn, sh, cd, ds, sr, im, ba, ix, hb, hi, dp, lb⟩ p) W)) :
    Calls Tryz.prog 98 #[inV ⟨op, bn, sh, cd, ds, sr, im, ba, ix, hb, hi, dp, lb⟩, .map (some b)] w (BoolPost (mayP ⟨op, bn, sh, cd, ds, sr, im, ba, ix, hb, hi, dp, lb⟩ p) w) := by
  obtain ⟨W1, hW1⟩ : ∃ W1, w.alloc (.cells #[.int .i64 op, .int .i64 bn, .int .i64 sh, .int .i64 cd, .int .i64 ds, .int .i64 sr, .int .u64 (im : Int), .int .i64 ba, .int .i64 ix, .bool hb, .bool hi, .int .i64 dp, .int .i64 lb] 32) = W1 := ⟨_, rfl⟩
  have hb1 : Below w.heap.size w W1 := by rw [← hW1]; exact below_new w _
  have hx1 : W1.heap[w.heap.size]? = some (.cells #[.int .i64 op, .int .i64 bn, .int .i64 sh, .int .i64 cd, .int .i64 ds, .int .i64 sr, .int .u64 (im : Int), .int .i64 ba, .int .i64 ix, .bool hb, .bool hi, .int .i64 dp, .int .i64 lb] 32 (0, 0)) := by rw [← hW1]; exact heap_alloc_new _ _
  have hl1 := hlk W1 (hp.below hb1)
  rw [← hW1] at hl1
  obtain ⟨st, hst⟩ : ∃ st, strip ⟨op, bn, sh, cd, ds, sr, im, ba, ix, hb, hi, dp, lb⟩ p = st := ⟨_, rfl⟩
  rw [hst] at hs
  have hs' := Lib.hid (fun (s : Sub W1) => hs s.val)
  have hne := Lib.hid (fun (W : World) => run_ne13 ⟨op, bn, sh, cd, ds, sr, im, ba, ix, hb, hi, dp, lb⟩ st W)
  rw [mayP_eq, hst]
  obtain ⟨e, he⟩ : ∃ e : Bool, decide ((⟨op, bn, sh, cd, ds, sr, im, ba, ix, hb, hi, dp, lb⟩ : In) = st) = e := ⟨_, rfl⟩
  rw [he] at hne ⊢
  have hr1 := Lib.hid (fun (s : Sub W1) => (creg_any ds s.val).mono (R' := fun e w' => e = .returned (.bool (regB ds)) ∧ Below s.val.heap.size s.val w') fun e w' ⟨he, hw⟩ => ⟨he, hw ▸ Below.refl _ _⟩)
  have hr2 := Lib.hid (fun (s : Sub W1) => (creg_any sr s.val).mono (R' := fun e w' => e = .returned (.bool (regB sr)) ∧ Below s.val.heap.size s.val w') fun e w' ⟨he, hw⟩ => ⟨he, hw ▸ Below.refl _ _⟩)
  have hma := Lib.hid (fun (s : Sub W1) => cmayAddr_any ba ix hb hi dp hd0 hd1 s.val)
  have hsh := Lib.hid (fun (W : World) => short125_any im him W)
  dsimp only
  obtain ⟨r1, h1⟩ : ∃ r, regB ds = r := ⟨_, rfl⟩
  obtain ⟨r2, h2⟩ : ∃ r, regB sr = r := ⟨_, rfl⟩
  obtain ⟨ad, h3⟩ : ∃ r, addrB ba ix hb hi dp = r := ⟨_, rfl⟩
  rw [h1] at hr1 ⊢
  rw [h2] at hr2 ⊢
  rw [h3] at hma ⊢
  have hb1 := Lib.hid hb1
  have hx1 := Lib.hid hx1
  have hW1' := Lib.hid hW1
  have hst' := Lib.hid hst
  clear hlk hs hp hst he h1 h2 h3 him hd0 hd1 hW1
  have g := box13 hx1.out
  obtain ⟨g0, g1, g2, g3, g4, g5, g6, g7, g8, g9, g10, g11, g12⟩ := g
  have g0 := Sub.cell g0
  have g1 := Sub.cell g1
  have g2 := Sub.cell g2
  have g3 := Sub.cell g3
  have g4 := Sub.cell g4
  have g5 := Sub.cell g5
  have g6 := Sub.cell g6
  have g7 := Sub.cell g7
  have g8 := Sub.cell g8
  have g9 := Sub.cell g9
  have g10 := Sub.cell g10
  have g11 := Sub.cell g11
  have g12 := Sub.cell g12
  have hq := Lib.hid (fun (s : Sub W1) => (hs'.out s).mono (R' := fun e w' => e = .returned (inV st) ∧ Below s.val.heap.size s.val w') fun e w' h => h)
  unfold inV inC at hq ⊢
  unfold adV at hma
  obtain ⟨B, hB⟩ : ∃ B, has p 16 = B := ⟨_, rfl⟩
  obtain ⟨S, hS⟩ : ∃ S, has p 32 = S := ⟨_, rfl⟩
  rw [hB, hS]
  rw [hB] at hb16
  rw [hS] at hb32
  have c16 := Lib.hid (show ((bits BinOp.and IntKind.i64 (p : Int) 16 != 0) = false ∨ 1 ≤ bn ∧ bn ≤ 8) → ¬ bits BinOp.and IntKind.i64 (p : Int) 16 = 0 → 1 ≤ bn ∧ bn ≤ 8 from fun h h2 => h.resolve_left (by simpa using h2))
  have c32 := Lib.hid (show ((bits BinOp.and IntKind.i64 (p : Int) 32 != 0) = false ∨ 1 ≤ sh ∧ sh ≤ 5) → ¬ bits BinOp.and IntKind.i64 (p : Int) 32 = 0 → 1 ≤ sh ∧ sh ≤ 5 from fun h h2 => h.resolve_left (by simpa using h2))
  have hBw := Lib.hid hb16
  have hSw := Lib.hid hb32
  clear hB hS hb16 hb32
  rcases may5 e r1 r2 ad with rfl | ⟨rfl, rfl⟩ | ⟨rfl, rfl, rfl⟩ | ⟨rfl, rfl, rfl, rfl⟩ | ⟨rfl, rfl, rfl, rfl⟩
  · go_enter Tryz.func98, Tryz.ntmps98
    go_wp2_with fail
    rw [hW1'.out]
    clear hl1
    refine wp_region_below (by kernel_rfl) (by kernel_rfl) ?_
    repeat (first
      | (go_big_quiet_want; refine quiet_neq_agg 32 32 (.tmp 18) (.tmp 21) rfl (inC ⟨op, bn, sh, cd, ds, sr, im, ba, ix, hb, hi, dp, lb⟩) (inC st) _ rfl rfl guard32 hne.out ?_; simp [Act.put]; go_big_quiet_on)
      | go_big_quiet_step ((first | (go_at_call 122; with_reducible exact Sub.call (hq.out _)) | (go_at_call 124; with_reducible exact Sub.call (hma.out _)) | (go_at_call 123; first | (with_reducible exact Sub.call (hr1.out _)) | (with_reducible exact Sub.call (hr2.out _))))))
    refine wpQuiet_nil ?_
    rintro _ ⟨⟨w3, hb3⟩, rfl⟩
    have hfin := Lib.hid (Below.next hb1.out hb3)
    clear hb3 g0 g1 g2 g3 g4 g5 g6 g7 g8 g9 g10 g11 g12
    go_wp2
    go_ret
    exact ⟨ret_bool (by rw [mayX_bad (by simp)]), hfin.out⟩
  · go_enter Tryz.func98, Tryz.ntmps98
    go_wp2_with fail
    rw [hW1'.out]
    clear hl1
    refine wp_region_below (by kernel_rfl) (by kernel_rfl) ?_
    repeat (first
      | (go_big_quiet_want; refine quiet_neq_agg 32 32 (.tmp 18) (.tmp 21) rfl (inC ⟨op, bn, sh, cd, ds, sr, im, ba, ix, hb, hi, dp, lb⟩) (inC st) _ rfl rfl guard32 hne.out ?_; simp [Act.put]; go_big_quiet_on)
      | go_big_quiet_step ((first | (go_at_call 122; with_reducible exact Sub.call (hq.out _)) | (go_at_call 124; with_reducible exact Sub.call (hma.out _)) | (go_at_call 123; first | (with_reducible exact Sub.call (hr1.out _)) | (with_reducible exact Sub.call (hr2.out _))))))
    refine wpQuiet_nil ?_
    rintro _ ⟨⟨w3, hb3⟩, rfl⟩
    have hfin := Lib.hid (Below.next hb1.out hb3)
    clear hb3 g0 g1 g2 g3 g4 g5 g6 g7 g8 g9 g10 g11 g12
    go_wp2
    go_ret
    exact ⟨ret_bool (by rw [mayX_bad (by simp)]), hfin.out⟩
  · go_enter Tryz.func98, Tryz.ntmps98
    go_wp2_with fail
    rw [hW1'.out]
    clear hl1
    refine wp_region_below (by kernel_rfl) (by kernel_rfl) ?_
    repeat (first
      | (go_big_quiet_want; refine quiet_neq_agg 32 32 (.tmp 18) (.tmp 21) rfl (inC ⟨op, bn, sh, cd, ds, sr, im, ba, ix, hb, hi, dp, lb⟩) (inC st) _ rfl rfl guard32 hne.out ?_; simp [Act.put]; go_big_quiet_on)
      | go_big_quiet_step ((first | (go_at_call 122; with_reducible exact Sub.call (hq.out _)) | (go_at_call 124; with_reducible exact Sub.call (hma.out _)) | (go_at_call 123; first | (with_reducible exact Sub.call (hr1.out _)) | (with_reducible exact Sub.call (hr2.out _))))))
    refine wpQuiet_nil ?_
    rintro _ ⟨⟨w3, hb3⟩, rfl⟩
    have hfin := Lib.hid (Below.next hb1.out hb3)
    clear hb3 g0 g1 g2 g3 g4 g5 g6 g7 g8 g9 g10 g11 g12
    go_wp2
    go_ret
    exact ⟨ret_bool (by rw [mayX_bad (by simp)]), hfin.out⟩
  · go_enter Tryz.func98, Tryz.ntmps98
    go_wp2_with fail
    rw [hW1'.out]
    clear hl1
    refine wp_region_below (by kernel_rfl) (by kernel_rfl) ?_
    repeat (first
      | (go_big_quiet_want; refine quiet_neq_agg 32 32 (.tmp 18) (.tmp 21) rfl (inC ⟨op, bn, sh, cd, ds, sr, im, ba, ix, hb, hi, dp, lb⟩) (inC st) _ rfl rfl guard32 hne.out ?_; simp [Act.put]; go_big_quiet_on)
      | go_big_quiet_step ((first | (go_at_call 122; with_reducible exact Sub.call (hq.out _)) | (go_at_call 124; with_reducible exact Sub.call (hma.out _)) | (go_at_call 123; first | (with_reducible exact Sub.call (hr1.out _)) | (with_reducible exact Sub.call (hr2.out _))))))
    refine wpQuiet_nil ?_
    rintro _ ⟨⟨w3, hb3⟩, rfl⟩
    have hfin := Lib.hid (Below.next hb1.out hb3)
    clear hb3 g0 g1 g2 g3 g4 g5 g6 g7 g8 g9 g10 g11 g12
    go_wp2
    go_ret
    exact ⟨ret_bool (by rw [mayX_bad (by simp)]), hfin.out⟩
  · go_enter Tryz.func98, Tryz.ntmps98
    go_wp2_with fail
    rw [hW1'.out]
    clear hl1
    refine wp_region_below (by kernel_rfl) (by kernel_rfl) ?_
    repeat (first
      | (go_big_quiet_want; refine quiet_neq_agg 32 32 (.tmp 18) (.tmp 21) rfl (inC ⟨op, bn, sh, cd, ds, sr, im, ba, ix, hb, hi, dp, lb⟩) (inC st) _ rfl rfl guard32 hne.out ?_; simp [Act.put]; go_big_quiet_on)
      | go_big_quiet_step ((first | (go_at_call 122; with_reducible exact Sub.call (hq.out _)) | (go_at_call 124; with_reducible exact Sub.call (hma.out _)) | (go_at_call 123; first | (with_reducible exact Sub.call (hr1.out _)) | (with_reducible exact Sub.call (hr2.out _))))))
    refine wpQuiet_nil ?_
    rintro _ ⟨⟨w3, hb3⟩, rfl⟩
    have hfin := Lib.hid (Below.next hb1.out hb3)
    obtain ⟨q0, q1, q2, q3, q4, q5, q6, q7, q8, q9, q10, q11, q12⟩ := box13 ((hb3.block _ (blk_lt hx1.out)).trans hx1.out)
    clear hb3 g0 g1 g2 g3 g4 g5 g6 g7 g8 g9 g10 g11 g12
    go_wp2_with fail
    all_goals try (refine (hsh.out _).mono ?_; rintro e w4 ⟨rfl, rfl⟩; go_wp2)
    all_goals (
         go_ret
         refine ⟨ret_bool ?_, hfin.out⟩
         (try have h13 : ¬ op = 13 := by simpa using (show (op == 6) = false ∧ (op == 13) = false by assumption).2)
         (first
         | exact (mayX_bn (hBw.out.1 (by assumption)) (by omega)).symm
         | exact (mayX_sh (hSw.out.1 (by assumption)) (by omega)).symm
         | exact (mayX_cd (by omega)).symm
         | (rw [mayX_on (by first | exact .inl (hBw.out.2 (by assumption)) | exact .inr ⟨by omega, by omega⟩ | exact .inr (c16.out (by assumption) (by assumption)) | exact .inr (c16.out (And.left (by assumption)) (by assumption))) (by first | exact .inl (hSw.out.2 (by assumption)) | exact .inr ⟨by omega, by omega⟩ | exact .inr (c32.out (by assumption) (by assumption)) | exact .inr (c32.out (And.right (by assumption)) (by assumption))) ⟨by omega, by omega⟩ ⟨by omega, by omega⟩]
            first
            | (rw [if_pos (by omega)]; done)
            | (rw [if_neg (by omega), if_neg (by omega)]; done)
            | (rw [if_neg (by omega), if_pos (by omega)]; exact decide_eq_decide.2 (by omega))
            | (rw [if_pos (by simpa using (show (op == 6) = true ∨ (op == 13) = true by assumption))]; done))))
end Go.Proofs.YtmimmnjdgpdjlaaGreatDoor
namespace Go.Proofs.YtmimmnjdgpdjlaaGreatDoor
open Go.RowKit Go.Lib Go.Shelf

set_option maxRecDepth 100000 in
set_option maxHeartbeats 8000000 in
theorem may98_no (op bn sh cd ds sr : Int) (im : Nat) (ba ix : Int) (hb hi : Bool) (dp lb : Int) (ho : ¬ (1 ≤ op ∧ op ≤ 20)) (b : Nat) (w : World) (hp : PartsAt w b) :
    Calls Tryz.prog 98 #[inV ⟨op, bn, sh, cd, ds, sr, im, ba, ix, hb, hi, dp, lb⟩, .map (some b)] w (BoolPost false w) := by
  obtain ⟨W1, hW1⟩ : ∃ W1, w.alloc (.cells #[.int .i64 op, .int .i64 bn, .int .i64 sh, .int .i64 cd, .int .i64 ds, .int .i64 sr, .int .u64 (im : Int), .int .i64 ba, .int .i64 ix, .bool hb, .bool hi, .int .i64 dp, .int .i64 lb] 32) = W1 := ⟨_, rfl⟩
  have hb1 : Below w.heap.size w W1 := by rw [← hW1]; exact below_new w _
  have hl1 := look_no (hp.below hb1) op ho
  rw [← hW1] at hl1
  have hb1 := Lib.hid hb1
  have hW1' := Lib.hid hW1
  clear hW1 hp
  unfold inV inC
  go_enter Tryz.func98, Tryz.ntmps98
  go_wp2_with fail
  rw [hW1'.out]
  clear hl1
  refine wp_region_below (by kernel_rfl) (by kernel_rfl) ?_
  repeat (go_big_quiet_step (fail))
  refine wpQuiet_nil ?_
  rintro _ ⟨⟨w3, hb3⟩, rfl⟩
  have hfin := Lib.hid (Below.next hb1.out hb3)
  clear hb3
  go_wp2
  go_ret
  exact ⟨by rfl, hfin.out⟩
theorem may98_any (i : In) (hf : Fit i) (b : Nat) (w : World) (hp : PartsAt w b) : Calls Tryz.prog 98 #[inV i, .map (some b)] w (BoolPost (mayB i) w) := by
  obtain ⟨op, bn, sh, cd, ds, sr, im, ba, ix, hb, hi, dp, lb⟩ := i
  obtain ⟨him, hd0, hd1⟩ := hf
  dsimp only at him hd0 hd1
  by_cases ho : 1 ≤ op ∧ op ≤ 20
  · rcases op_cases ho with rfl | rfl | rfl | rfl | rfl | rfl | rfl | rfl | rfl | rfl | rfl | rfl | rfl | rfl | rfl | rfl | rfl | rfl | rfl | rfl
    · exact may98_gen _ _ _ _ _ _ _ _ _ _ _ _ _ him hd0 hd1 3 b w hp (fun W hW => look_yes hW ⟨0, by omega⟩) (by decide) (by decide) (fun W => strip3_any _ _ _ _ _ _ _ _ _ _ _ _ _ W)
    · exact may98_gen _ _ _ _ _ _ _ _ _ _ _ _ _ him hd0 hd1 5 b w hp (fun W hW => look_yes hW ⟨1, by omega⟩) (by decide) (by decide) (fun W => strip5_any _ _ _ _ _ _ _ _ _ _ _ _ _ W)
    · exact may98_gen _ _ _ _ _ _ _ _ _ _ _ _ _ him hd0 hd1 9 b w hp (fun W hW => look_yes hW ⟨2, by omega⟩) (by decide) (by decide) (fun W => strip9_any _ _ _ _ _ _ _ _ _ _ _ _ _ W)
    · exact may98_gen _ _ _ _ _ _ _ _ _ _ _ _ _ him hd0 hd1 10 b w hp (fun W hW => look_yes hW ⟨3, by omega⟩) (by decide) (by decide) (fun W => strip10_any _ _ _ _ _ _ _ _ _ _ _ _ _ W)
    · exact may98_gen _ _ _ _ _ _ _ _ _ _ _ _ _ him hd0 hd1 19 b w hp (fun W hW => look_yes hW ⟨4, by omega⟩) (by decide) (by decide) (fun W => strip19_any _ _ _ _ _ _ _ _ _ _ _ _ _ W)
    · exact may98_gen _ _ _ _ _ _ _ _ _ _ _ _ _ him hd0 hd1 21 b w hp (fun W hW => look_yes hW ⟨5, by omega⟩) (by decide) (by decide) (fun W => strip21_any _ _ _ _ _ _ _ _ _ _ _ _ _ W)
    · exact may98_gen _ _ _ _ _ _ _ _ _ _ _ _ _ him hd0 hd1 33 b w hp (fun W hW => look_yes hW ⟨6, by omega⟩) (by decide) (by decide) (fun W => strip33_any _ _ _ _ _ _ _ _ _ _ _ _ _ W)
    · exact may98_gen _ _ _ _ _ _ _ _ _ _ _ _ _ him hd0 hd1 37 b w hp (fun W hW => look_yes hW ⟨7, by omega⟩) (by decide) (by decide) (fun W => strip37_any _ _ _ _ _ _ _ _ _ _ _ _ _ W)
    · exact may98_gen _ _ _ _ _ _ _ _ _ _ _ _ _ him hd0 hd1 1 b w hp (fun W hW => look_yes hW ⟨8, by omega⟩) (by decide) (by decide) (fun W => strip1_any _ _ _ _ _ _ _ _ _ _ _ _ _ W)
    · exact may98_gen _ _ _ _ _ _ _ _ _ _ _ _ _ him hd0 hd1 1 b w hp (fun W hW => look_yes hW ⟨9, by omega⟩) (by decide) (by decide) (fun W => strip1_any _ _ _ _ _ _ _ _ _ _ _ _ _ W)
    · exact may98_gen _ _ _ _ _ _ _ _ _ _ _ _ _ him hd0 hd1 3 b w hp (fun W hW => look_yes hW ⟨10, by omega⟩) (by decide) (by decide) (fun W => strip3_any _ _ _ _ _ _ _ _ _ _ _ _ _ W)
    · exact may98_gen _ _ _ _ _ _ _ _ _ _ _ _ _ him hd0 hd1 3 b w hp (fun W hW => look_yes hW ⟨11, by omega⟩) (by decide) (by decide) (fun W => strip3_any _ _ _ _ _ _ _ _ _ _ _ _ _ W)
    · exact may98_gen _ _ _ _ _ _ _ _ _ _ _ _ _ him hd0 hd1 5 b w hp (fun W hW => look_yes hW ⟨12, by omega⟩) (by decide) (by decide) (fun W => strip5_any _ _ _ _ _ _ _ _ _ _ _ _ _ W)
    · exact may98_gen _ _ _ _ _ _ _ _ _ _ _ _ _ him hd0 hd1 65 b w hp (fun W hW => look_yes hW ⟨13, by omega⟩) (by decide) (by decide) (fun W => strip65_any _ _ _ _ _ _ _ _ _ _ _ _ _ W)
    · exact may98_gen _ _ _ _ _ _ _ _ _ _ _ _ _ him hd0 hd1 3 b w hp (fun W hW => look_yes hW ⟨14, by omega⟩) (by decide) (by decide) (fun W => strip3_any _ _ _ _ _ _ _ _ _ _ _ _ _ W)
    · exact may98_gen _ _ _ _ _ _ _ _ _ _ _ _ _ him hd0 hd1 67 b w hp (fun W hW => look_yes hW ⟨15, by omega⟩) (by decide) (by decide) (fun W => strip67_any _ _ _ _ _ _ _ _ _ _ _ _ _ W)
    · exact may98_gen _ _ _ _ _ _ _ _ _ _ _ _ _ him hd0 hd1 128 b w hp (fun W hW => look_yes hW ⟨16, by omega⟩) (by decide) (by decide) (fun W => strip128_any _ _ _ _ _ _ _ _ _ _ _ _ _ W)
    · exact may98_gen _ _ _ _ _ _ _ _ _ _ _ _ _ him hd0 hd1 192 b w hp (fun W hW => look_yes hW ⟨17, by omega⟩) (by decide) (by decide) (fun W => strip192_any _ _ _ _ _ _ _ _ _ _ _ _ _ W)
    · exact may98_gen _ _ _ _ _ _ _ _ _ _ _ _ _ him hd0 hd1 128 b w hp (fun W hW => look_yes hW ⟨18, by omega⟩) (by decide) (by decide) (fun W => strip128_any _ _ _ _ _ _ _ _ _ _ _ _ _ W)
    · exact may98_gen _ _ _ _ _ _ _ _ _ _ _ _ _ him hd0 hd1 0 b w hp (fun W hW => look_yes hW ⟨19, by omega⟩) (by decide) (by decide) (fun W => strip0_any _ _ _ _ _ _ _ _ _ _ _ _ _ W)
  · rw [show mayB ⟨op, bn, sh, cd, ds, sr, im, ba, ix, hb, hi, dp, lb⟩ = false from by unfold mayB maskO; rw [if_neg ho]]
    exact may98_no _ _ _ _ _ _ _ _ _ _ _ _ _ ho b w hp
set_option maxRecDepth 100000 in
set_option maxHeartbeats 8000000 in
theorem mayOne_any (i : In) (hf : Fit i) (w : World) : Calls Tryz.prog 43 #[inV i] w (BoolPost (mayB i) w) := by
  have hm := fun (b : Nat) (W : World) (h : PartsAt W b) => may98_any i hf b W h
  obtain ⟨r, hr⟩ : ∃ r, mayB i = r := ⟨_, rfl⟩
  rw [hr] at hm ⊢
  clear hr hf
  obtain ⟨op, bn, sh, cd, ds, sr, im, ba, ix, hb, hi, dp, lb⟩ := i
  unfold inV inC at hm ⊢
  have hm := Lib.hid hm
  obtain ⟨W1, hW1⟩ : ∃ W1, w.alloc (.cells #[.int .i64 op, .int .i64 bn, .int .i64 sh, .int .i64 cd, .int .i64 ds, .int .i64 sr, .int .u64 (im : Int), .int .i64 ba, .int .i64 ix, .bool hb, .bool hi, .int .i64 dp, .int .i64 lb] 32) = W1 := ⟨_, rfl⟩
  have hb1 : Below w.heap.size w W1 := by rw [← hW1]; exact below_new w _
  have hx1 : W1.heap[w.heap.size]? = some (.cells #[.int .i64 op, .int .i64 bn, .int .i64 sh, .int .i64 cd, .int .i64 ds, .int .i64 sr, .int .u64 (im : Int), .int .i64 ba, .int .i64 ix, .bool hb, .bool hi, .int .i64 dp, .int .i64 lb] 32 (0, 0)) := by rw [← hW1]; exact heap_alloc_new _ _
  have hb1 := Lib.hid hb1
  have hx1 := Lib.hid hx1
  have hW1' := Lib.hid hW1
  clear hW1
  go_enter Tryz.func43, Tryz.ntmps43
  go_wp2_with fail
  rw [hW1'.out]
  obtain ⟨g0, g1, g2, g3, g4, g5, g6, g7, g8, g9, g10, g11, g12⟩ := box13 hx1.out
  go_region_with (first
    | (go_at_call 99; refine (parts99_any _).mono ?_; rintro e w2 ⟨b, rfl, hpt, hbs, hb2⟩; obtain ⟨q0, q1, q2, q3, q4, q5, q6, q7, q8, q9, q10, q11, q12⟩ := box13 ((hb2.block w.heap.size (blk_lt hx1.out)).trans hx1.out); have hpt' := Lib.hid hpt; have hb2' := Lib.hid (show Below W1.heap.size W1 w2 from ⟨hb2.os, hb2.tape, hb2.output, hb2.size, hb2.block⟩); clear hpt hb2 hbs)
    | (go_at_call 98; refine (hm.out _ _ hpt'.out).mono ?_; rintro e w3 ⟨rfl, hb3⟩; have hb3' := Lib.hid hb3; clear hb3))
  all_goals (
    go_wp2
    go_ret
    exact ⟨rfl, Below.next hb1.out (Below.next hb2'.out hb3'.out)⟩)
end Go.Proofs.YtmimmnjdgpdjlaaGreatDoor
