/- Maps whose entries are written out, keyed by int64: a new entry, a look-up; the table of the operations of two words. -/
import Derived.Test.YtkfenljldmbmcaaE
import Derived.OneCell
set_option linter.unusedSimpArgs false
set_option linter.unusedVariables false
namespace Go.Proofs.Ytkfenljldmbmcaa
open Go.RowKit Go.MapKept
open Go.ChangeMaps (setBlock heap_setBlock_same heap_setBlock_other)

theorem run_mapUpdate_new {P : Program} {t k e : TypeId} (ht : P.underlying t = some (.map k e)) (hk : P.underlying k = some (.int .i64)) {w : World} {b : Nat} {es : Array MapEntry} {clock : Nat}
    (hb : w.heap[b]? = some (.map es clock)) (n : Int) (v : Value) (hno : Instr.findNow (.int .i64) (.int .i64 n) es.toList 0 = some none) :
    (Instr.mapUpdate t (.map (some b)) (.int .i64 n) v).run P w = .ok () (setBlock w b (.map (es.push ⟨.int .i64 n, v, clock⟩) (clock + 1))) := by
  have hik : IsKey (.int .i64) (.int .i64 n) := by simp [IsKey]
  simp [Instr.mapUpdate, run_underlying ht, Go.MapKept.run_getObj_map hb, run_checkKey hk hik, run_findKey hk hno, run_setObj_map _ hb, Result.andThen]
  rfl

theorem run_lookup_lit {P : Program} {t k e : TypeId} (ht : P.underlying t = some (.map k e)) (hk : P.underlying k = some (.int .i64)) {w : World} {b : Nat} {es : Array MapEntry} {clock : Nat}
    (hb : w.heap[b]? = some (.map es clock)) (n : Int) (v : Value) (i : Nat) (hf : Instr.findNow (.int .i64) (.int .i64 n) es.toList 0 = some (some (i, v))) :
    (Instr.lookup t (.map (some b)) (.int .i64 n) false).run P w = .ok v w := by
  have hik : IsKey (.int .i64) (.int .i64 n) := by simp [IsKey]
  simp [Instr.lookup, run_underlying ht, Go.MapKept.run_getObj_map hb, run_checkKey hk hik, run_findKey hk hf, Result.andThen]

theorem run_lookup_none {P : Program} {t k e : TypeId} (ht : P.underlying t = some (.map k e)) (hk : P.underlying k = some (.int .i64)) {w : World} {b : Nat} {es : Array MapEntry} {clock : Nat}
    (hb : w.heap[b]? = some (.map es clock)) (n : Int) (z : Value) (hz : (zeroValue e).run P w = .ok z w) (hf : Instr.findNow (.int .i64) (.int .i64 n) es.toList 0 = some none) :
    (Instr.lookup t (.map (some b)) (.int .i64 n) false).run P w = .ok z w := by
  have hik : IsKey (.int .i64) (.int .i64 n) := by simp [IsKey]
  simp [Instr.lookup, run_underlying ht, Go.MapKept.run_getObj_map hb, run_checkKey hk hik, run_findKey hk hf, hz, Result.andThen]

/-- A block of one cell that holds v. -/
def HasCell (w : World) (p : Nat) (v : Value) : Prop := ∃ t, w.heap[p]? = some (.cells #[v] t (0, 0))
/-- A MAP THAT THE CALL BUILDS: block b of w, made since w0, whose entries are written out; boxes of one cell that the call has made; nothing that was there in w0 has turned. -/
def BM (w0 w : World) (b : Nat) (es : Array MapEntry) (clock : Nat) (cs : List (Nat × Value)) : Prop :=
  w.heap[b]? = some (.map es clock) ∧ Below w0.heap.size w0 w ∧ w0.heap.size ≤ b ∧ ∀ x ∈ cs, HasCell w x.1 x.2 ∧ x.1 ≠ b ∧ w0.heap.size ≤ x.1

theorem BM.made {w0 w : World} (h : Below w0.heap.size w0 w) : BM w0 (w.alloc (.map #[] 0)) w.heap.size #[] 0 [] :=
  ⟨(heap_alloc w _).1, h.alloc h.size _, h.size, by simp⟩
theorem BM.insert {w0 w : World} {b : Nat} {es es' : Array MapEntry} {clock clock' : Nat} {cs : List (Nat × Value)} (h : BM w0 w b es clock cs) : BM w0 (setBlock w b (.map es' clock')) b es' clock' cs := by
  obtain ⟨hb, hl, hB, hc⟩ := h
  refine ⟨heap_setBlock_same hb _, ⟨hl.os, hl.tape, hl.output, by simpa [setBlock] using hl.size, fun k hk => (heap_setBlock_other hb _ (by omega)).trans (hl.block k hk)⟩, hB, ?_⟩
  intro x hx
  obtain ⟨⟨t, ht⟩, hne, hle⟩ := hc x hx
  exact ⟨⟨t, (heap_setBlock_other hb _ hne).trans ht⟩, hne, hle⟩
theorem BM.box {w0 w : World} {b : Nat} {es : Array MapEntry} {clock : Nat} {cs : List (Nat × Value)} (h : BM w0 w b es clock cs) (v : Value) (t : TypeId) : BM w0 (w.alloc (.cells #[v] t)) b es clock ((w.heap.size, v) :: cs) := by
  obtain ⟨hb, hl, hB, hc⟩ := h
  have hbl := lt_of_block hb
  refine ⟨((heap_alloc w _).2 b hbl).trans hb, hl.alloc hl.size _, hB, ?_⟩
  intro x hx
  rcases List.mem_cons.1 hx with rfl | hx
  · exact ⟨⟨t, (heap_alloc w _).1⟩, by dsimp only; omega, hl.size⟩
  · obtain ⟨⟨t', ht⟩, hne, hle⟩ := hc x hx
    exact ⟨⟨t', ((heap_alloc w _).2 _ (lt_of_block ht)).trans ht⟩, hne, hle⟩

def BoxOf (w w' : World) (v : Value) : Prop := ∃ t, w' = w.alloc (.cells #[v] t)
theorem BM.boxed {w0 w w' : World} {b : Nat} {es : Array MapEntry} {clock : Nat} {cs : List (Nat × Value)} {v : Value} (h : BM w0 w b es clock cs) (hx : BoxOf w w' v) : BM w0 w' b es clock ((w.heap.size, v) :: cs) := by
  obtain ⟨t, rfl⟩ := hx
  exact h.box v t

theorem wpList_insert_new {P : Program} {w0 : World} (w : World) {ops : Array Oper} {rest : List Oper} {o : Oper} {a : Act} {Q : Exit → Act → World → Prop}
    (hg : o.guard = none) (m x v : Operand) (t : TypeId) (hop : o.op = Op.insert t m x v)
    (k e : TypeId) (ht : P.underlying t = some (.map k e)) (hk : P.underlying k = some (.int .i64)) (b : Nat) (n : Int) (val : Value) (es : Array MapEntry) (clock : Nat) (cs : List (Nat × Value))
    (hm : a.eval m = .map (some b)) (hx : a.eval x = .int .i64 n) (hv : a.eval v = val) (hb : BM w0 w b es clock cs)
    (hno : Instr.findNow (.int .i64) (.int .i64 n) es.toList 0 = some none)
    (hK : ∀ w', BM w0 w' b (es.push ⟨.int .i64 n, val, clock⟩) (clock + 1) cs → wpList P ops Q rest (a.put o.dst undef) w') :
    wpList P ops Q (o :: rest) a w := by
  refine wpList_plain hg fun K' hK' => ?_
  have hrun := run_mapUpdate_new ht hk hb.1 n val hno
  unfold Oper.wp
  simp [execOp, hop, hm, hx, hv, hrun, Result.andThen]
  exact hK' _ _ (hK _ hb.insert)

set_option maxHeartbeats 400000 in
theorem plain_any (f : Nat) (w : World) :
    Calls Try.prog 74 #[.func (.func f) #[] #[]] w fun e w' => e = .returned (.func (.func 75) #[] #[.pointer (some ⟨w.heap.size, 0, none⟩)]) ∧ BoxOf w w' (.func (.func f) #[] #[]) := by
  go_enter Try.func74, Try.ntmps74
  go_wp2
  go_ret
  exact ⟨rfl, 82, rfl⟩

/-- the table of the operations of two words, as it is built -/
def binsEs (p5 p6 p7 : Nat) : Array MapEntry := #[⟨.int .i64 1, .func (.func 76) #[] #[], 0⟩, ⟨.int .i64 2, .func (.func 76) #[] #[], 1⟩, ⟨.int .i64 3, .func (.func 77) #[] #[], 2⟩, ⟨.int .i64 4, .func (.func 77) #[] #[], 3⟩,
  ⟨.int .i64 8, .func (.func 78) #[] #[], 4⟩, ⟨.int .i64 5, .func (.func 75) #[] #[.pointer (some ⟨p5, 0, none⟩)], 5⟩, ⟨.int .i64 6, .func (.func 75) #[] #[.pointer (some ⟨p6, 0, none⟩)], 6⟩, ⟨.int .i64 7, .func (.func 75) #[] #[.pointer (some ⟨p7, 0, none⟩)], 7⟩]
def BinsPost (w : World) (e : Ending) (w' : World) : Prop :=
  ∃ b p5 p6 p7, e = .returned (.map (some b)) ∧ BM w w' b (binsEs p5 p6 p7) 8 [(p7, .func (.func 81) #[] #[]), (p6, .func (.func 80) #[] #[]), (p5, .func (.func 79) #[] #[])]

set_option maxHeartbeats 1000000 in
theorem bins_any (w : World) :
    Calls Try.prog 39 #[] w (BinsPost w) := by
  have hmm := @run_makeMap Try.prog
  have hbm : BM w (w.alloc (.map #[] 0)) w.heap.size #[] 0 [] := BM.made (Below.refl _ _)
  go_enter Try.func39, Try.ntmps39
  go_wp2_with (first | (refine wpList_insert_new (w0 := w) _ rfl _ _ _ _ rfl _ _ Try.underlying72 Try.underlying37 _ _ _ _ _ _ rfl rfl rfl hbm rfl ?_; clear hbm; intro w1 hbm; simp [Act.eval, Act.put] at hbm) | (go_at_call 74; refine (plain_any _ _).mono ?_; rintro e w1 ⟨rfl, hbx⟩; replace hbm := hbm.boxed hbx; clear hbx))
  go_ret
  exact ⟨_, _, _, _, rfl, hbm⟩

end Go.Proofs.Ytkfenljldmbmcaa
