/- What a kind's word means: readings. -/
import Derived.Test.YtkbmckmlnphpmaaGreatDoorT
import Derived.OneCell
import Derived.Maps.OwnOps
set_option linter.unusedSimpArgs false
set_option linter.unusedVariables false
namespace Go.Proofs.YtkbmckmlnphpmaaGreatDoor
open Go.RowKit Go.Lib Go.Shelf Go.MapKept
open Go.ChangeMaps (setBlock heap_setBlock_same heap_setBlock_other)

theorem run_mapUpdate_new {P : Program} {t k e : TypeId} (ht : P.underlying t = some (.map k e)) (hk : P.underlying k = some .string) {w : World} {b : Nat} {es : Array MapEntry} {clock : Nat}
    (hb : w.heap[b]? = some (.map es clock)) (n : ByteArray) (v : Value) (hno : Instr.findNow .string (.string n) es.toList 0 = some none) :
    (Instr.mapUpdate t (.map (some b)) (.string n) v).run P w = .ok () (setBlock w b (.map (es.push ⟨.string n, v, clock⟩) (clock + 1))) := by
  have hik : IsKey .string (.string n) := by simp [IsKey]
  simp [Instr.mapUpdate, run_underlying ht, Go.MapKept.run_getObj_map hb, run_checkKey hk hik, run_findKey hk hno, run_setObj_map _ hb, Result.andThen]
  rfl

theorem run_lookup_lit {P : Program} {t k e : TypeId} (ht : P.underlying t = some (.map k e)) (hk : P.underlying k = some .string) {w : World} {b : Nat} {es : Array MapEntry} {clock : Nat}
    (hb : w.heap[b]? = some (.map es clock)) (n : ByteArray) (v : Value) (i : Nat) (hf : Instr.findNow .string (.string n) es.toList 0 = some (some (i, v))) :
    (Instr.lookup t (.map (some b)) (.string n) false).run P w = .ok v w := by
  have hik : IsKey .string (.string n) := by simp [IsKey]
  simp [Instr.lookup, run_underlying ht, Go.MapKept.run_getObj_map hb, run_checkKey hk hik, run_findKey hk hf, Result.andThen]

theorem run_lookup_none {P : Program} {t k e : TypeId} (ht : P.underlying t = some (.map k e)) (hk : P.underlying k = some .string) {w : World} {b : Nat} {es : Array MapEntry} {clock : Nat}
    (hb : w.heap[b]? = some (.map es clock)) (n : ByteArray) (z : Value) (hz : (zeroValue e).run P w = .ok z w) (hf : Instr.findNow .string (.string n) es.toList 0 = some none) :
    (Instr.lookup t (.map (some b)) (.string n) false).run P w = .ok z w := by
  have hik : IsKey .string (.string n) := by simp [IsKey]
  simp [Instr.lookup, run_underlying ht, Go.MapKept.run_getObj_map hb, run_checkKey hk hik, run_findKey hk hf, hz, Result.andThen]

/-- A block of one cell that holds v. -/
def HasCell (w : World) (p : Nat) (v : Value) : Prop := ∃ t, w.heap[p]? = some (.cells #[v] t (0, 0))
/-- A MAP THAT THE CALL BUILDS: block b of w, made since w0, whose entries are written out; boxes of one cell that the call has made; nothing that was there in w0 has turned. -/
def BM (w0 w : World) (b : Nat) (es : Array MapEntry) (clock : Nat) (cs : List (Nat × Value)) : Prop :=
  w.heap[b]? = some (.map es clock) ∧ Below w0.heap.size w0 w ∧ w0.heap.size ≤ b ∧ ∀ x ∈ cs, HasCell w x.1 x.2 ∧ x.1 ≠ b ∧ w0.heap.size ≤ x.1

theorem BM.made {w0 w : World} (h : Below w0.heap.size w0 w) : BM w0 (w.alloc (.map #[] 0)) w.heap.size #[] 0 [] :=
  ⟨(heap_alloc w _).1, h.alloc h.size _, h.size, by simp⟩
theorem BM.insert {w0 w : World} {b : Nat} {es es' : Array MapEntry} {clock clock' : Nat} {cs : List (Nat × Value)} (h : BM w0 w b es clock cs) : BM w0 (setBlock w b (.map es' clock')) b es' clock' cs := by
  obtain ⟨hb, hl, hB, hc⟩ := h
  refine ⟨heap_setBlock_same hb _, ⟨hl.os, hl.tape, hl.output, by simpa [setBlock] using hl.size, fun k hk => (heap_setBlock_other hb _ (by omega)).trans (hl.block k hk)⟩, hB, ?_⟩
  intro x hx
  obtain ⟨⟨t, ht⟩, hne, hle⟩ := hc x hx
  exact ⟨⟨t, (heap_setBlock_other hb _ hne).trans ht⟩, hne, hle⟩
theorem BM.box {w0 w : World} {b : Nat} {es : Array MapEntry} {clock : Nat} {cs : List (Nat × Value)} (h : BM w0 w b es clock cs) (v : Value) (t : TypeId) : BM w0 (w.alloc (.cells #[v] t)) b es clock ((w.heap.size, v) :: cs) := by
  obtain ⟨hb, hl, hB, hc⟩ := h
  have hbl := lt_of_block hb
  refine ⟨((heap_alloc w _).2 b hbl).trans hb, hl.alloc hl.size _, hB, ?_⟩
  intro x hx
  rcases List.mem_cons.1 hx with rfl | hx
  · exact ⟨⟨t, (heap_alloc w _).1⟩, by dsimp only; omega, hl.size⟩
  · obtain ⟨⟨t', ht⟩, hne, hle⟩ := hc x hx
    exact ⟨⟨t', ((heap_alloc w _).2 _ (lt_of_block ht)).trans ht⟩, hne, hle⟩

def BoxOf (w w' : World) (v : Value) : Prop := ∃ t, w' = w.alloc (.cells #[v] t)
theorem BM.boxed {w0 w w' : World} {b : Nat} {es : Array MapEntry} {clock : Nat} {cs : List (Nat × Value)} {v : Value} (h : BM w0 w b es clock cs) (hx : BoxOf w w' v) : BM w0 w' b es clock ((w.heap.size, v) :: cs) := by
  obtain ⟨t, rfl⟩ := hx
  exact h.box v t

theorem wpList_insert_new {P : Program} {w0 : World} (w : World) {ops : Array Oper} {rest : List Oper} {o : Oper} {a : Act} {Q : Exit → Act → World → Prop}
    (hg : o.guard = none) (m x v : Operand) (t : TypeId) (hop : o.op = Op.insert t m x v)
    (k e : TypeId) (ht : P.underlying t = some (.map k e)) (hk : P.underlying k = some .string) (b : Nat) (n : ByteArray) (val : Value) (es : Array MapEntry) (clock : Nat) (cs : List (Nat × Value))
    (hm : a.eval m = .map (some b)) (hx : a.eval x = .string n) (hv : a.eval v = val) (hb : BM w0 w b es clock cs)
    (hno : Instr.findNow .string (.string n) es.toList 0 = some none)
    (hK : ∀ w', BM w0 w' b (es.push ⟨.string n, val, clock⟩) (clock + 1) cs → wpList P ops Q rest (a.put o.dst undef) w') :
    wpList P ops Q (o :: rest) a w := by
  refine wpList_plain hg fun K' hK' => ?_
  have hrun := run_mapUpdate_new ht hk hb.1 n val hno
  unfold Oper.wp
  simp [execOp, hop, hm, hx, hv, hrun, Result.andThen]
  exact hK' _ _ (hK _ hb.insert)

set_option maxHeartbeats 400000 in
theorem stackOf_any (k : Int) (w : World) :
    Calls Tryz.prog 86 #[.int .i64 k] w fun e w' => e = .returned (.func (.func 87) #[] #[.pointer (some ⟨w.heap.size, 0, none⟩)]) ∧ BoxOf w w' (.int .i64 k) := by
  go_enter Tryz.func86, Tryz.ntmps86
  go_wp2
  go_ret
  exact ⟨rfl, 36, rfl⟩
def readEs (p2 p3 : Nat) : Array MapEntry := #[⟨.string srcW, .func (.func 88) #[] #[], 0⟩, ⟨.string macW, .func (.func 87) #[] #[.pointer (some ⟨p2, 0, none⟩)], 1⟩, ⟨.string leakW, .func (.func 87) #[] #[.pointer (some ⟨p3, 0, none⟩)], 2⟩]
def ReadsPost (w : World) (e : Ending) (w' : World) : Prop :=
  ∃ b p2 p3, e = .returned (.map (some b)) ∧ BM w w' b (readEs p2 p3) 3 [(p3, .int .i64 3), (p2, .int .i64 2)]
set_option maxHeartbeats 1000000 in
theorem readings_any (w : World) : Calls Tryz.prog 57 #[] w (ReadsPost w) := by
  have hmm := @run_makeMap Tryz.prog
  have hbm : BM w (w.alloc (.map #[] 0)) w.heap.size #[] 0 [] := BM.made (Below.refl _ _)
  go_enter Tryz.func57, Tryz.ntmps57
  go_wp2_with (first | (refine wpList_insert_new (w0 := w) _ rfl _ _ _ _ rfl _ _ Tryz.underlying95 Tryz.underlying9 _ _ _ _ _ _ rfl rfl rfl hbm rfl ?_; clear hbm; intro w1 hbm; simp [Act.eval, Act.put] at hbm) | (go_at_call 86; refine (stackOf_any _ _).mono ?_; rintro e w1 ⟨rfl, hbx⟩; replace hbm := hbm.boxed hbx; clear hbx))
  go_ret
  exact ⟨_, _, _, rfl, hbm⟩
set_option maxRecDepth 100000 in
set_option maxHeartbeats 2000000 in
theorem readSrc_any (A : Option Addr) (n c : Nat) (l : List Int) (w : World) (hl : l.length = n) (hw : WAt w A l) :
    Calls Tryz.prog 88 #[.slice A n c] w (ReadPost 1 (readV 1 l).1 (readV 1 l).2 w) := by
  by_cases h : n = 1
  · subst h
    obtain ⟨blk, off, x, rfl, hx, cx, x0, x1⟩ := hw.at_ (k := 0) (by omega)
    have hl2 : l = [x] := by
      match l, hl, hx with
      | [y], _, hx => cases hx; rfl
    subst hl2
    have cx : w.cell? ⟨blk, off, none⟩ = some (.int .u64 x) := cx
    have hlt := cell_some_lt cx
    by_cases hm : x ≤ 1000001
    · have hmin : min x 1000001 = x := by omega
      have hwr : IntKind.i64.wrap x = x := by rw [wrap_small x (by omega) (by omega)]
      have hrd : readV 1 [x] = (0, x) := by unfold readV; rw [if_pos rfl]; dsimp only; rw [hmin]
      rw [hrd]
      clear hrd
      go_enter Tryz.func88, Tryz.ntmps88
      go_wp2
      refine bodyPost_ret (v := .agg #[.int .i64 1, .slice none 0 0, .slice none 0 0, .int .u64 0, .int .i64 x]) (by simp [results, Tryz.results88, go_sem]) rfl ⟨rfl, ?_⟩
      exact ((Below.refl w.heap.size w).alloc (Nat.le_refl _) _).alloc (by simp) _
    · have hmin : min x 1000001 = 1000001 := by omega
      have hrd : readV 1 [x] = (0, 1000001) := by unfold readV; rw [if_pos rfl]; dsimp only; rw [hmin]
      rw [hrd]
      clear hrd
      go_enter Tryz.func88, Tryz.ntmps88
      go_wp2
      refine bodyPost_ret (v := .agg #[.int .i64 1, .slice none 0 0, .slice none 0 0, .int .u64 0, .int .i64 1000001]) (by simp [results, Tryz.results88, go_sem]) rfl ⟨rfl, ?_⟩
      exact ((Below.refl w.heap.size w).alloc (Nat.le_refl _) _).alloc (by simp) _
  · have e0 : ¬ ((n : Int) = 1) := by omega
    have hr : readV 1 l = (0, 0) := by
      unfold readV
      rw [if_pos rfl]
      match l, hl with
      | [], _ => rfl
      | [x], hl => exact absurd hl.symm h
      | _ :: _ :: _, _ => rfl
    rw [hr]
    go_enter Tryz.func88, Tryz.ntmps88
    go_wp2
    refine bodyPost_ret (v := .agg #[.int .i64 1, .slice none 0 0, .slice none 0 0, .int .u64 0, .int .i64 0]) (by simp [results, Tryz.results88, go_sem]) rfl ⟨rfl, ?_⟩
    exact ((Below.refl w.heap.size w).alloc (Nat.le_refl _) _).alloc (by simp) _
set_option maxRecDepth 100000 in
set_option maxHeartbeats 2000000 in
theorem readTwo_any (k : Int) (hk : k ≠ 1) (b : Nat) (A : Option Addr) (n c : Nat) (l : List Int) (w : World) (hl : l.length = n) (hw : WAt w A l) (hb : w.cell? ⟨b, 0, none⟩ = some (.int .i64 k)) :
    Calls Tryz.prog 87 #[.slice A n c, .pointer (some ⟨b, 0, none⟩)] w (ReadPost k (readV k l).1 (readV k l).2 w) := by
  have hbl := cell_some_lt hb
  by_cases h : n = 2
  · subst h
    obtain ⟨blk, off, x, rfl, hx, cx, x0, x1⟩ := hw.at_ (k := 0) (by omega)
    obtain ⟨blk', off', y, e2, hy, cy, y0, y1⟩ := hw.at_ (k := 1) (by omega)
    injection e2 with e2
    injection e2 with e2 e3
    subst e2 e3
    have hl2 : l = [x, y] := by
      match l, hl, hx, hy with
      | [z, z'], _, hx, hy => cases hx; cases hy; rfl
    subst hl2
    have cx : w.cell? ⟨blk, off, none⟩ = some (.int .u64 x) := cx
    have hlt := cell_some_lt cx
    by_cases hm : y ≤ 1000001
    · have hmin : min y 1000001 = y := by omega
      have hwr : IntKind.i64.wrap y = y := by rw [wrap_small y (by omega) (by omega)]
      have hrd : readV k [x, y] = (x, y) := by unfold readV; rw [if_neg hk]; dsimp only; rw [hmin]
      rw [hrd]
      clear hrd
      go_enter Tryz.func87, Tryz.ntmps87
      go_wp2
      go_region
      all_goals
        go_wp2
        refine bodyPost_ret (v := .agg #[.int .i64 k, .slice none 0 0, .slice none 0 0, .int .u64 x, .int .i64 y]) (by simp [results, Tryz.results87, go_sem]) rfl ⟨rfl, ?_⟩
        first
          | exact (((Below.refl w.heap.size w).alloc (Nat.le_refl _) _).alloc (by simp) _).drew
          | exact ((Below.refl w.heap.size w).alloc (Nat.le_refl _) _).alloc (by simp) _
    · have hmin : min y 1000001 = 1000001 := by omega
      have hrd : readV k [x, y] = (x, 1000001) := by unfold readV; rw [if_neg hk]; dsimp only; rw [hmin]
      rw [hrd]
      clear hrd
      go_enter Tryz.func87, Tryz.ntmps87
      go_wp2
      go_region
      all_goals
        go_wp2
        refine bodyPost_ret (v := .agg #[.int .i64 k, .slice none 0 0, .slice none 0 0, .int .u64 x, .int .i64 1000001]) (by simp [results, Tryz.results87, go_sem]) rfl ⟨rfl, ?_⟩
        first
          | exact (((Below.refl w.heap.size w).alloc (Nat.le_refl _) _).alloc (by simp) _).drew
          | exact ((Below.refl w.heap.size w).alloc (Nat.le_refl _) _).alloc (by simp) _
  · have e0 : ¬ ((n : Int) = 2) := by omega
    have hr : readV k l = (0, 0) := by
      unfold readV
      rw [if_neg hk]
      match l, hl with
      | [], _ => rfl
      | [x], _ => rfl
      | [_, _], hl => exact absurd hl.symm h
      | _ :: _ :: _ :: _, _ => rfl
    rw [hr]
    go_enter Tryz.func87, Tryz.ntmps87
    go_wp2
    refine bodyPost_ret (v := .agg #[.int .i64 k, .slice none 0 0, .slice none 0 0, .int .u64 0, .int .i64 0]) (by simp [results, Tryz.results87, go_sem]) rfl ⟨rfl, ?_⟩
    exact ((Below.refl w.heap.size w).alloc (Nat.le_refl _) _).alloc (by simp) _
end Go.Proofs.YtkbmckmlnphpmaaGreatDoor
