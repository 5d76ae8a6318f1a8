/- The table of the operations of the language, as it is built. -/
import Derived.Test.YtkfenljldmbmcaaK
import Derived.Test.YtkfenljldmbmcaaR
set_option linter.unusedSimpArgs false
set_option linter.unusedVariables false
namespace Go.Proofs.Ytkfenljldmbmcaa
open Go.RowKit Go.MapKept
open Go.ChangeMaps (setBlock)

theorem BM.cell {w0 w : World} {b : Nat} {es : Array MapEntry} {clock : Nat} {cs : List (Nat × Value)} (h : BM w0 w b es clock cs) {p : Nat} {v : Value} (hp : (p, v) ∈ cs) : HasCell w p v := (h.2.2.2 _ hp).1
theorem HasCell.at {w : World} {p : Nat} {v : Value} (h : HasCell w p v) : w.cell? ⟨p, 0, none⟩ = some v := by obtain ⟨t, ht⟩ := h; exact cell_of_one ht

theorem upon_insert_new {P : Program} {w0 w : World} {o : Oper} {a : Act} {K : Act → World → Prop} {Q : Exit → Act → World → Prop} {t k e : TypeId} {b : Nat} {n : Int} {v : Value} {es : Array MapEntry} {clock : Nat} {cs : List (Nat × Value)}
    (ht : P.underlying t = some (.map k e)) (hk : P.underlying k = some (.int .i64)) (hb : BM w0 w b es clock cs) (hno : Instr.findNow (.int .i64) (.int .i64 n) es.toList 0 = some none)
    (hK : ∀ w', BM w0 w' b (es.push ⟨.int .i64 n, v, clock⟩) (clock + 1) cs → K (a.put o.dst undef) w') :
    o.upon P a K Q ((Sem.run P (Instr.mapUpdate t (.map (some b)) (.int .i64 n) v) w).andThen fun _ w' => Result.ok Next.skip w') := by
  rw [run_mapUpdate_new ht hk hb.1 n v hno]
  exact hK _ hb.insert

set_option maxHeartbeats 400000 in
theorem two_any (f : Nat) (cs : Array Value) (w : World) :
    Calls Try.prog 51 #[.func (.func f) #[] cs] w fun e w' => e = .returned (.func (.func 52) #[] #[.pointer (some ⟨w.heap.size, 0, none⟩)]) ∧ BoxOf w w' (.func (.func f) #[] cs) := by
  go_enter Try.func51, Try.ntmps51
  go_wp2
  go_ret
  exact ⟨rfl, 82, rfl⟩

set_option maxHeartbeats 400000 in
theorem is_any (f p : Nat) (w : World) (hp : HasCell w p (.func (.func 51) #[] #[])) :
    Calls Try.prog 53 #[.func (.func f) #[] #[], .pointer (some ⟨p, 0, none⟩)] w fun e w' => ∃ w1, e = .returned (.func (.func 52) #[] #[.pointer (some ⟨w1.heap.size, 0, none⟩)]) ∧ BoxOf w w1 (.func (.func f) #[] #[]) ∧ BoxOf w1 w' (.func (.func 54) #[] #[.pointer (some ⟨w.heap.size, 0, none⟩)]) := by
  obtain ⟨t, ht⟩ := hp
  have hlt := lt_of_block ht
  have hc := cell_of_one ht
  clear ht
  go_enter Try.func53, Try.ntmps53
  go_wp2_with fail
  refine (two_any _ _ _).mono ?_
  rintro e w' ⟨rfl, hb⟩
  go_wp2_with fail
  go_ret
  exact ⟨_, by simp, ⟨56, rfl⟩, hb⟩

/-! one operation each -/
section
variable {a : Act} {w : World} {K : Act → World → Prop} {Q : Exit → Act → World → Prop} {pos : String} {af : Array Edge} {ty : TypeId}
theorem wp_load1 (d p1 : Nat) (h1 : a.tmps.getD 1 undef = .pointer (some ⟨p1, 0, none⟩)) (hc : w.cell? ⟨p1, 0, none⟩ = some (.func (.func 51) #[] #[])) (hK : K (a.put (some d) (.func (.func 51) #[] #[])) w) :
    Oper.wp Try.prog { dst := some d, op := Op.load 83 (Operand.tmp 1), type := ty, pos := pos, after := af, guard := none } a w K Q := by
  go_simp
  exact hK
theorem wp_move1 (d s : Nat) (v : Value) (h1 : a.tmps.getD s undef = v) (hK : K (a.put (some d) v) w) :
    Oper.wp Try.prog { dst := some d, op := Op.move (Operand.tmp s), type := ty, pos := pos, after := af, guard := none } a w K Q := by
  subst h1
  unfold Oper.wp
  rw [BigFrame.run_move _ rfl]
  exact hK
theorem wp_assign1 (d s : Nat) (v : Value) (h1 : a.tmps.getD s undef = v) (hK : K (a.put (some d) v) w) :
    Oper.wp Try.prog { dst := some d, op := Op.assign (Operand.tmp s), type := ty, pos := pos, after := af, guard := none } a w K Q := by
  subst h1
  unfold Oper.wp
  rw [BigFrame.run_assign _ rfl]
  exact hK
theorem wp_make1 (d : Nat) (hK : K (a.put (some d) (.map (some w.heap.size))) (w.alloc (.map #[] 0))) :
    Oper.wp Try.prog { dst := some d, op := Op.makeMap 66 none, type := ty, pos := pos, after := af, guard := none } a w K Q := by
  have hmm := @run_makeMap Try.prog
  go_simp
  exact hK
theorem wp_two1 (d c f : Nat) (at1 : Array TypeId) (h1 : a.tmps.getD c undef = .func (.func 51) #[] #[])
    (hK : ∀ w', BoxOf w w' (.func (.func f) #[] #[]) → K (a.put (some d) (.func (.func 52) #[] #[.pointer (some ⟨w.heap.size, 0, none⟩)])) w') :
    Oper.wp Try.prog { dst := some d, op := Op.call { callee := Callee.value (Operand.tmp c), args := #[Operand.func f], argTypes := at1 }, type := ty, pos := pos, after := af, guard := none } a w K Q := by
  go_simp
  refine (two_any _ _ _).mono ?_
  rintro e w' ⟨rfl, hb⟩
  exact hK _ hb
theorem wp_is1 (d c f p1 : Nat) (at1 : Array TypeId) (h1 : a.tmps.getD c undef = .func (.func 53) #[] #[.pointer (some ⟨p1, 0, none⟩)]) (hc : HasCell w p1 (.func (.func 51) #[] #[]))
    (hK : ∀ w1 w', BoxOf w w1 (.func (.func f) #[] #[]) → BoxOf w1 w' (.func (.func 54) #[] #[.pointer (some ⟨w.heap.size, 0, none⟩)]) → K (a.put (some d) (.func (.func 52) #[] #[.pointer (some ⟨w1.heap.size, 0, none⟩)])) w') :
    Oper.wp Try.prog { dst := some d, op := Op.call { callee := Callee.value (Operand.tmp c), args := #[Operand.func f], argTypes := at1 }, type := ty, pos := pos, after := af, guard := none } a w K Q := by
  go_simp
  refine (is_any _ _ _ hc).mono ?_
  rintro e w' ⟨w1, rfl, hb1, hb2⟩
  exact hK _ _ hb1 hb2
theorem wp_insert1 (x : Operand) (v : Value) (b : Nat) (n : Int) (es : Array MapEntry) (clock : Nat) (h1 : a.tmps.getD 4 undef = .map (some b)) (hx : a.eval x = v) (hb : w.heap[b]? = some (.map es clock))
    (hno : Instr.findNow (.int .i64) (.int .i64 n) es.toList 0 = some none) (hK : K a (setBlock w b (.map (es.push ⟨.int .i64 n, v, clock⟩) (clock + 1)))) :
    Oper.wp Try.prog { dst := none, op := Op.insert 66 (Operand.tmp 4) (Operand.const (Value.int IntKind.i64 n)) x, type := ty, pos := pos, after := af, guard := none } a w K Q := by
  have hrun := run_mapUpdate_new Try.underlying66 Try.underlying25 hb n v hno
  have h4 : a.eval (Operand.tmp 4) = .map (some b) := h1
  have hc : a.eval (Operand.const (Value.int IntKind.i64 n)) = .int .i64 n := rfl
  unfold Oper.wp
  simp [execOp, h4, hx, hc, hrun, Result.andThen]
  exact hK
end

end Go.Proofs.Ytkfenljldmbmcaa
