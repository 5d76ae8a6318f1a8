/- Arrays of bytes compared. -/
import Derived.Test.YtageahpgcjnkpaaU
import Derived.Deep.WholeRow
import Derived.Laws.BytesArg
import Derived.Laws.StructEq
set_option linter.unusedSimpArgs false
set_option linter.unusedVariables false
namespace Go.Proofs.Ytageahpgcjnkpaa
open Go.RowKit

theorem und83 : Try.prog.underlying 83 = some (.array 65536 5) := by kernel_rfl
theorem und5 : Try.prog.underlying 5 = some (.int .u8) := by kernel_rfl
theorem plain5 : Try.prog.plainKey 5 = true := by kernel_rfl
theorem cells5 : Try.prog.cellsOf 5 = 1 := by kernel_rfl
theorem size83 : (Try.prog.info? 83).map (·.size) = some 65536 := by kernel_rfl
theorem noGuard83 : Try.prog.eqGuardType Try.prog.depth 83 = false := by kernel_rfl
theorem info5' : ∃ i, Try.prog.info? 5 = some i := by
  cases h : Try.prog.info? 5 with
  | none => have := info5; rw [h] at this; cases this
  | some i => exact ⟨i, rfl⟩
/-- all bytes are the same -/
@[irreducible] def eqF (f g : Nat → Int) : Bool := (List.range 65536).all fun i => decide (f i = g i)
theorem eqF_iff (f g : Nat → Int) : eqF f g = true ↔ ∀ i, i < 65536 → f i = g i := by
  unfold eqF
  rw [List.all_eq_true]
  exact ⟨fun h i hi => by simpa using h i (List.mem_range.2 hi), fun h i hi => by simpa using h i (List.mem_range.1 hi)⟩
theorem eqCell (d : Nat) (a b : Int) (w : World) : (Op.equalIn (d + 1) 5 (.int .u8 a) (.int .u8 b)).run Try.prog w = .ok (decide (a = b)) w := by
  unfold Op.equalIn
  rw [Sem.run_bind, run_underlying und5]
  simp [go_sem]
  rfl
theorem eqItems_run (d : Nat) (f g : Nat → Int) (xs ys : Array Value) (w : World) (is : List Nat) : (∀ i ∈ is, xs[i]? = some (.int .u8 (f i)) ∧ ys[i]? = some (.int .u8 (g i))) → (Op.eqItems (d + 1) 5 1 xs ys is).run Try.prog w = .ok (is.all fun i => decide (f i = g i)) w := by
  induction is with
  | nil => intro _; rfl
  | cons i is ih =>
    intro h
    obtain ⟨h1, h2⟩ := h i (by simp)
    have p1 : (part 5 xs (i * 1)).run Try.prog w = .ok (.int .u8 (f i)) w := run_part_plain w plain5 (by rw [Nat.mul_one]; exact h1)
    have p2 : (part 5 ys (i * 1)).run Try.prog w = .ok (.int .u8 (g i)) w := run_part_plain w plain5 (by rw [Nat.mul_one]; exact h2)
    have ih' := ih (fun j hj => h j (by simp [hj]))
    simp only [Op.eqItems, Sem.run_bind, p1, p2, eqCell, Result.andThen_ok]
    by_cases e : f i = g i
    · simp [e, ih']
    · simp [e]
theorem eqArr_run (d : Nat) (f g : Nat → Int) (w : World) : (Op.equalIn (d + 1 + 1) 83 (.agg (bytes f)) (.agg (bytes g))).run Try.prog w = .ok (eqF f g) w := by
  obtain ⟨i, hi⟩ := info5'
  have h := run_equalIn_array (P := Try.prog) w (d + 1) (bytes f) (bytes g) und83 hi
  rw [cells5] at h
  unfold eqF
  exact h.trans (eqItems_run d f g (bytes f) (bytes g) w _ fun i hi => ⟨bytes_at f i (List.mem_range.1 hi), bytes_at g i (List.mem_range.1 hi)⟩)
theorem run_eq83 (f g : Nat → Int) (w : World) : (binOp .eql 83 (.agg (bytes f)) (.agg (bytes g))).run Try.prog w = .ok (.bool (eqF f g)) w := by
  have h := fun d => eqArr_run d f g w
  show ((do pure (.bool (← Op.equal 83 (.agg (bytes f)) (.agg (bytes g)))) : Sem Value)).run Try.prog w = _
  unfold Op.equal Op.maxDepth
  rw [Sem.run_bind]
  rw [h]
  rfl

section
variable {P : Program} {C : World → Prop} {a : Act} {o : Oper} {K : Act → Prop}
theorem quiet_run {v : Value} (h : ∀ w, C w → (execOp a.eval o).run P w = .ok (.value v) w) (hk : K (a.put o.dst v)) : o.quiet P a C K :=
  ⟨v, fun w hw => by unfold Oper.quietAt; rw [h w hw]; exact ⟨rfl, rfl⟩, hk⟩
/-- a whole array loaded -/
theorem quiet_load_row (ty : TypeId) (x : Operand) (ho : o.op = .load ty x) (g : Nat) (hx : a.eval x = .pointer (some ⟨g, 0, none⟩)) (t : TypeId) (cs : Array Value) (fr : Nat × Nat) (d : TypeDesc) (hg : ∀ w, C w → w.heap[g]? = some (.cells cs t fr))
    (hu : P.underlying ty = some d) (hd : (match d with | .struct _ | .array _ _ => true | _ => false) = true) (hi : (P.info? ty).map (·.size) = some cs.size) (h : K (a.put o.dst (.agg cs))) : o.quiet P a C K :=
  quiet_run (fun w hw => by
    unfold execOp
    simp only [ho, hx, Instr.loadAt, Instr.sureAddr, Sem.run_bind, Sem.run_pure, Result.andThen_ok, run_loadVar_row w g t ty cs fr d (hg w hw) hu hd hi]) h
theorem quiet_convert (s d : TypeId) (x : Operand) (ho : o.op = .convert s d x) (vx v : Value) (hx : a.eval x = vx) (hr : ∀ w, C w → (convert s d vx).run P w = .ok v w) (h : K (a.put o.dst v)) : o.quiet P a C K :=
  quiet_run (fun w hw => by
    unfold execOp
    simp only [ho, hx, Sem.run_bind, Sem.run_pure, Result.andThen_ok, hr w hw]) h
/-- two values of a struct's or an array's type compared -/
theorem quiet_eql_agg (t t' : TypeId) (x y : Operand) (ho : o.op = .binOp .eql t x y t') (xs ys : Array Value) (v : Value) (hx : a.eval x = .agg xs) (hy : a.eval y = .agg ys) (hm : P.eqGuardType P.depth t = false) (hr : ∀ w, (binOp .eql t (.agg xs) (.agg ys)).run P w = .ok v w) (h : K (a.put o.dst v)) : o.quiet P a C K :=
  quiet_run (fun w hw => by
    unfold execOp
    simp only [ho, hx, hy, Sem.run_bind, Sem.run_pure, Result.andThen_ok, run_eqGuard_agg w .eql t x y xs ys hm, hr w]) h
end

theorem und50 : Try.prog.underlying 50 = some (.slice 5) := by kernel_rfl
theorem und9 : Try.prog.underlying 9 = some .string := by kernel_rfl
/-- bytes as a string -/
@[irreducible] def strF (f : Nat → Int) (o n : Nat) : ByteArray := strOfNums ((List.range n).map fun i => f (o + i))
theorem run_strF (w : World) (q o n c : Nat) (f : Nat → Int) {t : TypeId} (hq : w.heap[q]? = some (.cells (bytes f) t (0, 0))) (hn : o + n ≤ 65536) : (convert 50 9 (.slice (some ⟨q, o, none⟩) n c)).run Try.prog w = .ok (.string (strF f o n)) w := by
  unfold strF
  refine run_convert_bytes_arg w 50 5 und50 und5 q o n c ((List.range n).map fun i => f (o + i)) (by simp) (fun i hi => ?_) 9 und9
  rw [blk_cell hq, bytes_at _ _ (by omega), List.getD_eq_getElem?_getD, List.getElem?_map, List.getElem?_range hi]
  rfl
theorem strF_eq {f g : Nat → Int} (hf : ByteFn f) (hg : ByteFn g) (o n : Nat) : ((strF f o n).toList == (strF g o n).toList) = true ↔ ∀ i, i < n → f (o + i) = g (o + i) := by
  rw [toList_iff]
  unfold strF
  constructor
  · intro h i hi
    have h2 : ((List.range n).map fun i => f (o + i)).map (fun n => UInt8.ofNat n.toNat) = ((List.range n).map fun i => g (o + i)).map (fun n => UInt8.ofNat n.toNat) := by
      rw [← strOfNums_data, ← strOfNums_data, h]
    have h3 : (((List.range n).map fun i => f (o + i)).map (fun n => UInt8.ofNat n.toNat))[i]? = (((List.range n).map fun i => g (o + i)).map (fun n => UInt8.ofNat n.toNat))[i]? := by rw [h2]
    rw [List.getElem?_map, List.getElem?_map, List.getElem?_map, List.getElem?_map, List.getElem?_range hi] at h3
    simp only [Option.map_some, Option.some.injEq] at h3
    have h4 := congrArg UInt8.toNat h3
    obtain ⟨a0, a1⟩ := hf (o + i)
    obtain ⟨b0, b1⟩ := hg (o + i)
    simp only [UInt8.toNat_ofNat'] at h4
    omega
  · intro h
    congr 1
    apply List.map_congr_left
    intro i hi
    exact h i (List.mem_range.1 hi)
theorem strF_eqF {f g : Nat → Int} (hf : ByteFn f) (hg : ByteFn g) : ((strF f 0 65536).toList == (strF g 0 65536).toList) = eqF f g := by
  rw [Bool.eq_iff_iff, strF_eq hf hg, eqF_iff]
  simp only [Nat.zero_add]
end Go.Proofs.Ytageahpgcjnkpaa
