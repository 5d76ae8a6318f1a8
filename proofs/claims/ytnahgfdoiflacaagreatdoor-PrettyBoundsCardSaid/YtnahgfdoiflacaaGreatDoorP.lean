/- The signs: a map from operations to them. -/
import Derived.Test.YtnahgfdoiflacaaGreatDoorO
import Derived.ChangeMaps5
import Derived.ChangeKeysEq
import Derived.Maps.OwnOps
set_option linter.unusedSimpArgs false
set_option linter.unusedVariables false
namespace Go.Proofs.YtnahgfdoiflacaaGreatDoor
open Go.RowKit Go.Lib Go.Shelf Go.MapKept
open Go.ChangeMaps (setBlock heap_setBlock_same heap_setBlock_other)

theorem run_mapUpdateI {P : Program} {t k e : TypeId} (ht : P.underlying t = some (.map k e)) (hk : P.underlying k = some (.int .i64)) {w : World} {b : Nat} {es : Array MapEntry} {clock : Nat}
    (hb : w.heap[b]? = some (.map es clock)) (n : Int) (v : Value) (hno : Instr.findNow (.int .i64) (.int .i64 n) es.toList 0 = some none) :
    (Instr.mapUpdate t (.map (some b)) (.int .i64 n) v).run P w = .ok () (setBlock w b (.map (es.push ⟨.int .i64 n, v, clock⟩) (clock + 1))) := by
  have hik : IsKey (.int .i64) (.int .i64 n) := by simp [IsKey]
  simp [Instr.mapUpdate, run_underlying ht, Go.MapKept.run_getObj_map hb, run_checkKey hk hik, run_findKey hk hno, run_setObj_map _ hb, Result.andThen]
  rfl
theorem run_lookupI {P : Program} {t k e : TypeId} (ht : P.underlying t = some (.map k e)) (hk : P.underlying k = some (.int .i64)) {w : World} {b : Nat} {es : Array MapEntry} {clock : Nat}
    (hb : w.heap[b]? = some (.map es clock)) (n : Int) (v : Value) (i : Nat) (hf : Instr.findNow (.int .i64) (.int .i64 n) es.toList 0 = some (some (i, v))) :
    (Instr.lookup t (.map (some b)) (.int .i64 n) true).run P w = .ok (.tuple #[v, .bool true]) w := by
  have hik : IsKey (.int .i64) (.int .i64 n) := by simp [IsKey]
  simp [Instr.lookup, run_underlying ht, Go.MapKept.run_getObj_map hb, run_checkKey hk hik, run_findKey hk hf, Result.andThen]
theorem run_lookupI_none {P : Program} {t k e : TypeId} (ht : P.underlying t = some (.map k e)) (hk : P.underlying k = some (.int .i64)) {w : World} {b : Nat} {es : Array MapEntry} {clock : Nat}
    (hb : w.heap[b]? = some (.map es clock)) (n : Int) (z : Value) (hz : (zeroValue e).run P w = .ok z w) (hf : Instr.findNow (.int .i64) (.int .i64 n) es.toList 0 = some none) :
    (Instr.lookup t (.map (some b)) (.int .i64 n) true).run P w = .ok (.tuple #[z, .bool false]) w := by
  have hik : IsKey (.int .i64) (.int .i64 n) := by simp [IsKey]
  simp [Instr.lookup, run_underlying ht, Go.MapKept.run_getObj_map hb, run_checkKey hk hik, run_findKey hk hf, hz, Result.andThen]
theorem wpList_mapUpdateI {P : Program} (w : World) {ops : Array Oper} {rest : List Oper} {o : Oper} {a : Act} {Q : Exit → Act → World → Prop}
    (hg : o.guard = none) (m x v : Operand) (t : TypeId) (hop : o.op = Op.mapUpdate t m x v)
    (k e : TypeId) (ht : P.underlying t = some (.map k e)) (hk : P.underlying k = some (.int .i64)) (b : Nat) (n : Int) (val : Value) (es : Array MapEntry) (clock : Nat)
    (hm : a.eval m = .map (some b)) (hx : a.eval x = .int .i64 n) (hv : a.eval v = val) (hb : w.heap[b]? = some (.map es clock))
    (hno : Instr.findNow (.int .i64) (.int .i64 n) es.toList 0 = some none)
    (hK : wpList P ops Q rest (a.put o.dst undef) (setBlock w b (.map (es.push ⟨.int .i64 n, val, clock⟩) (clock + 1)))) :
    wpList P ops Q (o :: rest) a w := by
  refine wpList_plain hg fun K' hK' => ?_
  have hrun := run_mapUpdateI ht hk hb n val hno
  unfold Oper.wp
  simp [execOp, hop, hm, hx, hv, hrun, Result.andThen]
  exact hK' _ _ hK

def sgT : ByteArray := { data := #[43, 32, 45, 32, 42, 32, 38, 32, 124, 32, 94, 32, 60, 60, 32, 62, 62, 32, 62, 62, 62, 32, 60, 60, 60, 32, 62, 62, 62, 62, 32, 61, 61, 32, 33, 61, 32, 60, 32, 60, 61] }
def signS : List ByteArray := signTab.map fun l => ⟨l.toArray⟩
theorem fields_sg : Lib.fields sgT.data.toList = signTab := by decide +kernel
theorem ascii_sg : ∀ (j : Nat) (b : UInt8), sgT.data.toList[j]? = some b → b.toNat < 128 := by
  have h : ∀ b ∈ sgT.data.toList, b.toNat < 128 := by decide +kernel
  exact fun j b hb => h b (List.mem_of_getElem? hb)
theorem sign_len : signS.length = 15 := rfl
/-- the sign of an operation; none: empty -/
def sgnB (op : Int) : Bool := decide (6 ≤ op) && decide (op ≤ 20)
def sgnT (op : Int) : ByteArray := if sgnB op then ⟨(signT op).toArray⟩ else ⟨#[]⟩
def entI (c : Nat) (x : ByteArray × Nat) : MapEntry := ⟨.int .i64 (6 + (x.2 : Int)), .agg #[.string x.1], x.2⟩
def entOf (L : List ByteArray) : List MapEntry := L.zipIdx.map (entI 0)
theorem ent_snoc (L : List ByteArray) (x : ByteArray) : entOf (L ++ [x]) = entOf L ++ [⟨.int .i64 (6 + (L.length : Int)), .agg #[.string x], L.length⟩] := by
  unfold entOf
  rw [List.zipIdx_append, List.map_append]
  simp [entI]
theorem find_ent (n : Int) : ∀ (L : List ByteArray) (c i : Nat),
    ((∀ j : Nat, j < L.length → n ≠ 6 + ((c + j : Nat) : Int)) → Instr.findNow (.int .i64) (.int .i64 n) ((L.zipIdx c).map (entI 0)) i = some none) ∧
    (∀ (j : Nat) (x : ByteArray), L[j]? = some x → n = 6 + ((c + j : Nat) : Int) → Instr.findNow (.int .i64) (.int .i64 n) ((L.zipIdx c).map (entI 0)) i = some (some (i + j, .agg #[.string x])))
  | [], c, i => ⟨fun _ => rfl, fun j x h => by cases h⟩
  | y :: L, c, i => by
    obtain ⟨h1, h2⟩ := find_ent n L (c + 1) (i + 1)
    rw [List.zipIdx_cons, List.map_cons]
    have e : Instr.sameNow (.int .i64) (.int .i64 n) (.int .i64 (6 + (c : Int))) = some (n == 6 + (c : Int)) := by simp [Instr.sameNow]
    refine ⟨fun h => ?_, fun j x hx hn => ?_⟩
    · have h0 := h 0 (by simp)
      have hne : (n == 6 + (c : Int)) = false := by simpa using h0
      rw [hne] at e
      simp only [Instr.findNow, entI, e]
      exact h1 fun j hj => by
        have := h (j + 1) (by simpa using hj)
        rwa [show c + (j + 1) = c + 1 + j by omega] at this
    · cases j with
      | zero =>
        have heq : (n == 6 + (c : Int)) = true := by simpa using hn
        rw [heq] at e
        simp only [Instr.findNow, entI, e]
        cases hx
        rfl
      | succ j =>
        have hne : (n == 6 + (c : Int)) = false := by simp; omega
        rw [hne] at e
        simp only [Instr.findNow, entI, e]
        have := h2 j x (by simpa using hx) (by rw [hn]; congr 2; omega)
        rw [show i + (j + 1) = i + 1 + j by omega]
        exact this
/-- the map of signs lies -/
def SignAt (w : World) (b : Nat) : Prop := ∃ clock, w.heap[b]? = some (.map (entOf signS).toArray clock)
theorem SignAt.below {w w' : World} {b : Nat} (h : SignAt w b) (hb : Below w.heap.size w w') : SignAt w' b := by
  obtain ⟨c, h⟩ := h
  exact ⟨c, (hb.block b (blk_lt h)).trans h⟩
theorem zero120 (w : World) : (zeroValue 120).run Tryz.prog w = .ok (.agg #[.string ⟨#[]⟩]) w := by kernel_rfl
theorem und122 : Tryz.prog.underlying 122 = some (.map 22 120) := by kernel_rfl
theorem und22 : Tryz.prog.underlying 22 = some (.int .i64) := by kernel_rfl
theorem sgnT_get {op : Int} (h : sgnB op = true) : signS[(op - 6).toNat]? = some (sgnT op) := by
  unfold sgnT
  rw [if_pos h]
  unfold sgnB at h
  rw [Bool.and_eq_true, decide_eq_true_iff, decide_eq_true_iff] at h
  unfold signS
  rw [List.getElem?_map, List.getElem?_eq_getElem (show (op - 6).toNat < signTab.length by show _ < 15; omega)]
  unfold signT
  rw [List.getD_eq_getElem?_getD, List.getElem?_eq_getElem (show (op - 6).toNat < signTab.length by show _ < 15; omega)]
  rfl
theorem lookup_sgn {w : World} {b : Nat} (h : SignAt w b) (op : Int) : (Instr.lookup 122 (.map (some b)) (.int .i64 op) true).run Tryz.prog w = .ok (.tuple #[.agg #[.string (sgnT op)], .bool (sgnB op)]) w := by
  obtain ⟨c, h⟩ := h
  cases hs : sgnB op with
  | true =>
    have hg := sgnT_get hs
    unfold sgnB at hs
    rw [Bool.and_eq_true, decide_eq_true_iff, decide_eq_true_iff] at hs
    exact run_lookupI und122 und22 h op _ _ ((find_ent op signS 0 0).2 _ _ hg (by omega))
  | false =>
    have e : sgnT op = ⟨#[]⟩ := by unfold sgnT; rw [hs]; rfl
    rw [e]
    refine run_lookupI_none und122 und22 h op _ (zero120 w) ((find_ent op signS 0 0).1 fun j hj => ?_)
    rw [sign_len] at hj
    intro hc
    unfold sgnB at hs
    rw [decide_eq_true (show (6 : Int) ≤ op by omega), decide_eq_true (show op ≤ 20 by omega)] at hs
    cases hs

set_option maxRecDepth 100000 in
set_option maxHeartbeats 2000000 in
theorem signs_any (w : World) (hE : Env w) : Calls Tryz.prog 84 #[] w fun e w' => ∃ b, e = .returned (.map (some b)) ∧ w.heap.size ≤ b ∧ SignAt w' b ∧ Below w.heap.size w w' := by
  have hmm := @run_makeMap Tryz.prog
  have hf := Tryz.strings_Fields sgT (w.alloc (.map #[] 0)) (by decide +kernel) ascii_sg (Lib.tabIs_alloc hE.sp _)
  rw [fields_sg] at hf
  have hf := Lib.hid hf
  clear hE
  go_enter Tryz.func84, Tryz.ntmps84
  go_wp2_with fail
  refine hf.out.mono ?_
  rintro e w1 ⟨rfl, hw1⟩
  have hB : Below w.heap.size w w1 := by rw [hw1]; exact ((Below.refl _ w).alloc (Nat.le_refl _) _).alloc (by simp) _
  have hM : w1.heap[w.heap.size]? = some (.map (entOf (signS.take 0)).toArray 0) := by
    rw [hw1, heap_alloc_old _ _ (by simp)]
    exact heap_alloc_new w _
  have hq : w.heap.size + 1 = (w.alloc (.map #[] 0)).heap.size := by simp
  have hC : ∀ j x, signS[j]? = some x → w1.cell? ⟨w.heap.size + 1, j, none⟩ = some (.string x) := fun j x hx => by
    rw [hw1, hq, blk_cell (heap_alloc_new (w.alloc (.map #[] 0)) _)]
    have e2 : (signTab.map fun l => Value.string ⟨l.toArray⟩) = signS.map Value.string := by unfold signS; rw [List.map_map]; rfl
    rw [e2, List.getElem?_toArray, List.getElem?_map, hx]
    rfl
  have hl27 : signTab.length = 15 := rfl
  rw [hl27, ← hq]
  have hBs := Lib.hid hB
  have hM := Lib.hid hM
  have hC := Lib.hid hC
  have hsz : w.heap.size + 1 < w1.heap.size := by rw [hw1]; simp
  clear hB hw1 hf hmm hl27 hq
  go_wp2_with fail
  go_loopg [7] 15 (fun g s7 wr => ∃ k : Nat, k + g = 15 ∧ s7 = .int .i64 k ∧ wr.heap[w.heap.size]? = some (.map (entOf (signS.take k)).toArray k) ∧ (∀ i, i ≠ w.heap.size → wr.heap[i]? = w1.heap[i]?) ∧ wr.heap.size = w1.heap.size ∧ Below w.heap.size w wr)
  case atStart => exact ⟨0, by omega, rfl, hM.out, fun _ _ => rfl, rfl, hBs.out⟩
  case round =>
    obtain ⟨k, hkg, rfl, hm, ho, hz, hb⟩ := hrel
    have hm := Lib.hid hm
    have ho := Lib.hid ho
    have hb := Lib.hid hb
    have hz := Lib.hid hz
    cases gk with
    | zero =>
      have e0 : ¬ ((k : Int) < 15) := by omega
      have hk : k = 15 := by omega
      have hfin := Lib.hid (show SignAt wr w.heap.size from ⟨k, by
        have := hm.out
        rw [List.take_of_length_le (by rw [sign_len]; omega)] at this
        exact this⟩)
      go_wp2
      go_ret
      exact ⟨_, rfl, Nat.le_refl _, hfin.out, hb.out⟩
    | succ g2 =>
      have e0 : (k : Int) < 15 := by omega
      have hx : signS[k]? = some (signS[k]'(by rw [sign_len]; omega)) := List.getElem?_eq_getElem _
      have cx : wr.cell? ⟨w.heap.size + 1, k, none⟩ = some (.string (signS[k]'(by rw [sign_len]; omega))) := by
        rw [World.cell?_of_block (a := ⟨w.heap.size + 1, k, none⟩) (ho.out (w.heap.size + 1) (by omega))]
        exact hC.out k _ hx
      generalize signS[k]'(by rw [sign_len]; omega) = x at hx cx
      have hno := Lib.hid ((find_ent (6 + (k : Int)) (signS.take k) 0 0).1 fun j hj => by rw [List.length_take] at hj; omega)
      have hx := Lib.hid hx
      go_wp2_with (refine wpList_mapUpdateI _ rfl _ _ _ _ rfl _ _ und122 und22 w.heap.size (6 + (k : Int)) (.agg #[.string x]) _ _ rfl rfl rfl hm.out hno.out ?_)
      go_roundg g2
      case measure => omega
      case rel =>
        refine ⟨k + 1, by omega, by go_num, ?_, fun i hi => (heap_setBlock_other hm.out _ hi).trans (ho.out i hi), ?_, ?_⟩
        · rw [heap_setBlock_same hm.out, List.take_add_one, hx.out]
          have hk27 : k ≤ signS.length := by rw [sign_len]; omega
          show _ = some (Obj.map (entOf (signS.take k ++ [x])).toArray (k + 1))
          rw [ent_snoc, List.length_take, Nat.min_eq_left hk27]
          first | done | simp
        · simp [setBlock, hz.out]
        · exact ⟨hb.out.os, hb.out.tape, hb.out.output, by simpa [setBlock] using hb.out.size, fun i hi => (heap_setBlock_other hm.out _ (by omega)).trans (hb.out.block i hi)⟩

set_option maxRecDepth 100000 in
set_option maxHeartbeats 2000000 in
theorem sign_any (op : Int) (w : World) (hE : Env w) : Calls Tryz.prog 31 #[.int .i64 op] w fun e w' => e = .returned (.tuple #[.string (sgnT op), .bool (sgnB op)]) ∧ Below w.heap.size w w' := by
  have hs := Lib.hid (signs_any w hE)
  clear hE
  go_enter Tryz.func31, Tryz.ntmps31
  go_wp2_with fail
  refine hs.out.mono ?_
  rintro e w1 ⟨b, rfl, hle, hsg, hb⟩
  have hl := lookup_sgn hsg op
  have hb := Lib.hid hb
  clear hsg
  go_wp2
  go_ret2
  exact ⟨rfl, hb.out.alloc hb.out.size _⟩

set_option maxRecDepth 100000 in
set_option maxHeartbeats 2000000 in
theorem refSign_any (op : Int) (w : World) : Calls Tryz.prog 32 #[.int .i64 op] w (StrPost (sgnT op) w) := by
  have hb1 := Lib.hid ((Below.refl _ w).alloc (Nat.le_refl w.heap.size) (.cells #[.string { data := #[43] }, .string { data := #[45] }, .string { data := #[42] }, .string { data := #[38] }, .string { data := #[124] }, .string { data := #[94] }, .string { data := #[60, 60] }, .string { data := #[62, 62] }, .string { data := #[62, 62, 62] }, .string { data := #[60, 60, 60] }, .string { data := #[62, 62, 62, 62] }, .string { data := #[61, 61] }, .string { data := #[33, 61] }, .string { data := #[60] }, .string { data := #[60, 61] }] 9))
  have hC : ∀ j x, signS[j]? = some x → (w.alloc (.cells #[.string { data := #[43] }, .string { data := #[45] }, .string { data := #[42] }, .string { data := #[38] }, .string { data := #[124] }, .string { data := #[94] }, .string { data := #[60, 60] }, .string { data := #[62, 62] }, .string { data := #[62, 62, 62] }, .string { data := #[60, 60, 60] }, .string { data := #[62, 62, 62, 62] }, .string { data := #[61, 61] }, .string { data := #[33, 61] }, .string { data := #[60] }, .string { data := #[60, 61] }] 9)).cell? ⟨w.heap.size, j, none⟩ = some (.string x) := fun j x hx => by
    rw [blk_cell (heap_alloc_new w _)]
    show (signS.map Value.string).toArray[j]? = _
    rw [List.getElem?_toArray, List.getElem?_map, hx]
    rfl
  cases hs : sgnB op with
  | true =>
    have hg := sgnT_get hs
    have hs' := hs
    unfold sgnB at hs'
    rw [Bool.and_eq_true, decide_eq_true_iff, decide_eq_true_iff] at hs'
    obtain ⟨h1, h2⟩ := hs'
    have hc := hC _ _ hg
    obtain ⟨i, hi⟩ : ∃ i : Nat, (op - 6).toNat = i := ⟨_, rfl⟩
    rw [hi] at hc
    have hw : IntKind.i64.wrap (op - 6) = (i : Int) := by rw [IntKind.wrap_i64]; omega
    have hi15 : (i : Int) < 15 := by omega
    have a1 : ¬ op < 6 := by omega
    have a2 : ¬ 20 < op := by omega
    clear hC hi h1 h2 hs hg
    go_enter Tryz.func32, Tryz.ntmps32
    go_wp2
    go_ret
    exact ⟨rfl, hb1.out⟩
  | false =>
    have e : sgnT op = ⟨#[]⟩ := by unfold sgnT; rw [hs]; rfl
    rw [e]
    have : op < 6 ∨ 20 < op := by
      rcases Int.lt_or_le op 6 with h | h
      · exact .inl h
      · rcases Int.lt_or_le 20 op with h2 | h2
        · exact .inr h2
        · unfold sgnB at hs
          rw [decide_eq_true h, decide_eq_true h2] at hs
          cases hs
    clear hs hC e
    rcases this with h | h
    · go_enter Tryz.func32, Tryz.ntmps32
      go_wp2
      go_ret
      exact ⟨rfl, hb1.out⟩
    · have h1 : ¬ op < 6 := by omega
      go_enter Tryz.func32, Tryz.ntmps32
      go_wp2
      go_ret
      exact ⟨rfl, hb1.out⟩
end Go.Proofs.YtnahgfdoiflacaaGreatDoor
