/- The signs: a map of them. -/
import Derived.Test.YtmkfoknhjjgipaaDoorD
import Derived.ChangeMaps5
import Derived.ChangeKeysEq
import Derived.Maps.OwnOps
set_option linter.unusedSimpArgs false
set_option linter.unusedVariables false
namespace Go.Proofs.YtmkfoknhjjgipaaDoor
open Go.RowKit Go.Lib Go.Shelf Go.MapKept
open Go.ChangeMaps (setBlock heap_setBlock_same heap_setBlock_other)

theorem run_mapUpdate_new {P : Program} {t k e : TypeId} (ht : P.underlying t = some (.map k e)) (hk : P.underlying k = some .string) {w : World} {b : Nat} {es : Array MapEntry} {clock : Nat}
    (hb : w.heap[b]? = some (.map es clock)) (n : ByteArray) (v : Value) (hno : Instr.findNow .string (.string n) es.toList 0 = some none) :
    (Instr.mapUpdate t (.map (some b)) (.string n) v).run P w = .ok () (setBlock w b (.map (es.push ⟨.string n, v, clock⟩) (clock + 1))) := by
  have hik : IsKey .string (.string n) := by simp [IsKey]
  simp [Instr.mapUpdate, run_underlying ht, Go.MapKept.run_getObj_map hb, run_checkKey hk hik, run_findKey hk hno, run_setObj_map _ hb, Result.andThen]
  rfl
theorem run_lookup_lit {P : Program} {t k e : TypeId} (ht : P.underlying t = some (.map k e)) (hk : P.underlying k = some .string) {w : World} {b : Nat} {es : Array MapEntry} {clock : Nat}
    (hb : w.heap[b]? = some (.map es clock)) (n : ByteArray) (v : Value) (i : Nat) (hf : Instr.findNow .string (.string n) es.toList 0 = some (some (i, v))) :
    (Instr.lookup t (.map (some b)) (.string n) false).run P w = .ok v w := by
  have hik : IsKey .string (.string n) := by simp [IsKey]
  simp [Instr.lookup, run_underlying ht, Go.MapKept.run_getObj_map hb, run_checkKey hk hik, run_findKey hk hf, Result.andThen]
theorem run_lookup_none {P : Program} {t k e : TypeId} (ht : P.underlying t = some (.map k e)) (hk : P.underlying k = some .string) {w : World} {b : Nat} {es : Array MapEntry} {clock : Nat}
    (hb : w.heap[b]? = some (.map es clock)) (n : ByteArray) (z : Value) (hz : (zeroValue e).run P w = .ok z w) (hf : Instr.findNow .string (.string n) es.toList 0 = some none) :
    (Instr.lookup t (.map (some b)) (.string n) false).run P w = .ok z w := by
  have hik : IsKey .string (.string n) := by simp [IsKey]
  simp [Instr.lookup, run_underlying ht, Go.MapKept.run_getObj_map hb, run_checkKey hk hik, run_findKey hk hf, hz, Result.andThen]

def sgT : ByteArray := { data := #[40, 32, 41, 32, 123, 32, 125, 32, 91, 32, 93, 32, 44, 32, 59, 32, 61, 32, 43, 32, 45, 32, 42, 32, 38, 32, 124, 32, 94, 32, 126, 32, 60, 32, 60, 60, 32, 60, 60, 60, 32, 60, 61, 32, 62, 32, 62, 62, 32, 62, 62, 62, 32, 62, 62, 62, 62, 32, 61, 61, 32, 33, 61, 32, 45, 62] }
def signL : List (List UInt8) := [[40], [41], [123], [125], [91], [93], [44], [59], [61], [43], [45], [42], [38], [124], [94], [126], [60], [60, 60], [60, 60, 60], [60, 61], [62], [62, 62], [62, 62, 62], [62, 62, 62, 62], [61, 61], [33, 61], [45, 62]]
def signS : List ByteArray := signL.map fun l => ⟨l.toArray⟩
theorem fields_sg : Lib.fields sgT.data.toList = signL := by decide +kernel
theorem ascii_sg : ∀ (j : Nat) (b : UInt8), sgT.data.toList[j]? = some b → b.toNat < 128 := by
  have h : ∀ b ∈ sgT.data.toList, b.toNat < 128 := by decide +kernel
  exact fun j b hb => h b (List.mem_of_getElem? hb)
theorem sign_nodup : signS.Nodup := by decide +kernel
theorem sign_len : signS.length = 27 := rfl
def yes : Value := .agg #[.bool true]
def entOf (L : List ByteArray) : List MapEntry := L.zipIdx.map fun x => ⟨.string x.1, yes, x.2⟩
theorem ent_snoc (L : List ByteArray) (x : ByteArray) : entOf (L ++ [x]) = entOf L ++ [⟨.string x, yes, L.length⟩] := by
  unfold entOf
  rw [List.zipIdx_append, List.map_append]
  simp
theorem str_ne {a b : ByteArray} (h : a ≠ b) : (a == b) = false := by
  have e : (a == b) = (a.data == b.data) := rfl
  rw [e]
  have : a.data ≠ b.data := fun e => h (by cases a; cases b; simp at e; rw [e])
  simpa using this
theorem str_eq (a : ByteArray) : (a == a) = true := by
  have e : (a == a) = (a.data == a.data) := rfl
  rw [e]
  simp
theorem find_ent (n : ByteArray) : ∀ (L : List ByteArray) (c i : Nat),
    (n ∉ L → Instr.findNow .string (.string n) ((L.zipIdx c).map fun x => (⟨.string x.1, yes, x.2⟩ : MapEntry)) i = some none) ∧
    (n ∈ L → ∃ j, Instr.findNow .string (.string n) ((L.zipIdx c).map fun x => (⟨.string x.1, yes, x.2⟩ : MapEntry)) i = some (some (j, yes)))
  | [], c, i => ⟨fun _ => rfl, fun h => by cases h⟩
  | y :: L, c, i => by
    obtain ⟨h1, h2⟩ := find_ent n L (c + 1) (i + 1)
    rw [List.zipIdx_cons, List.map_cons]
    by_cases hy : n = y
    · subst hy
      refine ⟨fun h => absurd (List.mem_cons_self ..) h, fun _ => ⟨i, ?_⟩⟩
      simp [Instr.findNow, Instr.sameNow, str_eq]
    · have hne := str_ne hy
      refine ⟨fun h => ?_, fun h => ?_⟩
      · simp only [Instr.findNow, Instr.sameNow, hne]
        exact h1 (fun hm => h (List.mem_cons_of_mem _ hm))
      · rcases List.mem_cons.1 h with rfl | h
        · exact absurd rfl hy
        · obtain ⟨j, hj⟩ := h2 h
          refine ⟨j, ?_⟩
          simp only [Instr.findNow, Instr.sameNow, hne]
          exact hj
theorem nodup_take {α : Type} {L : List α} (h : L.Nodup) {k : Nat} {x : α} (hx : L[k]? = some x) : x ∉ L.take k := by
  intro hm
  obtain ⟨j, hj⟩ := List.getElem?_of_mem hm
  have hjl := (List.getElem?_eq_some_iff.1 hj).1
  rw [List.length_take] at hjl
  rw [List.getElem?_take, if_pos (by omega)] at hj
  have hkl := (List.getElem?_eq_some_iff.1 hx).1
  have := (List.getElem?_inj (by omega) h).1 (hj.trans hx.symm)
  omega

/-- the map of signs lies -/
def SignAt (w : World) (b : Nat) : Prop := ∃ clock, w.heap[b]? = some (.map (entOf signS).toArray clock)
theorem SignAt.below {w w' : World} {b : Nat} (h : SignAt w b) (hb : Below w.heap.size w w') : SignAt w' b := by
  obtain ⟨c, h⟩ := h
  exact ⟨c, (hb.block b (blk_lt h)).trans h⟩
theorem lookup_yes {w : World} {b : Nat} (h : SignAt w b) {n : ByteArray} (hn : n ∈ signS) : (Instr.lookup 63 (.map (some b)) (.string n) false).run Tryd.prog w = .ok yes w := by
  obtain ⟨c, h⟩ := h
  obtain ⟨j, hj⟩ := (find_ent n signS 0 0).2 hn
  exact run_lookup_lit Tryd.underlying63 Tryd.underlying9 h n yes j hj
theorem zero125 (w : World) : (zeroValue 87).run Tryd.prog w = .ok (.agg #[.bool false]) w := by kernel_rfl
theorem lookup_no {w : World} {b : Nat} (h : SignAt w b) {n : ByteArray} (hn : n ∉ signS) : (Instr.lookup 63 (.map (some b)) (.string n) false).run Tryd.prog w = .ok (.agg #[.bool false]) w := by
  obtain ⟨c, h⟩ := h
  exact run_lookup_none Tryd.underlying63 Tryd.underlying9 h n _ (zero125 w) ((find_ent n signS 0 0).1 hn)
theorem wpList_mapUpdate_new {P : Program} (w : World) {ops : Array Oper} {rest : List Oper} {o : Oper} {a : Act} {Q : Exit → Act → World → Prop}
    (hg : o.guard = none) (m x v : Operand) (t : TypeId) (hop : o.op = Op.mapUpdate t m x v)
    (k e : TypeId) (ht : P.underlying t = some (.map k e)) (hk : P.underlying k = some .string) (b : Nat) (n : ByteArray) (val : Value) (es : Array MapEntry) (clock : Nat)
    (hm : a.eval m = .map (some b)) (hx : a.eval x = .string n) (hv : a.eval v = val) (hb : w.heap[b]? = some (.map es clock))
    (hno : Instr.findNow .string (.string n) es.toList 0 = some none)
    (hK : wpList P ops Q rest (a.put o.dst undef) (setBlock w b (.map (es.push ⟨.string n, val, clock⟩) (clock + 1)))) :
    wpList P ops Q (o :: rest) a w := by
  refine wpList_plain hg fun K' hK' => ?_
  have hrun := run_mapUpdate_new ht hk hb n val hno
  unfold Oper.wp
  simp [execOp, hop, hm, hx, hv, hrun, Result.andThen]
  exact hK' _ _ hK

set_option maxRecDepth 100000 in
set_option maxHeartbeats 2000000 in
theorem signs_any (w : World) (hE : Env w) : Calls Tryd.prog 26 #[] w fun e w' => ∃ b, e = .returned (.map (some b)) ∧ w.heap.size ≤ b ∧ SignAt w' b ∧ Below w.heap.size w w' := by
  have hmm := @run_makeMap Tryd.prog
  have hf := Tryd.strings_Fields sgT (w.alloc (.map #[] 0)) (by decide +kernel) ascii_sg (Lib.tabIs_alloc hE.sp _)
  rw [fields_sg] at hf
  have hf := Lib.hid hf
  clear hE
  go_enter Tryd.func26, Tryd.ntmps26
  go_wp2_with fail
  refine hf.out.mono ?_
  rintro e w1 ⟨rfl, hw1⟩
  have hB : Below w.heap.size w w1 := by rw [hw1]; exact ((Below.refl _ w).alloc (Nat.le_refl _) _).alloc (by simp) _
  have hM : w1.heap[w.heap.size]? = some (.map (entOf (signS.take 0)).toArray 0) := by
    rw [hw1, heap_alloc_old _ _ (by simp)]
    exact heap_alloc_new w _
  have hq : w.heap.size + 1 = (w.alloc (.map #[] 0)).heap.size := by simp
  have hC : ∀ j x, signS[j]? = some x → w1.cell? ⟨w.heap.size + 1, j, none⟩ = some (.string x) := fun j x hx => by
    rw [hw1, hq, blk_cell (heap_alloc_new (w.alloc (.map #[] 0)) _)]
    have e2 : (signL.map fun l => Value.string ⟨l.toArray⟩) = signS.map Value.string := by unfold signS; rw [List.map_map]; rfl
    rw [e2, List.getElem?_toArray, List.getElem?_map, hx]
    rfl
  have hl27 : signL.length = 27 := rfl
  rw [hl27, ← hq]
  have hBs := Lib.hid hB
  have hM := Lib.hid hM
  have hC := Lib.hid hC
  have hsz : w.heap.size + 1 < w1.heap.size := by rw [hw1]; simp
  clear hB hw1 hf hmm hl27 hq
  go_wp2_with fail
  go_loopg [7] 27 (fun g s7 wr => ∃ k : Nat, k + g = 27 ∧ s7 = .int .i64 k ∧ wr.heap[w.heap.size]? = some (.map (entOf (signS.take k)).toArray k) ∧ (∀ i, i ≠ w.heap.size → wr.heap[i]? = w1.heap[i]?) ∧ wr.heap.size = w1.heap.size ∧ Below w.heap.size w wr)
  case atStart => exact ⟨0, by omega, rfl, hM.out, fun _ _ => rfl, rfl, hBs.out⟩
  case round =>
    obtain ⟨k, hkg, rfl, hm, ho, hz, hb⟩ := hrel
    have hm := Lib.hid hm
    have ho := Lib.hid ho
    have hb := Lib.hid hb
    have hz := Lib.hid hz
    cases gk with
    | zero =>
      have e0 : ¬ ((k : Int) < 27) := by omega
      have hk : k = 27 := by omega
      have hfin := Lib.hid (show SignAt wr w.heap.size from ⟨k, by
        have := hm.out
        rw [List.take_of_length_le (by rw [sign_len]; omega)] at this
        exact this⟩)
      go_wp2
      go_ret
      exact ⟨_, rfl, Nat.le_refl _, hfin.out, hb.out⟩
    | succ g2 =>
      have e0 : (k : Int) < 27 := by omega
      have hx : signS[k]? = some (signS[k]'(by rw [sign_len]; omega)) := List.getElem?_eq_getElem _
      have cx : wr.cell? ⟨w.heap.size + 1, k, none⟩ = some (.string (signS[k]'(by rw [sign_len]; omega))) := by
        rw [World.cell?_of_block (a := ⟨w.heap.size + 1, k, none⟩) (ho.out (w.heap.size + 1) (by omega))]
        exact hC.out k _ hx
      generalize signS[k]'(by rw [sign_len]; omega) = x at hx cx
      have hno := Lib.hid ((find_ent x (signS.take k) 0 0).1 (nodup_take sign_nodup hx))
      have hx := Lib.hid hx
      go_wp2_with (refine wpList_mapUpdate_new _ rfl _ _ _ _ rfl _ _ Tryd.underlying63 Tryd.underlying9 w.heap.size x yes _ _ rfl rfl rfl hm.out hno.out ?_)
      go_roundg g2
      case measure => omega
      case rel =>
        refine ⟨k + 1, by omega, by go_num, ?_, fun i hi => (heap_setBlock_other hm.out _ hi).trans (ho.out i hi), ?_, ?_⟩
        · rw [heap_setBlock_same hm.out, List.take_add_one, hx.out]
          have hk27 : k ≤ signS.length := by rw [sign_len]; omega
          show _ = some (Obj.map (entOf (signS.take k ++ [x])).toArray (k + 1))
          rw [ent_snoc, List.length_take, Nat.min_eq_left hk27]
          first | done | simp
        · simp [setBlock, hz.out]
        · exact ⟨hb.out.os, hb.out.tape, hb.out.output, by simpa [setBlock] using hb.out.size, fun i hi => (heap_setBlock_other hm.out _ (by omega)).trans (hb.out.block i hi)⟩
end Go.Proofs.YtmkfoknhjjgipaaDoor
