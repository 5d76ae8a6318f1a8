/- Which operation a sign has: Op (a range over a map). -/
import Derived.Test.YtnahgfdoiflacaaGreatDoorP
import Derived.Maps.RangeWalk
set_option linter.unusedSimpArgs false
set_option linter.unusedVariables false
namespace Go.Proofs.YtnahgfdoiflacaaGreatDoor
open Go.RowKit Go.Lib Go.Shelf Go.MapKept
open Go.ChangeMaps (setBlock heap_setBlock_same heap_setBlock_other)

set_option maxRecDepth 100000 in
set_option maxHeartbeats 2000000 in
theorem signs15_any (w : World) (hE : Env w) : Calls Tryz.prog 84 #[] w fun e w' => ∃ b, e = .returned (.map (some b)) ∧ w.heap.size ≤ b ∧ w'.heap[b]? = some (.map (entOf signS).toArray 15) ∧ Below w.heap.size w w' := by
  have hmm := @run_makeMap Tryz.prog
  have hf := Tryz.strings_Fields sgT (w.alloc (.map #[] 0)) (by decide +kernel) ascii_sg (Lib.tabIs_alloc hE.sp _)
  rw [fields_sg] at hf
  have hf := Lib.hid hf
  clear hE
  go_enter Tryz.func84, Tryz.ntmps84
  go_wp2_with fail
  refine hf.out.mono ?_
  rintro e w1 ⟨rfl, hw1⟩
  have hB : Below w.heap.size w w1 := by rw [hw1]; exact ((Below.refl _ w).alloc (Nat.le_refl _) _).alloc (by simp) _
  have hM : w1.heap[w.heap.size]? = some (.map (entOf (signS.take 0)).toArray 0) := by
    rw [hw1, heap_alloc_old _ _ (by simp)]
    exact heap_alloc_new w _
  have hq : w.heap.size + 1 = (w.alloc (.map #[] 0)).heap.size := by simp
  have hC : ∀ j x, signS[j]? = some x → w1.cell? ⟨w.heap.size + 1, j, none⟩ = some (.string x) := fun j x hx => by
    rw [hw1, hq, blk_cell (heap_alloc_new (w.alloc (.map #[] 0)) _)]
    have e2 : (signTab.map fun l => Value.string ⟨l.toArray⟩) = signS.map Value.string := by unfold signS; rw [List.map_map]; rfl
    rw [e2, List.getElem?_toArray, List.getElem?_map, hx]
    rfl
  have hl27 : signTab.length = 15 := rfl
  rw [hl27, ← hq]
  have hBs := Lib.hid hB
  have hM := Lib.hid hM
  have hC := Lib.hid hC
  have hsz : w.heap.size + 1 < w1.heap.size := by rw [hw1]; simp
  clear hB hw1 hf hmm hl27 hq
  go_wp2_with fail
  go_loopg [7] 15 (fun g s7 wr => ∃ k : Nat, k + g = 15 ∧ s7 = .int .i64 k ∧ wr.heap[w.heap.size]? = some (.map (entOf (signS.take k)).toArray k) ∧ (∀ i, i ≠ w.heap.size → wr.heap[i]? = w1.heap[i]?) ∧ wr.heap.size = w1.heap.size ∧ Below w.heap.size w wr)
  case atStart => exact ⟨0, by omega, rfl, hM.out, fun _ _ => rfl, rfl, hBs.out⟩
  case round =>
    obtain ⟨k, hkg, rfl, hm, ho, hz, hb⟩ := hrel
    have hm := Lib.hid hm
    have ho := Lib.hid ho
    have hb := Lib.hid hb
    have hz := Lib.hid hz
    cases gk with
    | zero =>
      have e0 : ¬ ((k : Int) < 15) := by omega
      have hk : k = 15 := by omega
      have hfin := Lib.hid (show wr.heap[w.heap.size]? = some (.map (entOf signS).toArray 15) by
        have := hm.out
        rw [List.take_of_length_le (by rw [sign_len]; omega), hk] at this
        exact this)
      go_wp2
      go_ret
      exact ⟨_, rfl, Nat.le_refl _, hfin.out, hb.out⟩
    | succ g2 =>
      have e0 : (k : Int) < 15 := by omega
      have hx : signS[k]? = some (signS[k]'(by rw [sign_len]; omega)) := List.getElem?_eq_getElem _
      have cx : wr.cell? ⟨w.heap.size + 1, k, none⟩ = some (.string (signS[k]'(by rw [sign_len]; omega))) := by
        rw [World.cell?_of_block (a := ⟨w.heap.size + 1, k, none⟩) (ho.out (w.heap.size + 1) (by omega))]
        exact hC.out k _ hx
      generalize signS[k]'(by rw [sign_len]; omega) = x at hx cx
      have hno := Lib.hid ((find_ent (6 + (k : Int)) (signS.take k) 0 0).1 fun j hj => by rw [List.length_take] at hj; omega)
      have hx := Lib.hid hx
      go_wp2_with (refine wpList_mapUpdateI _ rfl _ _ _ _ rfl _ _ und122 und22 w.heap.size (6 + (k : Int)) (.agg #[.string x]) _ _ rfl rfl rfl hm.out hno.out ?_)
      go_roundg g2
      case measure => omega
      case rel =>
        refine ⟨k + 1, by omega, by go_num, ?_, fun i hi => (heap_setBlock_other hm.out _ hi).trans (ho.out i hi), ?_, ?_⟩
        · rw [heap_setBlock_same hm.out, List.take_add_one, hx.out]
          have hk27 : k ≤ signS.length := by rw [sign_len]; omega
          show _ = some (Obj.map (entOf (signS.take k ++ [x])).toArray (k + 1))
          rw [ent_snoc, List.length_take, Nat.min_eq_left hk27]
          first | done | simp
        · simp [setBlock, hz.out]
        · exact ⟨hb.out.os, hb.out.tape, hb.out.output, by simpa [setBlock] using hb.out.size, fun i hi => (heap_setBlock_other hm.out _ (by omega)).trans (hb.out.block i hi)⟩


theorem wpList_range_raw {P : Program} {ops : Array Oper} {rest : List Oper} {o : Oper} {a : Act} {Q : Exit → Act → World → Prop} (w : World) (hg : o.guard = none) (m : Operand) (t : TypeId) (hop : o.op = Op.range t m) (k e : TypeId) (ht : P.underlying t = some (.map k e)) (b : Nat) (es : Array MapEntry) (clock : Nat)
    (hm : a.eval m = .map (some b)) (hb : w.heap[b]? = some (.map es clock))
    (hK : wpList P ops Q rest (a.put o.dst (.pointer (some ⟨w.heap.size, 0, none⟩))) (w.alloc (.mapIter (some b) clock #[] clock))) :
    wpList P ops Q (o :: rest) a w := by
  refine wpList_plain hg fun K' hK' => ?_
  have hrun := run_range_map (P := P) w t k e b es clock ht hb
  unfold Oper.wp
  simp [execOp, hop, hm, hrun, Result.andThen]
  exact hK' _ _ hK
theorem wpList_next_raw {P : Program} {ops : Array Oper} {rest : List Oper} {o : Oper} {a : Act} {Q : Exit → Act → World → Prop} (w : World) (hg : o.guard = none) (it : Operand) (hop : o.op = Op.next it false) (r b since c0 : Nat) (seen : Array Nat) (es : Array MapEntry) (clock : Nat)
    (hit : a.eval it = .pointer (some ⟨r, 0, none⟩)) (hr : w.heap[r]? = some (.mapIter (some b) since seen c0)) (hb : w.heap[b]? = some (.map es clock)) (hold : ∀ x ∈ es.toList, x.born < since) (hsc : since ≤ c0) (hn : (es.toList.map (·.born)).Nodup) (hrb : r ≠ b)
    (hDone : (leftOf es seen).size = 0 → wpList P ops Q rest (a.put o.dst (.tuple #[.bool false])) w)
    (hMore : ∀ (e : MapEntry) (w' : World), e ∈ (leftOf es seen).toList → w'.heap[r]? = some (.mapIter (some b) since (seen.push e.born) clock) → (∀ i, i ≠ r → w'.heap[i]? = w.heap[i]?) → Below r w w' → w'.heap.size = w.heap.size →
      (Instr.entry (.pointer (some ⟨r, 0, none⟩))).run P w' = .ok (.tuple #[e.key, e.val]) w' → wpList P ops Q rest (a.put o.dst (.tuple #[.bool true, e.key, e.val])) w') :
    wpList P ops Q (o :: rest) a w := by
  refine wpList_plain hg fun K' hK' => ?_
  unfold Oper.wp
  rcases run_next_at (P := P) w o.type r b since c0 seen es clock hr hb hold hsc with ⟨h0, hrun⟩ | ⟨e, he, w1, hal, hrun⟩
  · simp [execOp, hop, hit, hrun, Result.andThen]
    exact hK' _ _ (hDone h0)
  · simp [execOp, hop, hit, hrun, Result.andThen]
    have hr1 : w1.heap[r]? = some (.mapIter (some b) since seen c0) := by rcases hal with rfl | rfl <;> exact hr
    have hb1 : w1.heap[b]? = some (.map es clock) := by rcases hal with rfl | rfl <;> exact hb
    have hset := Go.MapKept.heap_set (o' := .mapIter (some b) since (seen.push e.born) clock) hr1
    have hb' : (setBlock w1 r (.mapIter (some b) since (seen.push e.born) clock)).heap[b]? = some (.map es clock) := (hset.2 b (fun e1 => hrb e1.symm)).trans hb1
    have hoth : ∀ i, i ≠ r → (setBlock w1 r (.mapIter (some b) since (seen.push e.born) clock)).heap[i]? = w.heap[i]? := fun i hi => (hset.2 i hi).trans (by rcases hal with rfl | rfl <;> rfl)
    refine hK' _ _ (hMore e _ he hset.1 hoth ?_ ?_ (run_entry_at _ r b since seen es clock e hset.1 hb' (mem_left he).1 hn))
    · rcases hal with rfl | rfl <;> exact ⟨rfl, rfl, rfl, by simp [setBlock], fun i hi => hset.2 i (by omega)⟩
    · rcases hal with rfl | rfl <;> simp [setBlock]

theorem ent_mem {e : MapEntry} (h : e ∈ entOf signS) : ∃ (i : Nat) (x : ByteArray), signS[i]? = some x ∧ e = ⟨.int .i64 (6 + (i : Int)), .agg #[.string x], i⟩ := by
  unfold entOf at h
  obtain ⟨⟨x, i⟩, hm, rfl⟩ := List.mem_map.1 h
  have := List.mem_zipIdx_iff_getElem?.1 hm
  exact ⟨i, x, this, rfl⟩
theorem ent_at {i : Nat} {x : ByteArray} (h : signS[i]? = some x) : (⟨.int .i64 (6 + (i : Int)), .agg #[.string x], i⟩ : MapEntry) ∈ entOf signS := by
  unfold entOf
  exact List.mem_map.2 ⟨(x, i), List.mem_zipIdx_iff_getElem?.2 h, rfl⟩
theorem ent_born : ∀ x ∈ (entOf signS).toArray.toList, x.born < 15 := by
  intro x hx
  obtain ⟨i, y, h, rfl⟩ := ent_mem (by simpa using hx)
  have := (List.getElem?_eq_some_iff.1 h).1
  rw [sign_len] at this
  exact this
theorem ent_nodup : ((entOf signS).toArray.toList.map (·.born)).Nodup := by
  have e : ((entOf signS).toArray.toList.map (·.born)) = List.range 15 := by rfl
  rw [e]
  exact List.nodup_range
theorem sign_nodup : signS.Nodup := by decide +kernel
/-- which operation a sign has -/
def OpIs (s : ByteArray) (v : Int) (b : Bool) : Prop := (b = true ∧ ∃ i : Nat, signS[i]? = some s ∧ v = 6 + (i : Int)) ∨ (b = false ∧ v = 0 ∧ s ∉ signS)
def OpPost (s : ByteArray) (w : World) (e : Ending) (w' : World) : Prop := ∃ v b, OpIs s v b ∧ e = .returned (.tuple #[.int .i64 v, .bool b]) ∧ Below w.heap.size w w'
theorem str_beq {x s : ByteArray} : (x.toList == s.toList) = decide (x = s) := by
  rw [ByteArray.toList_eq, ByteArray.toList_eq]
  by_cases h : x = s
  · rw [decide_eq_true h, h]; simp
  · rw [decide_eq_false h]
    have : x.data.toList ≠ s.data.toList := fun e => h (by cases x; cases s; congr 1; exact Array.toList_inj.1 e)
    simpa using this

set_option maxRecDepth 100000 in
set_option maxHeartbeats 4000000 in
theorem op33_any (s : ByteArray) (w : World) (hE : Env w) : Calls Tryz.prog 33 #[.string s] w (OpPost s w) := by
  have hs := Lib.hid (signs15_any w hE)
  clear hE
  go_enter Tryz.func33, Tryz.ntmps33
  go_wp2_with fail
  refine hs.out.mono ?_
  rintro e w1 ⟨b, rfl, hle, hsg, hb1⟩
  have hbl := blk_lt hsg
  have hsg := Lib.hid hsg
  have hb1 := Lib.hid hb1
  clear hs
  go_wp2_with (first
    | (at_range; refine wpList_range_raw _ rfl _ _ rfl 22 120 und122 b _ _ rfl hsg.out ?_)
    | fail)
  go_frame
  have hr0 : (w1.alloc (.mapIter (some b) 15 #[] 15)).heap[w1.heap.size]? = some (.mapIter (some b) 15 #[] 15) := heap_alloc_new w1 _
  have hb0 : (w1.alloc (.mapIter (some b) 15 #[] 15)).heap[b]? = some (.map (entOf signS).toArray 15) := (heap_alloc_old _ _ hbl).trans hsg.out
  go_loopw [4] (fun _ wr => ∃ (seen : Array Nat) (c0 : Nat), 15 ≤ c0 ∧ wr.heap[w1.heap.size]? = some (.mapIter (some b) 15 seen c0) ∧ wr.heap[b]? = some (.map (entOf signS).toArray 15) ∧ (∀ i x, signS[i]? = some x → seen.contains i = true → x ≠ s) ∧ Below w.heap.size w wr)
    (fun _ wr => wr.rangeLeft b w1.heap.size)
  case atStart => exact ⟨#[], 15, Nat.le_refl _, hr0, hb0, fun i x _ h => by simp at h, hb1.out.alloc hb1.out.size _⟩
  case round =>
    obtain ⟨seen, c0, hc0, hr, hb, hno, hbw⟩ := hrel
    have hrl : wr.rangeLeft b w1.heap.size = (leftOf (entOf signS).toArray seen).size := by unfold World.rangeLeft; rw [hb, hr]
    have hrl := Lib.hid hrl
    have hr' := Lib.hid hr
    have hb' := Lib.hid hb
    have hno := Lib.hid hno
    have hbw := Lib.hid hbw
    clear hr hb hr0 hb0
    go_wp2_with (first
      | (at_next; refine wpList_next_raw _ rfl _ rfl w1.heap.size b 15 c0 seen _ _ rfl hr'.out hb'.out ent_born hc0 ent_nodup (by omega) ?_ ?_)
      | fail)
    · intro h0
      have hall := all_seen _ _ (show (leftOf (entOf signS).toArray seen).size = 0 by rw [h0]; rfl)
      have hfin := Lib.hid (show OpIs s 0 false from .inr ⟨rfl, rfl, fun hm => by
        obtain ⟨i, hi⟩ := List.getElem?_of_mem hm
        exact hno.out i s hi (hall _ (by simpa using ent_at hi)) rfl⟩)
      clear hall h0
      go_wp2
      go_ret2
      exact ⟨0, false, hfin.out, rfl, hbw.out⟩
    · intro e w2 he hr2 hoth hb2 hsz hen
      have he := Array.mem_toList_iff.2 he
      obtain ⟨i, x, hx, rfl⟩ := ent_mem (e := e) (by simpa using (mem_left he).1)
      have hshr := Lib.hid (left_shrinks _ _ _ he)
      have hb2 := Lib.hid (hbw.out.trans (hb2.mono (Nat.le_trans hb1.out.size (Nat.le_refl _))))
      have hr2 := Lib.hid hr2
      have hbb := Lib.hid ((hoth b (by omega)).trans hb'.out)
      have hx := Lib.hid hx
      dsimp only at hen hr2 hshr ⊢
      have hsb := @str_beq x s
      clear he hoth
      by_cases hxs : x = s
      · rw [decide_eq_true hxs] at hsb
        subst hxs
        go_wp2
        go_ret2
        exact ⟨6 + (i : Int), true, .inl ⟨rfl, i, hx.out, rfl⟩, rfl, hb2.out.alloc hb2.out.size _⟩
      · rw [decide_eq_false hxs] at hsb
        have hxs := Lib.hid hxs
        go_wp2
        go_roundw
        case rel =>
          refine ⟨seen.push i, 15, Nat.le_refl _, (heap_alloc_old _ _ (blk_lt hr2.out)).trans hr2.out, (heap_alloc_old _ _ (blk_lt hbb.out)).trans hbb.out, fun j y hj hjs => ?_, hb2.out.alloc hb2.out.size _⟩
          rw [contains_push, Bool.or_eq_true] at hjs
          rcases hjs with h | h
          · exact hno.out j y hj h
          · obtain rfl : j = i := by simpa using h
            rw [hx.out] at hj
            cases hj
            exact hxs.out
        case measure =>
          rw [hrl.out]
          have e : (w2.alloc (.cells #[.string x] 120)).rangeLeft b w1.heap.size = (leftOf (entOf signS).toArray (seen.push i)).size := by
            unfold World.rangeLeft
            rw [(heap_alloc_old _ _ (blk_lt hbb.out)).trans hbb.out, (heap_alloc_old _ _ (blk_lt hr2.out)).trans hr2.out]
          rw [e]
          exact hshr.out
end Go.Proofs.YtnahgfdoiflacaaGreatDoor

