/- The reference's guesses: plain laws; rows of code made at once. -/
import Derived.Test.YtmimmnjdgpdjlaaGreatDoorDD
import Derived.Great.BuildSlice
import Derived.Great.FillDense
set_option linter.unusedSimpArgs false
set_option linter.unusedVariables false
namespace Go.Proofs.YtmimmnjdgpdjlaaGreatDoor
open Go.RowKit Go.Lib Go.Shelf

/-! ## the last comma -/
def HitCS (l : List UInt8) (j : Nat) : Prop := l[j]? = some 44 ∧ l[j + 1]? = some 32
theorem HitCS.lt {l : List UInt8} {j : Nat} (h : HitCS l j) : j + 1 < l.length := (List.getElem?_eq_some_iff.1 h.2).1
theorem hit_succ {b : UInt8} {l : List UInt8} {j : Nat} : HitCS (b :: l) (j + 1) ↔ HitCS l j := by simp [HitCS]
theorem hit_zero {b : UInt8} {l : List UInt8} : HitCS (b :: l) 0 ↔ (b = 44 ∧ l.head? = some 32) := by simp [HitCS, List.head?_eq_getElem?]
theorem lastCS_none : ∀ (l : List UInt8), (∀ j, ¬ HitCS l j) → lastCS l = none
  | [], _ => rfl
  | b :: l, h => by
    have ih := lastCS_none l fun j hj => h (j + 1) (hit_succ.2 hj)
    rw [lastCS, ih]
    exact if_neg fun e => h 0 (hit_zero.2 e)
theorem lastCS_some : ∀ (l : List UInt8) (j : Nat), HitCS l j → (∀ i, j < i → ¬ HitCS l i) → lastCS l = some (l.take j, l.drop (j + 2))
  | [], j, h, _ => by cases h.1
  | b :: l, 0, h, hno => by
    have ih := lastCS_none l fun j hj => hno (j + 1) (by omega) (hit_succ.2 hj)
    rw [lastCS, ih]
    show (if b = 44 ∧ l.head? = some 32 then some ([], l.tail) else none) = _
    rw [if_pos (hit_zero.1 h)]
    simp
  | b :: l, j + 1, h, hno => by
    have ih := lastCS_some l j (hit_succ.1 h) fun i hi hh => hno (i + 1) (by omega) (hit_succ.2 hh)
    rw [lastCS, ih]
    rfl
/-- where the search stands -/
def CsAt (l : List UInt8) (k : Nat) (P Q : List UInt8) : Prop :=
  ((∀ j, j < k → ¬ HitCS l j) ∧ P = l ∧ Q = l) ∨ ∃ j, j < k ∧ HitCS l j ∧ (∀ i, j < i → i < k → ¬ HitCS l i) ∧ P = l.take j ∧ Q = l.drop (j + 2)
theorem CsAt.zero (l : List UInt8) : CsAt l 0 l l := .inl ⟨fun j h => absurd h (by omega), rfl, rfl⟩
theorem CsAt.hit {l : List UInt8} {k : Nat} {P Q : List UInt8} (h : HitCS l k) : CsAt l (k + 1) (l.take k) (l.drop (k + 2)) := .inr ⟨k, by omega, h, fun i h1 h2 => by omega, rfl, rfl⟩
theorem CsAt.miss {l : List UInt8} {k : Nat} {P Q : List UInt8} (h : CsAt l k P Q) (hn : ¬ HitCS l k) : CsAt l (k + 1) P Q := by
  rcases h with ⟨h1, h2, h3⟩ | ⟨j, h1, h2, h3, h4, h5⟩
  · refine .inl ⟨fun j hj => ?_, h2, h3⟩
    rcases Nat.lt_or_ge j k with h | h
    · exact h1 j h
    · obtain rfl : j = k := by omega
      exact hn
  · refine .inr ⟨j, by omega, h2, fun i hi hk => ?_, h4, h5⟩
    rcases Nat.lt_or_ge i k with h | h
    · exact h3 i hi h
    · obtain rfl : i = k := by omega
      exact hn
theorem CsAt.done {l : List UInt8} {k : Nat} {P Q : List UInt8} (h : CsAt l k P Q) (hk : l.length ≤ k + 1) : ((lastCS l).getD (l, l)).1 = P ∧ ((lastCS l).getD (l, l)).2 = Q := by
  rcases h with ⟨h1, h2, h3⟩ | ⟨j, h1, h2, h3, h4, h5⟩
  · rw [lastCS_none l fun j hj => h1 j (by have := hj.lt; omega) hj]
    exact ⟨h2.symm, h3.symm⟩
  · rw [lastCS_some l j h2 fun i hi hh => h3 i hi (by have := hh.lt; omega) hh]
    exact ⟨h4.symm, h5.symm⟩
theorem CsAt.len {l : List UInt8} {k : Nat} {P Q : List UInt8} (h : CsAt l k P Q) : P.length ≤ l.length ∧ Q.length ≤ l.length := by
  rcases h with ⟨h1, h2, h3⟩ | ⟨j, h1, h2, h3, h4, h5⟩
  · rw [h2, h3]; exact ⟨Nat.le_refl _, Nat.le_refl _⟩
  · rw [h4, h5, List.length_take, List.length_drop]; omega
theorem tail_drop (s : List UInt8) : s.tail.dropLast = (s.take (s.length - 1)).drop 1 := by
  rw [List.dropLast_eq_take, List.length_tail, ← List.drop_one, List.drop_take]
theorem numG_lt (l : List UInt8) : numG l < 18446744073709551616 := by
  unfold numG
  split
  · exact numP_lt _
  · omega

/-! ## rows of code made at once -/
theorem und42 : Tryz.prog.underlying 42 = some (.slice 32) := by kernel_rfl
theorem ins_flat (L : List In) : (L.map inV).flatMap (fun v => v.cells.toList) = insCells L := by
  rw [List.flatMap_map]
  rfl
theorem ins_size (L : List In) : (insCells L).length = L.length * 13 := by
  induction L with
  | nil => rfl
  | cons i L ih =>
    show (inCells i ++ insCells L).length = _
    rw [List.length_append, ih, inCells_len, List.length_cons]
    omega
theorem ins_app (L M : List In) : insCells (L ++ M) = insCells L ++ insCells M := by simp [insCells]
theorem ins_one {L : List In} : ∀ v ∈ insCells L, v.oneCell' = true := by
  intro v hv
  obtain ⟨i, _, hi⟩ := List.mem_flatMap.1 hv
  simp only [inCells, List.mem_cons, List.not_mem_nil, or_false] at hi
  rcases hi with h | h | h | h | h | h | h | h | h | h | h | h | h <;> subst h <;> rfl
theorem wpList_sliceI {ops : Array Oper} {rest : List Oper} {o : Oper} {a : Act} {w : World} {Q : Exit → Act → World → Prop} (hg : o.guard = none) (n : Nat) (parts : Array (Nat × Operand)) (ho : o.op = .buildSlice 42 n parts)
    (L : List In) (hn : L.length = n) (hpos : 0 < n) (hsm : n ≤ 1000) (hx : (parts.map fun (i, x) => (i, a.eval x)).toList = ((L.map inV).zipIdx 0).map fun x => (x.2, x.1))
    (h : ∀ (b : Nat) (w' : World), w.heap.size = b → Below w.heap.size w w' → w'.heap[b]? = some (.cells (insCells L).toArray 32 (0, 0)) → wpList Tryz.prog ops Q rest (a.put o.dst (.slice (some ⟨b, 0, none⟩) n n)) w') : wpList Tryz.prog ops Q (o :: rest) a w := by
  obtain ⟨i0, hi, hz, hs, hb⟩ := info_parts info32
  refine wpList_buildSlice hg 42 32 n parts ho (insCells L).toArray i0 _ und42 hi hz (by rw [hs]; omega) (by rw [hs]; omega) ?_ (h _ _ rfl ((Below.refl _ w).alloc (Nat.le_refl _) _) (heap_alloc_new w _))
  rw [hs, hx, ← ins_flat]
  refine Go.Great.fill_whole (s := 13) (by omega) (L.map inV) _ (fun v hv => ?_) (by simp [hn])
  obtain ⟨i, _, rfl⟩ := List.mem_map.1 hv
  rfl
theorem own_made {w : World} {base b : Nat} (L : List In) (n : Nat) (hn : L.length = n) (hs : n ≤ 1000) (hb : base ≤ b) (h : w.heap[b]? = some (.cells (insCells L).toArray 32 (0, 0))) : w.ownsRow base 32 13 (.slice (some ⟨b, 0, none⟩) n n) n (insCells L) := by
  subst hn
  refine ⟨ins_size L, .inr ⟨b, L.length, _, rfl, hb, h, Nat.le_refl _, by unfold maxLen; omega, by rw [List.size_toArray, ins_size], ?_⟩⟩
  rw [List.take_of_length_le (by rw [ins_size]; exact Nat.le_refl _)]
theorem ins_cell {w : World} {b : Nat} {L : List In} (h : w.heap[b]? = some (.cells (insCells L).toArray 32 (0, 0))) : ∀ j u, (insCells L)[j]? = some u → w.cell? ((⟨b, 0, none⟩ : Addr).add j) = some u := by
  intro j u hu
  have hadd : (⟨b, 0, none⟩ : Addr).add j = ⟨b, j, none⟩ := by unfold Addr.add; split <;> simp_all
  rw [hadd, blk_cell h]
  simpa using hu
theorem grown_below {w W W' : World} {base : Nat} {v : Value} {n : Nat} {xs : List Value} (h : Below base w W) (ho : W.ownsRow base 32 13 v n xs) (hg : W.grownBy W' v.ownBlock) (hb : base ≤ w.heap.size) : Below base w W' := by
  refine ⟨hg.os.trans h.os, hg.tape.trans h.tape, hg.output.trans h.output, Nat.le_trans h.size hg.size, fun k hk => (hg.block k (Nat.lt_of_lt_of_le (by omega) h.size) fun e => ?_).trans (h.block k hk)⟩
  have := (own_at ho e.symm).1
  omega
/-- a row that is the call's own grows by rows made at once -/
theorem wpList_append_ins {ops : Array Oper} {rest : List Oper} {o : Oper} {a : Act} {w : World} {Q : Exit → Act → World → Prop} (hgd : o.guard = none) (s x : Operand) (ho : o.op = .call { callee := .builtin .append, args := #[s, x], argTypes := #[42, 42] })
    (base : Nat) (v : Value) (n : Nat) (L : List In) (hs : a.eval s = v) (hown : w.ownsRow base 32 13 v n (insCells L)) (b m : Nat) (M : List In) (hx : a.eval x = .slice (some ⟨b, 0, none⟩) m m) (hm : M.length = m) (hat : w.heap[b]? = some (.cells (insCells M).toArray 32 (0, 0)))
    (hle : n ≤ 1000) (hle2 : m ≤ 1000) (hbase : base ≤ w.heap.size)
    (h : ∀ v' w', w'.ownsRow base 32 13 v' (n + m) (insCells (L ++ M)) → w.grownBy w' v.ownBlock → wpList Tryz.prog ops Q rest (a.put o.dst v') w') : wpList Tryz.prog ops Q (o :: rest) a w := by
  obtain ⟨i0, hi, hz, hsz, hb⟩ := info_parts info32
  refine wpList_append_own w hgd s x 42 ho base 32 i0 _ 13 96 und42 hi hz hsz hb rfl (by decide) v n (insCells L) hs hown ⟨b, 0, none⟩ m m (insCells M) hx (by rw [ins_size, hm]) (ins_cell hat) (fun u hu => ins_one u hu) (by unfold maxLen; omega) (by omega) hbase ?_
  intro v' w' h1 h2 _
  exact h v' w' (by rw [ins_app]; exact h1) h2
end Go.Proofs.YtmimmnjdgpdjlaaGreatDoor
