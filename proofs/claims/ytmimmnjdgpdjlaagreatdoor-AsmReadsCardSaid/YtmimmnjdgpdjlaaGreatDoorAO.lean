/- Bytes that are owned (turned from the chapter of scripts). -/
import Derived.Test.YtmimmnjdgpdjlaaGreatDoorAE
import Derived.Lib.ConvBytes
import Derived.Lib.AppendStr
import Derived.ArgAppend
set_option linter.unusedSimpArgs false
set_option linter.unusedVariables false
namespace Go.Proofs.YtmimmnjdgpdjlaaGreatDoor
open Go.RowKit Go.Lib Go.Shelf

def bC (l : List UInt8) : List Value := l.map fun b => Value.int .u8 b.toNat
/-- bytes that are owned -/
def OwnC (w : World) (b0 : Nat) (v : Value) (n : Nat) (xs : List UInt8) : Prop :=
  xs.length = n ∧ ((v = .slice none 0 0 ∧ n = 0) ∨ ∃ g cap, v = .slice (some ⟨g, 0, none⟩) n cap ∧ b0 ≤ g ∧ g < w.heap.size ∧ n ≤ cap ∧ cap ≤ maxLen ∧
    (∀ j, j < cap → (w.cell? ⟨g, j, none⟩).isSome = true ∧ w.frozen? ⟨g, j, none⟩ = false) ∧ ∀ j b, xs[j]? = some b → w.cell? ⟨g, j, none⟩ = some (.int .u8 (b.toNat : Int)))
theorem OwnC.kept {w w' : World} {b0 n : Nat} {v : Value} {xs : List UInt8} (h : OwnC w b0 v n xs) (hb : Below w.heap.size w w') : OwnC w' b0 v n xs := by
  refine ⟨h.1, ?_⟩
  rcases h.2 with h0 | ⟨g, cap, hv, hg, hgw, h1, h2, h3, h4⟩
  · exact .inl h0
  · refine .inr ⟨g, cap, hv, hg, by have := hb.size; omega, h1, h2, fun j hj => ?_, fun j b hj => ?_⟩
    · rw [hb.cell (p := ⟨g, j, none⟩) hgw, hb.frozen (p := ⟨g, j, none⟩) hgw]; exact h3 j hj
    · rw [hb.cell (p := ⟨g, j, none⟩) hgw]; exact h4 j b hj
theorem OwnC.lt {w : World} {b0 n : Nat} {v : Value} {xs : List UInt8} (h : OwnC w b0 v n xs) : ∀ k, v.ownBlock = some k → b0 ≤ k ∧ k < w.heap.size := by
  intro k hk
  rcases h.2 with ⟨rfl, _⟩ | ⟨g, cap, rfl, hg, hgw, _⟩
  · simp [Value.ownBlock] at hk
  · simp [Value.ownBlock] at hk; omega
theorem ownC_of_row {w : World} {b0 n : Nat} {v : Value} {xs : List UInt8} (h : w.ownsRow b0 5 1 v n (bC xs)) : OwnC w b0 v n xs := by
  have hl : xs.length = n := by have := h.1; simpa [bC] using this
  refine ⟨hl, ?_⟩
  rcases h.2 with h0 | ⟨g, cap, cur, hv, hg, hh, h1, h2, h3, h4⟩
  · exact .inl h0
  · refine .inr ⟨g, cap, hv, hg, blk_lt hh, h1, h2, fun j hj => ?_, fun j b hj => ?_⟩
    · rw [blk_cell hh, Array.getElem?_eq_getElem (by omega)]
      exact ⟨rfl, by simp [World.frozen?, hh]⟩
    · have hjn : j < n := by rw [← hl]; exact (List.getElem?_eq_some_iff.1 hj).1
      have h5 : (cur.toList.take (n * 1))[j]? = some (.int .u8 (b.toNat : Int)) := by rw [h4, bC, List.getElem?_map, hj]; rfl
      rw [Nat.mul_one, List.getElem?_take, if_pos hjn] at h5
      rw [blk_cell hh]
      simpa using h5
theorem setCells_grown (b : Nat) : ∀ (vs : List Value) (o : Nat) (w : World), w.grownBy (w.setCells b o vs) (some b)
  | [], _, w => ⟨rfl, rfl, rfl, Nat.le_refl _, fun _ _ _ => rfl⟩
  | v :: vs, o, w => by
    have h := setCells_grown b vs (o + 1) (w.setCell ⟨b, o, none⟩ v)
    have hs : (w.setCell ⟨b, o, none⟩ v).heap.size = w.heap.size := by simp [World.setCell]
    refine ⟨h.os, h.tape, h.output, by rw [← hs]; exact h.size, fun k hk hne => ?_⟩
    have e := h.block k (by rw [hs]; exact hk) hne
    refine e.trans ?_
    have : b ≠ k := fun e => hne (by rw [e])
    simp [World.setCell, Array.getElem?_modify, this]
/-- cells laid behind what is owned, where there is room -/
theorem ownC_room {w : World} {b0 n g cap : Nat} {xs ys : List UInt8} (h : OwnC w b0 (.slice (some ⟨g, 0, none⟩) n cap) n xs) (hr : n + ys.length ≤ cap) :
    OwnC (w.setCells g n (bC ys)) b0 (.slice (some ⟨g, 0, none⟩) (n + ys.length) cap) (n + ys.length) (xs ++ ys) := by
  have hgr := setCells_grown g (bC ys) n w
  have hyl : (bC ys).length = ys.length := by simp [bC]
  refine ⟨by rw [List.length_append, h.1], ?_⟩
  rcases h.2 with ⟨e, _⟩ | ⟨g', cap', hv, hg, hgw, h1, h2, h3, h4⟩
  · cases e
  · injection hv with e1 _ e3
    injection e1 with e1
    injection e1 with e1
    subst e1 e3
    have hin := World.cell?_setCells_in g (bC ys) n w (fun j hj => (h3 (n + j) (by omega)).1)
    refine .inr ⟨g, cap, rfl, hg, Nat.lt_of_lt_of_le hgw hgr.size, hr, h2, fun j hj => ?_, fun j b hj => ?_⟩
    · rw [World.frozen?_setCells]
      refine ⟨?_, (h3 j hj).2⟩
      by_cases h5 : j < n ∨ n + ys.length ≤ j
      · rw [World.cell?_setCells_out g (bC ys) n w ⟨g, j, none⟩ (fun _ _ => by rw [hyl]; exact h5)]
        exact (h3 j hj).1
      · have h6 := hin (j - n) (by omega)
        have e : n + (j - n) = j := by omega
        rw [e] at h6
        rw [h6]; rfl
    · by_cases h5 : j < n
      · rw [World.cell?_setCells_out g (bC ys) n w ⟨g, j, none⟩ (fun _ _ => .inl h5)]
        rw [List.getElem?_append_left (by rw [h.1]; exact h5)] at hj
        exact h4 j b hj
      · rw [List.getElem?_append_right (by rw [h.1]; omega), h.1] at hj
        have h6 : j - n < ys.length := (List.getElem?_eq_some_iff.1 hj).1
        have h7 := hin (j - n) (by omega)
        have e : n + (j - n) = j := by omega
        rw [e] at h7
        rw [h7]
        have h8 : (bC ys)[j - n]? = some (.int .u8 (b.toNat : Int)) := by rw [bC, List.getElem?_map, hj]; rfl
        rw [List.getElem?_eq_getElem (by omega)] at h8
        exact h8
theorem info5 : (Tryz.prog.info? 5).map (fun i => (i.zero, i.size, i.bytes)) = some (some (.int .u8 0), 1, 1) := by kernel_rfl
theorem u5' : Tryz.prog.underlying 5 = some (.int .u8) := by kernel_rfl
theorem zero_cells1 (w : World) (old need : Nat) (hn : old < need) (olds news : List UInt8) (hl : olds.length + news.length = need) (h63 : need ≤ maxLen) (b0 : Nat) (hb0 : b0 ≤ w.heap.size) :
    OwnC (w.drew.alloc (.cells ((bC olds).toArray ++ (bC news).toArray ++ Builtin.zeroCells (Value.int .u8 0).cells (grownCap w need old 5 - need)) 5)) b0 (.slice (some ⟨w.heap.size, 0, none⟩) need (grownCap w need old 5)) need (olds ++ news) := by
  have hge := grownCap_ge w need old 5
  have hle := grownCap_le_maxLen w need old 5 h63
  refine ownC_of_row ⟨by simp [bC]; omega, .inr ⟨w.heap.size, _, _, rfl, hb0, heap_alloc_new w.drew _, hge, hle, ?_, ?_⟩⟩
  · simp [bC, Builtin.zeroCells, Value.cells]; omega
  · have : need * 1 = ((bC olds) ++ (bC news)).length := by simp [bC]; omega
    simp only [Array.toList_append, List.toList_toArray]
    rw [this, List.take_left]
    simp [bC]
theorem bC_cells {w : World} {g : Nat} {xs : List UInt8} (h : ∀ j b, xs[j]? = some b → w.cell? ⟨g, j, none⟩ = some (.int .u8 (b.toNat : Int))) :
    ∀ j u, (bC xs)[j]? = some u → w.cell? ((⟨g, 0, none⟩ : Addr).add j) = some u := by
  intro j u hu
  rw [bC, List.getElem?_map] at hu
  cases hx : xs[j]? with
  | none => rw [hx] at hu; cases hu
  | some b =>
    rw [hx] at hu
    cases hu
    rw [Lib.add_plain, Nat.zero_add]
    exact h j b hx
theorem bC_one (xs : List UInt8) : ∀ v ∈ bC xs, v.oneCell' = true := by
  intro v hv
  obtain ⟨b, _, rfl⟩ := List.mem_map.1 hv
  simp [Value.oneCell']
theorem run_append_C_string (w : World) (b0 n : Nat) (v : Value) (xs : List UInt8) (ty : TypeId) (h : OwnC w b0 v n xs) (s : ByteArray) (hsz : n + s.size ≤ 1000000000) (hb0 : b0 ≤ w.heap.size) :
    ∃ v' w', (Builtin.append_ #[62, 9] ty #[v, .string s]).run Tryz.prog w = .ok v' w' ∧ OwnC w' b0 v' (n + s.size) (xs ++ s.data.toList) ∧ w.grownBy w' v.ownBlock := by
  obtain ⟨i0, hi, hz0, hz1, hz2⟩ := info_parts info5
  rcases h.2 with ⟨rfl, rfl⟩ | ⟨g, cap, rfl, hg, hgw, h1, h2, h3, h4⟩
  · have hx : xs = [] := List.length_eq_zero_iff.1 h.1
    subst hx
    obtain ⟨v', w', hr, ho, hgr, _⟩ := run_append_own_string (P := Tryz.prog) w b0 62 9 ty 5 i0 u73 u9 hi hz0 hz1 hz2 (.slice none 0 0) 0 [] ⟨rfl, .inl ⟨rfl, rfl⟩⟩ s (by unfold maxLen; omega) (by omega) hb0
    exact ⟨v', w', hr, ownC_of_row ho, hgr⟩
  · by_cases hr : n + s.size ≤ cap
    · have hl : s.data.toList.length = s.size := size_list s
      have hf := run_firstCells_string (P := Tryz.prog) w 1 s
      have hst := run_storeCells_cells (P := Tryz.prog) g n (strCells s) 0 w (fun j hj => (h3 (n + 0 + j) (by rw [strCells_length] at hj; omega)).1) (fun j hj => (h3 (n + 0 + j) (by rw [strCells_length] at hj; omega)).2) (strCells_oneCell s)
      simp only [Nat.add_zero] at hst
      refine ⟨.slice (some ⟨g, 0, none⟩) (n + s.size) cap, w.setCells g n (strCells s), ?_, ?_, ?_⟩
      · simp [Builtin.append_, run_underlying u73, run_underlying u9, sizeOf, typeInfo, hi, hz1, Builtin.lenOf, hr, hf, Addr.add_lit, hst]
      · have := ownC_room h (ys := s.data.toList) (by rw [hl]; exact hr)
        rw [hl] at this
        exact this
      · exact setCells_grown g _ n w
    · have hrun := run_append_grow_string (P := Tryz.prog) w 62 9 ty 5 i0 (.int .u8 0) u73 u9 hi hz0 ⟨g, 0, none⟩ n cap (bC xs) (by rw [hz1, bC, List.length_map, h.1, Nat.mul_one]) (bC_cells h4) s (by omega) (by omega) (by rw [hz2]; exact growslice_fits (by omega) (by omega))
      refine ⟨_, _, hrun, ?_, ⟨rfl, rfl, rfl, by simp, fun k hk _ => heap_alloc_old w.drew _ hk⟩⟩
      exact zero_cells1 w cap (n + s.size) (by omega) xs s.data.toList (by rw [h.1, size_list]) (by unfold maxLen; omega) b0 hb0
theorem run_append_C_byte (w : World) (b0 n : Nat) (v : Value) (xs : List UInt8) (ty : TypeId) (h : OwnC w b0 v n xs) (g1 : Nat) (b : UInt8) (hc : w.cell? ⟨g1, 0, none⟩ = some (.int .u8 (b.toNat : Int))) (hsz : n + 1 ≤ 1000000000) (hb0 : b0 ≤ w.heap.size) :
    ∃ v' w', (Builtin.append_ #[62, 62] ty #[v, .slice (some ⟨g1, 0, none⟩) 1 1]).run Tryz.prog w = .ok v' w' ∧ OwnC w' b0 v' (n + 1) (xs ++ [b]) ∧ w.grownBy w' v.ownBlock := by
  obtain ⟨i0, hi, hz0, hz1, hz2⟩ := info_parts info5
  have hnews : ∀ j u, (bC [b])[j]? = some u → w.cell? ((⟨g1, 0, none⟩ : Addr).add j) = some u := bC_cells (fun j c hj => by
    cases j with
    | zero => cases hj; exact hc
    | succ j => cases hj)
  rcases h.2 with ⟨rfl, rfl⟩ | ⟨g, cap, rfl, hg, hgw, h1, h2, h3, h4⟩
  · have hx : xs = [] := List.length_eq_zero_iff.1 h.1
    subst hx
    obtain ⟨v', w', hr, ho, hgr, _⟩ := run_append_own_at (P := Tryz.prog) w b0 62 ty 5 i0 (.int .u8 0) 1 1 u73 hi hz0 hz1 hz2 rfl (by decide) (.slice none 0 0) 0 [] ⟨rfl, .inl ⟨rfl, rfl⟩⟩ ⟨g1, 0, none⟩ 1 1 (bC [b]) rfl hnews (bC_one _) (by unfold maxLen; omega) (by omega) hb0
    exact ⟨v', w', hr, ownC_of_row ho, hgr⟩
  · by_cases hr : n + 1 ≤ cap
    · have hrun := run_append_room_cells (P := Tryz.prog) w 62 ty 5 i0 u73 hi g 0 n cap ⟨g1, 0, none⟩ 1 1 (bC [b]) (by rw [hz1]; rfl) hnews (bC_one _) hr
        (fun j hj => by rw [hz1]; have : (bC [b]).length = 1 := rfl; exact (h3 _ (by omega)).1) (fun j hj => by rw [hz1]; have : (bC [b]).length = 1 := rfl; exact (h3 _ (by omega)).2)
      have e : 0 + n * i0.size = n := by rw [hz1]; omega
      rw [e] at hrun
      exact ⟨_, _, hrun, ownC_room h (ys := [b]) hr, setCells_grown g _ n w⟩
    · have hrun := run_append_grow (P := Tryz.prog) w 62 ty 5 i0 (.int .u8 0) u73 hi hz0 ⟨g, 0, none⟩ n cap (bC xs) (by rw [hz1, bC, List.length_map, h.1, Nat.mul_one]) (bC_cells h4) ⟨g1, 0, none⟩ 1 1 (bC [b]) (by rw [hz1]; rfl) hnews (by omega) (by omega) (by rw [hz2]; exact growslice_fits (by omega) (by omega))
      refine ⟨_, _, hrun, ?_, ⟨rfl, rfl, rfl, by simp, fun k hk _ => heap_alloc_old w.drew _ hk⟩⟩
      exact zero_cells1 w cap (n + 1) (by omega) xs [b] (by rw [h.1]; rfl) (by unfold maxLen; omega) b0 hb0

/-- at a step of a region that draws -/
theorem step_append_C_string {ops : Array Oper} {o : Oper} {a : Act} {w : World} {K : Act → World → Prop} {Q : Exit → Act → World → Prop} {E : Prop} (hgd : o.guard = none) (s x : Operand)
    (ho : o.op = .call { callee := .builtin .append, args := #[s, x], argTypes := #[62, 9] })
    (b0 n : Nat) (v : Value) (xs : List UInt8) (hs : a.eval s = v) (hown : OwnC w b0 v n xs) (t : ByteArray) (hx : a.eval x = .string t) (hsz : n + t.size ≤ 1000000000) (hb0 : b0 ≤ w.heap.size)
    (h : ∀ v' w', OwnC w' b0 v' (n + t.size) (xs ++ t.data.toList) → w.grownBy w' v.ownBlock → K (a.put o.dst v') w') :
    if Region.wanted o (yielded ops a.tmps) = true then Oper.wp Tryz.prog o a w K Q else E := by
  have hw : Region.wanted o (yielded ops a.tmps) = true := by simp [Region.wanted, hgd]
  rw [if_pos hw]
  obtain ⟨v', w', hr, h2, h3⟩ := run_append_C_string w b0 n v xs o.type hown t hsz hb0
  unfold Oper.wp execOp
  simp only [ho, resolve, invoke, builtin, Sem.run_bind, Sem.run_pure, Result.andThen_ok, List.map_toArray, List.map_cons, List.map_nil, hs, hx, hr]
  exact h v' w' h2 h3
theorem step_append_C_byte {ops : Array Oper} {o : Oper} {a : Act} {w : World} {K : Act → World → Prop} {Q : Exit → Act → World → Prop} {E : Prop} (hgd : o.guard = none) (s x : Operand)
    (ho : o.op = .call { callee := .builtin .append, args := #[s, x], argTypes := #[62, 62] })
    (b0 n : Nat) (v : Value) (xs : List UInt8) (hs : a.eval s = v) (hown : OwnC w b0 v n xs) (g1 : Nat) (b : UInt8) (hx : a.eval x = .slice (some ⟨g1, 0, none⟩) 1 1) (hc : w.cell? ⟨g1, 0, none⟩ = some (.int .u8 (b.toNat : Int))) (hsz : n + 1 ≤ 1000000000) (hb0 : b0 ≤ w.heap.size)
    (h : ∀ v' w', OwnC w' b0 v' (n + 1) (xs ++ [b]) → w.grownBy w' v.ownBlock → K (a.put o.dst v') w') :
    if Region.wanted o (yielded ops a.tmps) = true then Oper.wp Tryz.prog o a w K Q else E := by
  have hw : Region.wanted o (yielded ops a.tmps) = true := by simp [Region.wanted, hgd]
  rw [if_pos hw]
  obtain ⟨v', w', hr, h2, h3⟩ := run_append_C_byte w b0 n v xs o.type hown g1 b hc hsz hb0
  unfold Oper.wp execOp
  simp only [ho, resolve, invoke, builtin, Sem.run_bind, Sem.run_pure, Result.andThen_ok, List.map_toArray, List.map_cons, List.map_nil, hs, hx, hr]
  exact h v' w' h2 h3
/-- at the list of a plain region -/
theorem wpList_append_C_string {ops : Array Oper} {rest : List Oper} {o : Oper} {a : Act} {w : World} {Q : Exit → Act → World → Prop} (hgd : o.guard = none) (s x : Operand)
    (ho : o.op = .call { callee := .builtin .append, args := #[s, x], argTypes := #[62, 9] })
    (b0 n : Nat) (v : Value) (xs : List UInt8) (hs : a.eval s = v) (hown : OwnC w b0 v n xs) (t : ByteArray) (hx : a.eval x = .string t) (hsz : n + t.size ≤ 1000000000) (hb0 : b0 ≤ w.heap.size)
    (h : ∀ v' w', OwnC w' b0 v' (n + t.size) (xs ++ t.data.toList) → w.grownBy w' v.ownBlock → wpList Tryz.prog ops Q rest (a.put o.dst v') w') : wpList Tryz.prog ops Q (o :: rest) a w := by
  refine wpList_plain hgd fun K hK => ?_
  obtain ⟨v', w', hr, h2, h3⟩ := run_append_C_string w b0 n v xs o.type hown t hsz hb0
  unfold Oper.wp execOp
  simp only [ho, resolve, invoke, builtin, Sem.run_bind, Sem.run_pure, Result.andThen_ok, List.map_toArray, List.map_cons, List.map_nil, hs, hx, hr]
  exact hK _ _ (h v' w' h2 h3)
theorem wpList_append_C_byte {ops : Array Oper} {rest : List Oper} {o : Oper} {a : Act} {w : World} {Q : Exit → Act → World → Prop} (hgd : o.guard = none) (s x : Operand)
    (ho : o.op = .call { callee := .builtin .append, args := #[s, x], argTypes := #[62, 62] })
    (b0 n : Nat) (v : Value) (xs : List UInt8) (hs : a.eval s = v) (hown : OwnC w b0 v n xs) (g1 : Nat) (b : UInt8) (hx : a.eval x = .slice (some ⟨g1, 0, none⟩) 1 1) (hc : w.cell? ⟨g1, 0, none⟩ = some (.int .u8 (b.toNat : Int))) (hsz : n + 1 ≤ 1000000000) (hb0 : b0 ≤ w.heap.size)
    (h : ∀ v' w', OwnC w' b0 v' (n + 1) (xs ++ [b]) → w.grownBy w' v.ownBlock → wpList Tryz.prog ops Q rest (a.put o.dst v') w') : wpList Tryz.prog ops Q (o :: rest) a w := by
  refine wpList_plain hgd fun K hK => ?_
  obtain ⟨v', w', hr, h2, h3⟩ := run_append_C_byte w b0 n v xs o.type hown g1 b hc hsz hb0
  unfold Oper.wp execOp
  simp only [ho, resolve, invoke, builtin, Sem.run_bind, Sem.run_pure, Result.andThen_ok, List.map_toArray, List.map_cons, List.map_nil, hs, hx, hr]
  exact hK _ _ (h v' w' h2 h3)
/-- the text of what is owned -/
theorem ownC_text {w : World} {b0 n g cap : Nat} {xs : List UInt8} (h : OwnC w b0 (.slice (some ⟨g, 0, none⟩) n cap) n xs) :
    (convert 62 9 (.slice (some ⟨g, 0, none⟩) n cap)).run Tryz.prog w = .ok (.string ⟨xs.toArray⟩) w := by
  have hr := run_convert_bytes_back (P := Tryz.prog) w 62 9 5 ⟨g, 0, none⟩ cap xs u73 u5 u9 (fun j hj => by
    rw [Lib.add_plain, Nat.zero_add]
    rcases h.2 with ⟨e, _⟩ | ⟨g', cap', hv, _, _, _, _, _, h4⟩
    · cases e
    · injection hv with e1 _ _
      injection e1 with e1
      injection e1 with e1
      subst e1
      exact h4 j _ (List.getElem?_eq_getElem hj))
  rw [h.1] at hr
  exact hr
theorem ownC_conv_all {w : World} {b0 n : Nat} {v : Value} {xs : List UInt8} (h : OwnC w b0 v n xs) : (convert 62 9 v).run Tryz.prog w = .ok (.string ⟨xs.toArray⟩) w := by
  rcases h.2 with ⟨rfl, rfl⟩ | ⟨g, cap, rfl, _⟩
  · have hx : xs = [] := List.length_eq_zero_iff.1 h.1
    subst hx
    exact run_convert_bytes_nil (P := Tryz.prog) w 62 5 u73 u5 0 0 9 u9
  · exact ownC_text h
theorem new_cell (w : World) (v : Value) (t : TypeId) : (w.alloc (.cells #[v] t)).cell? ⟨w.heap.size, 0, none⟩ = some v := by
  rw [blk_cell (heap_alloc_new w _)]; rfl
theorem new_cell_d (w : World) (v : Value) (t : TypeId) : (w.alloc (.cells #[v] t)).drew.cell? ⟨w.heap.size, 0, none⟩ = some v := new_cell w v t
end Go.Proofs.YtmimmnjdgpdjlaaGreatDoor
