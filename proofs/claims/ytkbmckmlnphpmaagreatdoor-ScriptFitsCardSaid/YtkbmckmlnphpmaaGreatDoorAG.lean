/- What was seen, of a text: Unseen. -/
import Derived.Test.YtkbmckmlnphpmaaGreatDoorAF
set_option linter.unusedSimpArgs false
set_option linter.unusedVariables false
namespace Go.Proofs.YtkbmckmlnphpmaaGreatDoor
open Go.RowKit Go.Lib Go.Shelf

attribute [local go_sem] Oper.semAt_some

/-- one part -/
def unsT (x : ByteArray) : Option Sn := if x = j0W then some ⟨true, false, 0⟩ else if x = j1W then some ⟨true, true, 0⟩ else (numI x).map fun (u : Nat) => (⟨false, false, (u : Int)⟩ : Sn)
def unsL : List ByteArray → Option (List Sn)
  | [] => some []
  | x :: xs => match unsT x with | none => none | some y => (unsL xs).map fun l => y :: l
theorem unsL_snoc : ∀ (xs : List ByteArray) (y : ByteArray) (L : List Sn) (u : Sn), unsL xs = some L → unsT y = some u → unsL (xs ++ [y]) = some (L ++ [u])
  | [], y, L, u, h, hy => by cases h; simp [unsL, hy]
  | x :: xs, y, L, u, h, hy => by
    unfold unsL at h
    cases hx : unsT x with
    | none => rw [hx] at h; cases h
    | some v =>
      rw [hx] at h
      cases hm : unsL xs with
      | none => rw [hm] at h; cases h
      | some l =>
        rw [hm] at h
        cases h
        show unsL (x :: (xs ++ [y])) = _
        unfold unsL
        rw [hx, unsL_snoc xs y l u hm hy]
        rfl
theorem unsL_none : ∀ (xs : List ByteArray) (y : ByteArray), y ∈ xs → unsT y = none → unsL xs = none
  | [], y, h, _ => by cases h
  | x :: xs, y, h, hy => by
    unfold unsL
    rcases List.mem_cons.1 h with rfl | h
    · rw [hy]
    · cases hx : unsT x with
      | none => rfl
      | some v => dsimp only; rw [unsL_none xs y h hy]; rfl
theorem unsL_len : ∀ (xs : List ByteArray) (L : List Sn), unsL xs = some L → L.length = xs.length
  | [], L, h => by cases h; rfl
  | y :: xs, L, h => by
    unfold unsL at h
    cases hx : unsT y with
    | none => rw [hx] at h; cases h
    | some v =>
      rw [hx] at h
      cases hm : unsL xs with
      | none => rw [hm] at h; cases h
      | some l => rw [hm] at h; cases h; simp [unsL_len xs l hm]
theorem unsT_range {x : ByteArray} {y : Sn} (h : unsT x = some y) : 0 ≤ y.a ∧ y.a ≤ 18446744073709551615 := by
  unfold unsT at h
  split at h
  · cases h; exact ⟨Int.le_refl 0, by show (0 : Int) ≤ _; omega⟩
  · split at h
    · cases h; exact ⟨Int.le_refl 0, by show (0 : Int) ≤ _; omega⟩
    · cases hn : numI x with
      | none => rw [hn] at h; cases h
      | some u =>
        rw [hn] at h
        cases h
        have := numI_lt hn
        exact ⟨by show (0 : Int) ≤ (u : Int); omega, by show (u : Int) ≤ _; omega⟩
theorem unsL_range : ∀ (xs : List ByteArray) (L : List Sn), unsL xs = some L → ∀ x ∈ L, 0 ≤ x.a ∧ x.a ≤ 18446744073709551615
  | [], L, h => by cases h; intro x hx; cases hx
  | y :: xs, L, h => by
    unfold unsL at h
    cases hx : unsT y with
    | none => rw [hx] at h; cases h
    | some v =>
      rw [hx] at h
      cases hm : unsL xs with
      | none => rw [hm] at h; cases h
      | some l =>
        rw [hm] at h
        cases h
        intro z hz
        rcases List.mem_cons.1 hz with rfl | hz
        · exact unsT_range hx
        · exact unsL_range xs l hm z hz
def unseenM (s : ByteArray) : Option (List Sn) := if s.size = 0 then some [] else unsL (partsB s)
def snCells (L : List Sn) : List Value := (L.map fun x => [Value.bool x.j, .bool x.t, .int .u64 x.a]).flatten
theorem snCells_len (L : List Sn) : (snCells L).length = L.length * 3 := by
  induction L with
  | nil => rfl
  | cons x L ih =>
    have : snCells (x :: L) = [Value.bool x.j, .bool x.t, .int .u64 x.a] ++ snCells L := rfl
    rw [this, List.length_append, ih]; simp; omega
theorem snCells_at : ∀ (L : List Sn) (i : Nat) (x : Sn), L[i]? = some x → (snCells L)[i * 3]? = some (.bool x.j) ∧ (snCells L)[i * 3 + 1]? = some (.bool x.t) ∧ (snCells L)[i * 3 + 2]? = some (.int .u64 x.a)
  | [], i, x, h => by simp at h
  | y :: L, 0, x, h => by cases h; exact ⟨rfl, rfl, rfl⟩
  | y :: L, i + 1, x, h => by
    have e : snCells (y :: L) = [Value.bool y.j, .bool y.t, .int .u64 y.a] ++ snCells L := rfl
    obtain ⟨h1, h2, h3⟩ := snCells_at L i x (by simpa using h)
    rw [e]
    refine ⟨?_, ?_, ?_⟩
    · rw [List.getElem?_append_right (by simp; omega)]
      have : (i + 1) * 3 - [Value.bool y.j, .bool y.t, .int .u64 y.a].length = i * 3 := by simp; omega
      rw [this]; exact h1
    · rw [List.getElem?_append_right (by simp; omega)]
      have : (i + 1) * 3 + 1 - [Value.bool y.j, .bool y.t, .int .u64 y.a].length = i * 3 + 1 := by simp; omega
      rw [this]; exact h2
    · rw [List.getElem?_append_right (by simp; omega)]
      have : (i + 1) * 3 + 2 - [Value.bool y.j, .bool y.t, .int .u64 y.a].length = i * 3 + 2 := by simp; omega
      rw [this]; exact h3
theorem snCells_snoc (L : List Sn) (x : Sn) : snCells (L ++ [x]) = snCells L ++ [.bool x.j, .bool x.t, .int .u64 x.a] := by simp [snCells]
theorem own_SnAt {w : World} {b0 : Nat} {v : Value} {L : List Sn} (h : w.ownsRow b0 84 3 v L.length (snCells L)) (hr : ∀ x ∈ L, 0 ≤ x.a ∧ x.a ≤ 18446744073709551615) : ∃ A c, v = .slice A L.length c ∧ SnAt w A L := by
  obtain ⟨hcl, hcase⟩ := h
  rcases hcase with ⟨hv, h0⟩ | ⟨g, cap, cur, hv, hg, hh, hcap, hm, hs, ht⟩
  · exact ⟨none, 0, by rw [h0]; exact hv, hr, fun hn => absurd hn (by omega)⟩
  · refine ⟨_, _, hv, hr, fun _ => ⟨g, 0, rfl, fun i x hi => ?_⟩⟩
    obtain ⟨h1, h2, h3⟩ := snCells_at L i x hi
    have hk : ∀ k v, (snCells L)[k]? = some v → w.cell? ⟨g, 0 + k, none⟩ = some v := fun k v hv => by
      have hkl := (List.getElem?_eq_some_iff.1 hv).1
      rw [Nat.zero_add, blk_cell hh]
      rw [← ht, List.getElem?_take, if_pos (by rw [← hcl]; exact hkl)] at hv
      simpa using hv
    exact ⟨hk _ _ h1, by have := hk _ _ h2; rw [Nat.zero_add] at this ⊢; exact this, by have := hk _ _ h3; rw [Nat.zero_add] at this ⊢; exact this⟩
theorem snAt_nil (w : World) : SnAt w none [] := ⟨fun x hx => (by cases hx), fun h => absurd h (Nat.lt_irrefl 0)⟩
def UnsPost (s : ByteArray) (w : World) (e : Ending) (w' : World) : Prop :=
  (unseenM s = none → e = .returned (.tuple #[.slice none 0 0, .int .i64 15])) ∧ (∀ L, unseenM s = some L → ∃ A c, e = .returned (.tuple #[.slice A L.length c, .int .i64 0]) ∧ SnAt w' A L) ∧ Below w.heap.size w w'

set_option maxRecDepth 100000 in
set_option maxHeartbeats 4000000 in
theorem unseen_empty (s : ByteArray) (w : World) (hs : s.size = 0) : Calls Tryz.prog 27 #[.string s] w (UnsPost s w) := by
  have hem : s.toList.isEmpty = true := by
    rw [ByteArray.toList_eq]
    have := size_list s
    rw [List.isEmpty_iff]
    exact List.length_eq_zero_iff.1 (by omega)
  have hm := Lib.hid (show unseenM s = some [] by unfold unseenM; rw [if_pos hs])
  clear hs
  go_enter Tryz.func27, Tryz.ntmps27
  go_wp2
  refine bodyPost_ret (v := .tuple #[.slice none 0 0, .int .i64 0]) (by simp [results, Tryz.results27, go_sem]) rfl ⟨fun h => ?_, fun L h => ?_, ?_⟩
  · rw [hm.out] at h; cases h
  · rw [hm.out] at h
    cases h
    exact ⟨none, 0, rfl, snAt_nil _⟩
  · exact (((Below.refl w.heap.size w).alloc (Nat.le_refl _) _).alloc (by simp) _).alloc (by simp; omega) _
/-- between two rounds -/
structure UnI (w : World) (base : Nat) (pre : List ByteArray) (W : World) : Prop where
  b2 : Box1 W w.heap.size 53 (.slice none 0 0)
  b3 : Box1 W (w.heap.size + 1) 24 (.int .i64 0)
  l : ∃ L v, unsL pre = some L ∧ Box1 W (w.heap.size + 1 + 1) 53 v ∧ W.ownsRow base 84 3 v L.length (snCells L)
  bel : Below w.heap.size w W
  sz : base ≤ W.heap.size
/-- a round has left -/
structure UnX (w : World) (pre : List ByteArray) (W : World) : Prop where
  no : unsL pre = none
  b2 : Box1 W w.heap.size 53 (.slice none 0 0)
  b3 : Box1 W (w.heap.size + 1) 24 (.int .i64 15)
  bel : Below w.heap.size w W
theorem Box1.alloc {W : World} {b : Nat} {t : TypeId} {v : Value} (h : Box1 W b t v) (o : Obj) : Box1 (W.alloc o) b t v := (heap_alloc_old _ _ (blk_lt h)).trans h
theorem Box1.put {W : World} {b l : Nat} {t : TypeId} {v : Value} {o : Obj} (h : Box1 W b t v) (hl : W.heap[l]? = some o) (ho : o.isCells = false) (o' : Obj) : Box1 (W.putObj l o') b t v := by
  have hne : b ≠ l := by
    rintro rfl
    rw [show W.heap[b]? = _ from h] at hl
    cases hl
    cases ho
  exact (World.putObj_heap_other hne).trans h
theorem Box1.other {W : World} {b b' : Nat} {t : TypeId} {v : Value} (h : Box1 W b t v) (hne : b ≠ b') (u : Value) : Box1 (W.setCell ⟨b', 0, none⟩ u) b t v := (set_other hne).trans h
theorem below_put {B l : Nat} {w W : World} (h : Below B w W) (hl : B ≤ l) (o' : Obj) : Below B w (W.putObj l o') :=
  h.trans ⟨rfl, rfl, rfl, by simp, fun k hk => World.putObj_heap_other (by omega)⟩
theorem own_put {W : World} {base l : Nat} {t : TypeId} {sz n : Nat} {v : Value} {L : List Value} {o : Obj} (h : W.ownsRow base t sz v n L) (hl : W.heap[l]? = some o) (ho : o.isCells = false) (o' : Obj) : (W.putObj l o').ownsRow base t sz v n L := by
  refine h.kept (grownBy_putObj' W l o') ?_
  obtain ⟨_, hcase⟩ := h
  rcases hcase with ⟨hv, _⟩ | ⟨g, cap, cur, hv, _, hh, _⟩
  · left; rw [hv]; simp [Value.ownBlock]
  · right
    rw [hv]
    simp only [Value.ownBlock]
    intro e
    injection e with e
    subst e
    rw [hh] at hl
    cases hl
    cases ho
theorem own_set {W : World} {base b o : Nat} {t : TypeId} {sz n : Nat} {v u : Value} {L : List Value} (h : W.ownsRow base t sz v n L) (hb : b < base) : (W.setCell ⟨b, o, none⟩ u).ownsRow base t sz v n L := by
  refine h.kept (row := some b) ⟨rfl, rfl, rfl, by rw [set_size]; exact Nat.le_refl _, fun i _ hne => set_other (fun e => hne (by rw [e]))⟩ ?_
  cases hv : v.ownBlock with
  | none => exact .inl rfl
  | some g => exact .inr (fun e => by have := (h.lt g hv).1; injection e with e; omega)
theorem unsL_pre : ∀ (xs ys : List ByteArray), unsL xs = none → unsL (xs ++ ys) = none
  | [], ys, h => by cases h
  | x :: xs, ys, h => by
    show unsL (x :: (xs ++ ys)) = none
    unfold unsL at h ⊢
    cases hx : unsT x with
    | none => rfl
    | some v =>
      rw [hx] at h
      cases hm : unsL xs with
      | some l => rw [hm] at h; cases h
      | none => dsimp only; rw [unsL_pre xs ys hm]; rfl
theorem unI_calm (w : World) (base : Nat) (hb : w.heap.size ≤ base) : Calm base (UnI w base) :=
  ⟨fun s W o h hB => ⟨h.b2.alloc o, h.b3.alloc o, by
    obtain ⟨L, v, h1, h2, h3⟩ := h.l
    exact ⟨L, v, h1, h2.alloc o, h3.alloc o⟩, h.bel.alloc h.bel.size o, by have := h.sz; simp; omega⟩,
   fun s W l o o' h hB hl ho => ⟨h.b2.put hl ho o', h.b3.put hl ho o', by
    obtain ⟨L, v, h1, h2, h3⟩ := h.l
    exact ⟨L, v, h1, h2.put hl ho o', own_put h3 hl ho o'⟩, below_put h.bel (by omega) o', by have := h.sz; simpa using this⟩⟩
theorem unX_calm (w : World) (base : Nat) (hb : w.heap.size ≤ base) : Calm base (UnX w) :=
  ⟨fun s W o h hB => ⟨h.no, h.b2.alloc o, h.b3.alloc o, h.bel.alloc h.bel.size o⟩,
   fun s W l o o' h hB hl ho => ⟨h.no, h.b2.put hl ho o', h.b3.put hl ho o', below_put h.bel (by omega) o'⟩⟩
theorem unI_set {w : World} {base Bs : Nat} (h3 : w.heap.size + 1 + 1 < Bs) (hb : Bs < base) : ∀ s W v, UnI w base s W → UnI w base s (W.setCell ⟨Bs, 0, none⟩ v) := fun s W v h =>
  ⟨h.b2.other (by omega) v, h.b3.other (by omega) v, by
    obtain ⟨L, x, h1, h2, h4⟩ := h.l
    refine ⟨L, x, h1, h2.other (by omega) v, h4.kept (row := some Bs) ⟨rfl, rfl, rfl, by rw [set_size]; exact Nat.le_refl _, fun i _ hne => set_other (fun e => hne (by rw [e]))⟩ ?_⟩
    cases hv : x.ownBlock with
    | none => exact .inl rfl
    | some g => exact .inr (fun e => by have := (h4.lt g hv).1; injection e with e; omega), h.bel.setCell (p := ⟨Bs, 0, none⟩) (by simp; omega) v, by rw [set_size]; exact h.sz⟩

theorem unI_app {w : World} {base : Nat} {pre : List ByteArray} {x : ByteArray} {W w6 w5 : World} {Bp Bs B0 : Nat} {L : List Sn} {y : Sn} {v v' : Value} {o : Obj} (hb : w.heap.size + 1 + 1 < base) (z1 : w.heap.size + 1 + 1 < Bp ∧ Bp < base) (z2 : w.heap.size + 1 + 1 < Bs ∧ Bs < base) (z3 : w.heap.size + 1 + 1 < B0 ∧ B0 < base)
    (hI : UnI w base pre W) (h4 : Box1 W (w.heap.size + 1 + 1) 53 v) (how : W.ownsRow base 84 3 v L.length (snCells L)) (hb6 : Below W.heap.size W w6) (hg : (w6.alloc o).grownBy w5 v.ownBlock) (hown5 : w5.ownsRow base 84 3 v' (L.length + 1) (snCells L ++ [.bool y.j, .bool y.t, .int .u64 y.a])) (hu : unsL (pre ++ [x]) = some (L ++ [y])) :
    KeepsFrom base W (w5.setCell ⟨w.heap.size + 1 + 1, 0, none⟩ v') ∧ Kp3 Bp Bs B0 W (w5.setCell ⟨w.heap.size + 1 + 1, 0, none⟩ v') ∧ UnI w base (pre ++ [x]) (w5.setCell ⟨w.heap.size + 1 + 1, 0, none⟩ v') := by
  have hs6 := hb6.size
  have hs5 := hg.size
  have hsa : (w6.alloc o).heap.size = w6.heap.size + 1 := by simp
  have hsz := hI.sz
  have hown6 : ∀ g, v.ownBlock = some g → base ≤ g ∧ g < W.heap.size := how.lt
  have hold : ∀ b, b < W.heap.size → v.ownBlock ≠ some b → b ≠ w.heap.size + 1 + 1 → (w5.setCell ⟨w.heap.size + 1 + 1, 0, none⟩ v').heap[b]? = W.heap[b]? := fun b h1 h2 h3 => by
    rw [set_other h3, hg.block b (by omega) (fun e => h2 e.symm), heap_alloc_old w6 o (by omega), hb6.block b h1]
  have hlow : ∀ b, b < base → b ≠ w.heap.size + 1 + 1 → (w5.setCell ⟨w.heap.size + 1 + 1, 0, none⟩ v').heap[b]? = W.heap[b]? := fun b h1 h2 => hold b (by omega) (fun e => by have := (hown6 b e).1; omega) h2
  have h45 : Box1 w5 (w.heap.size + 1 + 1) 53 v := (hg.block _ (by omega) (fun e => by have := (hown6 _ e.symm).1; omega)).trans ((heap_alloc_old w6 o (by omega)).trans ((hb6.block _ (by omega)).trans h4))
  refine ⟨⟨by rw [set_size]; omega, fun k ob hk hob hc => ?_⟩, ⟨hlow _ z1.2 (by omega), hlow _ z2.2 (by omega), hlow _ z3.2 (by omega)⟩, ⟨(hlow _ (by omega) (by omega)).trans hI.b2, (hlow _ (by omega) (by omega)).trans hI.b3, ⟨L ++ [y], v', hu, h45.set, ?_⟩, ?_, by rw [set_size]; omega⟩⟩
  · refine (hold k (blk_lt hob) (fun e => ?_) (by omega)).trans hob
    obtain ⟨_, hcase⟩ := how
    rcases hcase with ⟨hv, _⟩ | ⟨g, cap, cur, hv, _, hh, _⟩
    · rw [hv] at e; simp [Value.ownBlock] at e
    · rw [hv] at e
      simp [Value.ownBlock] at e
      subst e
      rw [hh] at hob
      cases hob
      cases hc
  · rw [snCells_snoc, List.length_append]
    refine hown5.kept (row := some (w.heap.size + 1 + 1)) ⟨rfl, rfl, rfl, by rw [set_size]; exact Nat.le_refl _, fun i _ hne => set_other (fun e => hne (by rw [e]))⟩ ?_
    cases hv : v'.ownBlock with
    | none => exact .inl rfl
    | some g => exact .inr (fun e => by have := (hown5.lt g hv).1; injection e with e; omega)
  · have h1 : Below w.heap.size w (w6.alloc o) := (hI.bel.trans (hb6.mono hI.bel.size)).alloc (by have := hI.bel.size; omega) o
    exact (h1.grown hg (by have := hI.bel.size; omega) (fun g e => by have := (hown6 g e).1; omega)).setCell (p := ⟨w.heap.size + 1 + 1, 0, none⟩) (by simp; omega) v'
theorem unI_below {w : World} {base : Nat} {pre : List ByteArray} {W w6 : World} (hI : UnI w base pre W) (hb6 : Below W.heap.size W w6) : UnI w base pre w6 :=
  ⟨(hb6.block _ (blk_lt hI.b2)).trans hI.b2, (hb6.block _ (blk_lt hI.b3)).trans hI.b3, by
    obtain ⟨L, v, h1, h2, h3⟩ := hI.l
    exact ⟨L, v, h1, (hb6.block _ (blk_lt h2)).trans h2, h3.kept (row := none) ⟨hb6.os, hb6.tape, hb6.output, hb6.size, fun i hi _ => hb6.block i hi⟩ (Classical.em _)⟩, hI.bel.trans (hb6.mono hI.bel.size), Nat.le_trans hI.sz hb6.size⟩
theorem info84 : (Tryz.prog.info? 84).map (fun i => (i.zero, i.size, i.bytes)) = some (some (.agg #[.bool false, .bool false, .int .u64 0]), 3, 16) := by kernel_rfl
theorem und53 : Tryz.prog.underlying 53 = some (.slice 84) := by kernel_rfl
theorem new3 (w : World) (a b c : Value) (t : TypeId) : ∀ (j : Nat) (u : Value), [a, b, c][j]? = some u → (w.alloc (.cells #[a, b, c] t)).cell? ((⟨w.heap.size, 0, none⟩ : Addr).add j) = some u := by
  intro j u hu
  rw [Lib.add_plain, Nat.zero_add, blk_cell (heap_alloc_new w _)]
  simpa using hu

set_option maxRecDepth 100000 in
set_option maxHeartbeats 4000000 in
theorem unseen_in (s : ByteArray) (w : World) (hs : s.size ≠ 0) (hE : Env w) (hsz : s.size ≤ 2000000) : CallsIn Fence.wide 5 Tryz.prog 27 #[.string s] w (UnsPost s w) := by
  have hem : s.toList.isEmpty = false := by
    rw [ByteArray.toList_eq]
    have := size_list s
    cases hl : s.data.toList with
    | nil => rw [hl] at this; exact absurd this.symm hs
    | cons a b => rfl
  have hm := Lib.hid (show unseenM s = unsL (partsB s) by unfold unseenM; rw [if_neg hs])
  have hE' := Lib.hid hE
  clear hs hE
  refine callsIn_of_wp_marks Tryz.func27 rfl trivial ?_ rfl
  simp only [Tryz.ntmps27, List.size_toArray, List.length_cons, List.length_nil, Nat.reduceAdd, Nat.reduceSub, Array.replicate_succ, Array.replicate_zero, List.push_toArray, List.append_toArray, List.nil_append, List.cons_append]
  have k2 : Box1 (((w.alloc (.cells #[.slice none 0 0] 53)).alloc (.cells #[.int .i64 0] 24)).alloc (.cells #[.slice none 0 0] 53)) w.heap.size 53 (.slice none 0 0) :=
    (show Box1 (w.alloc (.cells #[.slice none 0 0] 53)) w.heap.size 53 (.slice none 0 0) from heap_alloc_new w _).alloc _ |>.alloc _
  have k3 : Box1 (((w.alloc (.cells #[.slice none 0 0] 53)).alloc (.cells #[.int .i64 0] 24)).alloc (.cells #[.slice none 0 0] 53)) (w.heap.size + 1) 24 (.int .i64 0) := by
    have h := heap_alloc_new (w.alloc (.cells #[.slice none 0 0] 53)) (.cells #[.int .i64 0] 24)
    rw [show (w.alloc (.cells #[.slice none 0 0] 53)).heap.size = w.heap.size + 1 by simp] at h
    exact Box1.alloc h _
  have k4 : Box1 (((w.alloc (.cells #[.slice none 0 0] 53)).alloc (.cells #[.int .i64 0] 24)).alloc (.cells #[.slice none 0 0] 53)) (w.heap.size + 1 + 1) 53 (.slice none 0 0) := by
    have h := heap_alloc_new ((w.alloc (.cells #[.slice none 0 0] 53)).alloc (.cells #[.int .i64 0] 24)) (.cells #[.slice none 0 0] 53)
    rw [show ((w.alloc (.cells #[.slice none 0 0] 53)).alloc (.cells #[.int .i64 0] 24)).heap.size = w.heap.size + 1 + 1 by simp] at h
    exact h
  have kb : Below w.heap.size w (((w.alloc (.cells #[.slice none 0 0] 53)).alloc (.cells #[.int .i64 0] 24)).alloc (.cells #[.slice none 0 0] 53)) := (((Below.refl w.heap.size w).alloc (Nat.le_refl _) _).alloc (by simp) _).alloc (by simp; omega) _
  have ks : (((w.alloc (.cells #[.slice none 0 0] 53)).alloc (.cells #[.int .i64 0] 24)).alloc (.cells #[.slice none 0 0] 53)).heap.size = w.heap.size + 1 + 1 + 1 := by simp
  gi_wp2_with fail
  refine ⟨trivial, ?_⟩
  refine (callsIn_wide.2 (seq_any s _)).mono ?_
  rintro e W0 ⟨Bp, Bs, B0, rfl, ne1, ne2, ⟨z1, z2, z3⟩, bp, bs, b0, bA⟩
  rw [ks] at z1 z2 z3
  have j2 := Lib.hid (show Box1 W0 w.heap.size 53 (.slice none 0 0) from (bA.block _ (blk_lt k2)).trans k2)
  have j3 := Lib.hid (show Box1 W0 (w.heap.size + 1) 24 (.int .i64 0) from (bA.block _ (blk_lt k3)).trans k3)
  have j4 := Lib.hid (show Box1 W0 (w.heap.size + 1 + 1) 53 (.slice none 0 0) from (bA.block _ (blk_lt k4)).trans k4)
  have hB0 := Lib.hid (Below.next kb bA)
  have hbp := blk_lt bp
  have hbs := blk_lt bs
  have hb0 := blk_lt b0
  have bp' := Lib.hid bp
  have bs' := Lib.hid bs
  have b0' := Lib.hid b0
  clear k2 k3 k4 kb ks bA bp bs b0
  gi_wp2_with fail
  have hszw := hB0.out.size
  refine wpIn_range_box (n := 5) (by omega) rfl (enters_of Tryz.func115 (by kernel_rfl) rfl) (Bs := Bs) (N := 2000001) (Kp := Kp3 Bp Bs B0) hbs Kp3.trans ?kb
    (split115_said 4 (by omega) Bp Bs B0 s hsz W0 ne1 ne2 bp'.out bs'.out b0'.out) (UnI w W0.heap.size) (UnX w) (unI_calm w _ hszw) (unX_calm w _ hszw) (unI_set (by omega) hbs)
    ⟨j2.out, j3.out, ⟨[], _, rfl, j4.out, rfl, .inl ⟨rfl, rfl⟩⟩, hB0.out, Nat.le_refl _⟩
    (fun x => #[.string s, undef, .pointer (some ⟨w.heap.size, 0, none⟩), .pointer (some ⟨w.heap.size + 1, 0, none⟩), .pointer (some ⟨w.heap.size + 1 + 1, 0, none⟩), .string x, undef, undef, undef, .string s, .bool false, .string s,
      .func (.func 115) #[] #[.pointer (some ⟨Bp, 0, none⟩), .pointer (some ⟨Bs, 0, none⟩), .pointer (some ⟨B0, 0, none⟩)], .string x, undef, undef, undef, undef, undef, undef, undef, undef, undef, undef, undef, undef, undef, undef, undef, undef, undef, undef, undef, undef, undef, undef, undef, undef, undef, undef, undef])
    ?assign ?body ?done ?stop
  case kb => exact fun W l o' hl => ⟨World.putObj_heap_other (by omega), World.putObj_heap_other (by omega), World.putObj_heap_other (by omega)⟩
  case assign =>
    intro l x W K hK
    have hK' := Lib.hid hK
    clear hK
    gi_wp2
    exact hK'.out
  case body =>
    rintro l pre x W hl hI ⟨hN, hxs⟩
    have hI' := Lib.hid hI
    have hE1 := Lib.hid (hE'.out.below hI.bel)
    have hnum := number_any x W hE1.out hxs
    obtain ⟨L, v, hu, h4, how⟩ := hI.l
    have hLl := unsL_len _ _ hu
    have hu' := Lib.hid hu
    have h4' := Lib.hid h4
    have how' := Lib.hid how
    have hx2 := Lib.hid (show ∀ y, unsT x = some y → unsL (pre ++ [x]) = some (L ++ [y]) from fun y hy => unsL_snoc pre x L y hu hy)
    have hx0 := Lib.hid (show unsT x = none → unsL (pre ++ [x]) = none from fun hy => unsL_none _ x (by simp) hy)
    have hsW := hI.sz
    obtain ⟨i0, hi, hq0, hq1, hq2⟩ := info_parts info84
    obtain ⟨nn, hnn⟩ : ∃ nn, L.length = nn := ⟨_, rfl⟩
    have hnn' := Lib.hid hnn
    have hnl : nn ≤ 2000001 := by omega
    clear hI hu h4 how hnn hLl
    by_cases hj0 : x = j0W
    · have c0 : (x.toList == [106, 48]) = true := by rw [hj0, ByteArray.toList_eq]; decide
      have c1 : (x.toList == [106, 49]) = false := by rw [hj0, ByteArray.toList_eq]; decide
      have hux := Lib.hid (hx2.out ⟨true, false, 0⟩ (by rw [hj0]; decide))
      have hnn0 : numI x = none := by rw [hj0]; exact numI_zero (by decide)
      have hnum2 := Lib.hid (hnum.mono (fun e w' h => (show ∃ v0 : Nat, e = .returned (.tuple #[.int .u64 v0, .bool false]) ∧ Below W.heap.size W w' by
        obtain ⟨v, h1, _, _, h4⟩ := h
        rw [hnn0] at h1
        exact ⟨v, h1, h4⟩)))
      clear hnum hnn0 hj0
      gi_wp2_with fail
      refine ⟨trivial, ?_⟩
      refine (callsIn_wide.2 hnum2.out).mono ?_
      rintro e w6 ⟨v0, rfl, hb6⟩
      have hI6 := unI_below hI'.out hb6
      have how6 : w6.ownsRow W0.heap.size 84 3 v nn (snCells L) := by
        have := how'.out.kept (row := none) ⟨hb6.os, hb6.tape, hb6.output, hb6.size, fun i hi _ => hb6.block i hi⟩ (Classical.em _)
        rw [hnn'.out] at this
        exact this
      have g4 : Box1 w6 (w.heap.size + 1 + 1) 53 v := (hb6.block _ (blk_lt h4'.out)).trans h4'.out
      have y4 := g4.c
      have y4f := g4.f
      have hlt4 := blk_lt g4
      have hs6 := hb6.size
      have hb6' := Lib.hid hb6
      have hownA := Lib.hid (how6.alloc (.cells #[.bool true, .bool false, .int .u64 0] 84))
      have hnew := Lib.hid (new3 w6 (.bool true) (.bool false) (.int .u64 0) 84)
      have hone := Lib.hid (show ∀ v ∈ [Value.bool true, .bool false, .int .u64 0], v.oneCell' = true by simp [Value.oneCell'])
      have hbs6 := Lib.hid (show W0.heap.size ≤ (w6.alloc (.cells #[.bool true, .bool false, .int .u64 0] 84)).heap.size by simp; omega)
      have hk1 := Lib.hid (show nn + 1 ≤ maxLen by unfold maxLen; omega)
      have hk2 := Lib.hid (show (nn + 1) * 16 ≤ 140737488355328 by omega)
      have g4a := Lib.hid (g4.alloc (.cells #[.bool true, .bool false, .int .u64 0] 84))
      have hne4 := Lib.hid (show some (w.heap.size + 1 + 1) ≠ v.ownBlock from fun e => by have := (how6.lt _ e.symm).1; omega)
      clear hI6 how6 g4 hb6
      gi_wp2_with ((gi_at_builtin; refine wpListIn_append_own _ rfl _ _ 53 rfl W0.heap.size 84 i0 _ 3 16 und53 hi hq0 hq1 hq2 rfl (by decide) v nn (snCells L) rfl hownA.out ⟨w6.heap.size, 0, none⟩ 1 1 [.bool true, .bool false, .int .u64 0] rfl rfl hnew.out hone.out hk1.out hk2.out hbs6.out ?_; intro v' w5 hown5 hg5 hnil5; obtain ⟨gn, capn, rfl, _, _⟩ := hown5.form (Nat.succ_pos nn); have g45 : Box1 w5 (w.heap.size + 1 + 1) 53 v := (hg5.block _ (by simp; omega) hne4.out).trans g4a.out; have q4 := g45.c; have q4f := g45.f; have hown5 := Lib.hid hown5; have hg5 := Lib.hid hg5; clear hnil5 g45))
      have hnn2 := hnn'.out
      subst hnn2
      have hown5n := hown5.out
      exact unI_app (y := ⟨true, false, 0⟩) (by omega) ⟨by omega, hbp⟩ ⟨by omega, hbs⟩ ⟨by omega, hb0⟩ hI'.out h4'.out how'.out hb6'.out hg5.out hown5n hux.out
    · by_cases hj1 : x = j1W
      · have c0 : (x.toList == [106, 48]) = false := by rw [hj1, ByteArray.toList_eq]; decide
        have c1 : (x.toList == [106, 49]) = true := by rw [hj1, ByteArray.toList_eq]; decide
        have hux := Lib.hid (hx2.out ⟨true, true, 0⟩ (by rw [hj1]; decide))
        have hnn0 : numI x = none := by rw [hj1]; exact numI_zero (by decide)
        have hnum2 := Lib.hid (hnum.mono (fun e w' h => (show ∃ v0 : Nat, e = .returned (.tuple #[.int .u64 v0, .bool false]) ∧ Below W.heap.size W w' by
          obtain ⟨v, h1, _, _, h4⟩ := h
          rw [hnn0] at h1
          exact ⟨v, h1, h4⟩)))
        clear hnum hnn0 hj0 hj1
        gi_wp2_with fail
        refine ⟨trivial, ?_⟩
        refine (callsIn_wide.2 hnum2.out).mono ?_
        rintro e w6 ⟨v0, rfl, hb6⟩
        have hI6 := unI_below hI'.out hb6
        have how6 : w6.ownsRow W0.heap.size 84 3 v nn (snCells L) := by
          have := how'.out.kept (row := none) ⟨hb6.os, hb6.tape, hb6.output, hb6.size, fun i hi _ => hb6.block i hi⟩ (Classical.em _)
          rw [hnn'.out] at this
          exact this
        have g4 : Box1 w6 (w.heap.size + 1 + 1) 53 v := (hb6.block _ (blk_lt h4'.out)).trans h4'.out
        have y4 := g4.c
        have y4f := g4.f
        have hlt4 := blk_lt g4
        have hs6 := hb6.size
        have hb6' := Lib.hid hb6
        have hownA := Lib.hid (how6.alloc (.cells #[.bool true, .bool true, .int .u64 0] 84))
        have hnew := Lib.hid (new3 w6 (.bool true) (.bool true) (.int .u64 0) 84)
        have hone := Lib.hid (show ∀ v ∈ [Value.bool true, .bool true, .int .u64 0], v.oneCell' = true by simp [Value.oneCell'])
        have hbs6 := Lib.hid (show W0.heap.size ≤ (w6.alloc (.cells #[.bool true, .bool true, .int .u64 0] 84)).heap.size by simp; omega)
        have hk1 := Lib.hid (show nn + 1 ≤ maxLen by unfold maxLen; omega)
        have hk2 := Lib.hid (show (nn + 1) * 16 ≤ 140737488355328 by omega)
        have g4a := Lib.hid (g4.alloc (.cells #[.bool true, .bool true, .int .u64 0] 84))
        have hne4 := Lib.hid (show some (w.heap.size + 1 + 1) ≠ v.ownBlock from fun e => by have := (how6.lt _ e.symm).1; omega)
        clear hI6 how6 g4 hb6
        gi_wp2_with ((gi_at_builtin; refine wpListIn_append_own _ rfl _ _ 53 rfl W0.heap.size 84 i0 _ 3 16 und53 hi hq0 hq1 hq2 rfl (by decide) v nn (snCells L) rfl hownA.out ⟨w6.heap.size, 0, none⟩ 1 1 [.bool true, .bool true, .int .u64 0] rfl rfl hnew.out hone.out hk1.out hk2.out hbs6.out ?_; intro v' w5 hown5 hg5 hnil5; obtain ⟨gn, capn, rfl, _, _⟩ := hown5.form (Nat.succ_pos nn); have g45 : Box1 w5 (w.heap.size + 1 + 1) 53 v := (hg5.block _ (by simp; omega) hne4.out).trans g4a.out; have q4 := g45.c; have q4f := g45.f; have hown5 := Lib.hid hown5; have hg5 := Lib.hid hg5; clear hnil5 g45))
        have hnn2 := hnn'.out
        subst hnn2
        have hown5n := hown5.out
        exact unI_app (y := ⟨true, true, 0⟩) (by omega) ⟨by omega, hbp⟩ ⟨by omega, hbs⟩ ⟨by omega, hb0⟩ hI'.out h4'.out how'.out hb6'.out hg5.out hown5n hux.out
      · have c0 : (x.toList == [106, 48]) = false := cmp_ne hj0
        have c1 : (x.toList == [106, 49]) = false := cmp_ne hj1
        have hT := Lib.hid (show unsT x = (numI x).map fun (u : Nat) => (⟨false, false, (u : Int)⟩ : Sn) by unfold unsT; rw [if_neg hj0, if_neg hj1])
        clear hj0 hj1
        cases hn : numI x with
        | none =>
          have hnum2 := Lib.hid (hnum.mono (fun e w' h => (show ∃ v0 : Nat, e = .returned (.tuple #[.int .u64 v0, .bool false]) ∧ Below W.heap.size W w' by
            obtain ⟨v, h1, _, _, h4⟩ := h
            rw [hn] at h1
            exact ⟨v, h1, h4⟩)))
          have hno := Lib.hid (hx0.out (by rw [hT.out, hn]; rfl))
          clear hnum hn
          gi_wp2_with fail
          refine ⟨trivial, ?_⟩
          refine (callsIn_wide.2 hnum2.out).mono ?_
          rintro e w6 ⟨v0, rfl, hb6⟩
          have hI6 := unI_below hI'.out hb6
          have t2 := hI6.b2
          have t3 := hI6.b3
          have y2 := t2.c
          have y3 := t3.c
          have f2 := t2.f
          have f3 := t3.f
          have hlt2 := blk_lt t2
          have hlt3 := blk_lt t3
          have hI6' := Lib.hid hI6
          have hb6' := Lib.hid hb6
          clear hI6 t2 t3 hb6
          gi_wp2
          refine ⟨⟨by rw [set_size, set_size]; exact hb6'.out.size, fun k ob hk hob hc => ?_⟩, hno.out, ?_, ?_, ?_⟩
          · rw [set_other (by omega), set_other (by omega)]
            exact (hb6'.out.block k (blk_lt hob)).trans hob
          · exact (hI6'.out.b2.set (u := .slice none 0 0)).other (by omega) _
          · exact (hI6'.out.b3.other (by omega) _).set
          · exact (hI6'.out.bel.setCell (p := ⟨w.heap.size, 0, none⟩) (Nat.le_refl _) _).setCell (p := ⟨w.heap.size + 1, 0, none⟩) (by simp) _
        | some u =>
          have hnum2 := Lib.hid (hnum.mono (fun e w' h => (show e = .returned (.tuple #[.int .u64 u, .bool true]) ∧ Below W.heap.size W w' by
            obtain ⟨v, h1, h2, _, h4⟩ := h
            rw [hn] at h1
            rw [h2 u hn] at h1
            exact ⟨h1, h4⟩)))
          have hux := Lib.hid (hx2.out ⟨false, false, u⟩ (by rw [hT.out, hn]; rfl))
          clear hnum hn
          gi_wp2_with fail
          refine ⟨trivial, ?_⟩
          refine (callsIn_wide.2 hnum2.out).mono ?_
          rintro e w6 ⟨rfl, hb6⟩
          have hI6 := unI_below hI'.out hb6
          have how6 : w6.ownsRow W0.heap.size 84 3 v nn (snCells L) := by
            have := how'.out.kept (row := none) ⟨hb6.os, hb6.tape, hb6.output, hb6.size, fun i hi _ => hb6.block i hi⟩ (Classical.em _)
            rw [hnn'.out] at this
            exact this
          have g4 : Box1 w6 (w.heap.size + 1 + 1) 53 v := (hb6.block _ (blk_lt h4'.out)).trans h4'.out
          have y4 := g4.c
          have y4f := g4.f
          have hlt4 := blk_lt g4
          have hs6 := hb6.size
          have hb6' := Lib.hid hb6
          have hownA := Lib.hid (how6.alloc (.cells #[.bool false, .bool false, .int .u64 (u : Int)] 84))
          have hnew := Lib.hid (new3 w6 (.bool false) (.bool false) (.int .u64 (u : Int)) 84)
          have hone := Lib.hid (show ∀ v ∈ [Value.bool false, .bool false, .int .u64 (u : Int)], v.oneCell' = true by simp [Value.oneCell'])
          have hbs6 := Lib.hid (show W0.heap.size ≤ (w6.alloc (.cells #[.bool false, .bool false, .int .u64 (u : Int)] 84)).heap.size by simp; omega)
          have hk1 := Lib.hid (show nn + 1 ≤ maxLen by unfold maxLen; omega)
          have hk2 := Lib.hid (show (nn + 1) * 16 ≤ 140737488355328 by omega)
          have g4a := Lib.hid (g4.alloc (.cells #[.bool false, .bool false, .int .u64 (u : Int)] 84))
          have hne4 := Lib.hid (show some (w.heap.size + 1 + 1) ≠ v.ownBlock from fun e => by have := (how6.lt _ e.symm).1; omega)
          clear hI6 how6 g4 hb6
          gi_wp2_with ((gi_at_builtin; refine wpListIn_append_own _ rfl _ _ 53 rfl W0.heap.size 84 i0 _ 3 16 und53 hi hq0 hq1 hq2 rfl (by decide) v nn (snCells L) rfl hownA.out ⟨w6.heap.size, 0, none⟩ 1 1 [.bool false, .bool false, .int .u64 (u : Int)] rfl rfl hnew.out hone.out hk1.out hk2.out hbs6.out ?_; intro v' w5 hown5 hg5 hnil5; obtain ⟨gn, capn, rfl, _, _⟩ := hown5.form (Nat.succ_pos nn); have g45 : Box1 w5 (w.heap.size + 1 + 1) 53 v := (hg5.block _ (by simp; omega) hne4.out).trans g4a.out; have q4 := g45.c; have q4f := g45.f; have hown5 := Lib.hid hown5; have hg5 := Lib.hid hg5; clear hnil5 g45))
          have hnn2 := hnn'.out
          subst hnn2
          have hown5n := hown5.out
          exact unI_app (y := ⟨false, false, (u : Int)⟩) (by omega) ⟨by omega, hbp⟩ ⟨by omega, hbs⟩ ⟨by omega, hb0⟩ hI'.out h4'.out how'.out hb6'.out hg5.out hown5n hux.out
  case done =>
    rintro D xs W hD hxs hI hK
    obtain ⟨L, v, hu, h4, how⟩ := hI.l
    rw [hxs] at hu
    obtain ⟨A, c, rfl, hSn⟩ := own_SnAt how (unsL_range _ _ hu)
    have hmm := Lib.hid (show unseenM s = some L from by rw [hm.out, hu])
    have hK' := Lib.hid hK
    have hSn' := Lib.hid hSn
    have hI' := Lib.hid hI
    have how' := Lib.hid how
    have y2 := hI.b2.c
    have y3 := hI.b3.c
    have y4 := h4.c
    have f2 := hI.b2.f
    have f3 := hI.b3.f
    have hlt3 := blk_lt hI.b3
    have hru := Lib.hid (unsL_range _ _ hu)
    clear hI hK hu h4 how hSn hxs
    gi_wp2
    have hD3 : W0.heap.size ≤ D := hD
    have hKd : ((W.setCell ⟨w.heap.size, 0, none⟩ (.slice A L.length c)).setCell ⟨w.heap.size + 1, 0, none⟩ (.int .i64 0)).heap[D]? = some (.deferred (some [])) := by
      rw [set_other (by omega), set_other (by omega)]; exact hK'.out
    refine ⟨by simp, .inl ⟨_, _, rfl, run_takeDeferred hKd, ?_⟩⟩
    have g2 : Box1 (((W.setCell ⟨w.heap.size, 0, none⟩ (.slice A L.length c)).setCell ⟨w.heap.size + 1, 0, none⟩ (.int .i64 0)).putObj D (.deferred none)) w.heap.size 53 (.slice A L.length c) :=
      Box1.put ((hI'.out.b2.set (u := .slice A L.length c)).other (by omega) _) hKd rfl _
    have g3 : Box1 (((W.setCell ⟨w.heap.size, 0, none⟩ (.slice A L.length c)).setCell ⟨w.heap.size + 1, 0, none⟩ (.int .i64 0)).putObj D (.deferred none)) (w.heap.size + 1) 24 (.int .i64 0) :=
      Box1.put ((hI'.out.b3.other (by omega) _).set) hKd rfl _
    have gow := own_put (own_set (own_set how'.out (b := w.heap.size) (o := 0) (u := .slice A L.length c) (by omega)) (b := w.heap.size + 1) (o := 0) (u := .int .i64 0) (by omega)) hKd rfl (.deferred none)
    have c2 := g2.c
    have c3 := g3.c
    refine ⟨.tuple #[.slice A L.length c, .int .i64 0], by simp [results, Tryz.f27, go_sem, c2, c3], ?_⟩
    refine ⟨(fun h => by rw [hmm.out] at h; cases h), fun L2 h => ?_, ?_⟩
    · rw [hmm.out] at h
      cases h
      obtain ⟨A2, c22, e2, hS2⟩ := own_SnAt gow hru.out
      injection e2 with e3 e4 e5
      subst e3
      exact ⟨A, c, rfl, hS2⟩
    · exact below_put ((hI'.out.bel.setCell (p := ⟨w.heap.size, 0, none⟩) (Nat.le_refl _) _).setCell (p := ⟨w.heap.size + 1, 0, none⟩) (by simp) _) (by omega) _
  case stop =>
    rintro D pre W hD ⟨rest, hrest, _⟩ hX hK
    have hmm := Lib.hid (show unseenM s = none from by
      rw [hm.out, ← hrest]
      exact unsL_pre _ _ hX.no)
    have hX' := Lib.hid hX
    have hK' := Lib.hid hK
    clear hX hrest hK
    gi_wp2
    refine ⟨by simp, .inl ⟨_, _, rfl, run_takeDeferred hK'.out, ?_⟩⟩
    have c2 := (hX'.out.b2.put hK'.out rfl (.deferred none)).c
    have c3 := (hX'.out.b3.put hK'.out rfl (.deferred none)).c
    refine ⟨.tuple #[.slice none 0 0, .int .i64 15], by simp [results, Tryz.f27, go_sem, c2, c3], ?_⟩
    exact ⟨fun _ => rfl, (fun L h => by rw [hmm.out] at h; cases h), below_put hX'.out.bel (by omega) _⟩
theorem unseen_any (s : ByteArray) (w : World) (hE : Env w) (hsz : s.size ≤ 2000000) : Calls Tryz.prog 27 #[.string s] w (UnsPost s w) := by
  by_cases hs : s.size = 0
  · exact unseen_empty s w hs
  · exact callsIn_wide.1 (unseen_in s w hs hE hsz)
end Go.Proofs.YtkbmckmlnphpmaaGreatDoor
