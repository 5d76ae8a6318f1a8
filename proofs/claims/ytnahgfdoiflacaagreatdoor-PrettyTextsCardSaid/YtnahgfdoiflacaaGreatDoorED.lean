/- The reference's text of a program. -/
import Derived.Test.YtnahgfdoiflacaaGreatDoorDX
import Derived.Test.YtnahgfdoiflacaaGreatDoorEC
set_option linter.unusedSimpArgs false
set_option linter.unusedVariables false
namespace Go.Proofs.YtnahgfdoiflacaaGreatDoor
open Go.RowKit Go.Lib Go.Shelf

theorem refVar75_any (v : VarC) (W : World) (hE : Env W) (hn : v.nm.size ≤ 30000) (h : VarOk v) (hm : mayVr v = true) : Calls Tryz.prog 75 #[vlV v] W (StrPost (varB v) W) := by
  have hl := itoaB_size h.1 h.2
  unfold mayVr at hm
  simp only [Bool.and_eq_true, Bool.or_eq_true, beq_iff_eq] at hm
  obtain ⟨nm, kd, sz, sc⟩ := v
  dsimp only at *
  obtain ⟨_, ⟨hk | hk, _⟩ | ⟨hk, _⟩⟩ := hm
  · subst hk; exact refVar2_any nm sz sc W hE hn h.1 h.2 (by omega)
  · subst hk; exact refVar3_any nm sz sc W hE hn h.1 h.2 (by omega)
  · subst hk; exact refVar1_any nm sz sc W hE hn h.1 h.2 (by omega)
theorem cntN_params : ∀ L : List VarC, cntN (L.map paramB) ≤ 9 * cntV L
  | [] => by simp [cntN]
  | v :: L => by
    have h1 := cntN_params L
    have h2 := paramB_size v
    rw [List.map_cons, cntN, cntV]
    omega
section
variable {ops : Array Oper} {Q : Exit → Act → World → Prop} {i : Nat} {K : Act → World → Prop} {a : Act} {w : World} {o : Oper} {rest : List Oper}
theorem wpOp_append9 {s x : Operand} {base n : Nat} {v : Value} {xs : List Value} {u : ByteArray} {ad : Addr} {c : Nat} (hi : ops[i]? = some o) (hw : Region.wanted o (yielded ops a.tmps) = true)
    (ho : o.op = .call { callee := .builtin .append, args := #[s, x], argTypes := #[47, 47] }) (hs : a.eval s = v) (hown : w.ownsRow base 9 1 v n xs) (hx : a.eval x = .slice (some ad) 1 c)
    (hnews : ∀ j y, [Value.string u][j]? = some y → w.cell? (ad.add j) = some y) (hb : n ≤ 1000000000) (hbase : base ≤ w.heap.size)
    (h : ∀ v' w', w'.ownsRow base 9 1 v' (n + 1) (xs ++ [.string u]) → w.grownBy w' v.ownBlock → K (a.put o.dst v') w') : wpOp Tryz.prog ops Q i K a w := by
  obtain ⟨i0, hi0, hz0, hz1, hz2⟩ := info_parts info9
  obtain ⟨v', w', hr, h2, h3, _, _⟩ := run_append_own_at (P := Tryz.prog) w base 47 o.type 9 i0 _ 1 16 und45 hi0 hz0 hz1 hz2 rfl (by decide) v n xs hown ad 1 c [.string u] rfl hnews (by simp [Value.oneCell']) (by unfold maxLen; omega) (by omega) hbase
  refine wpOp_wp hi hw ?_
  unfold Oper.wp execOp
  simp only [ho, resolve, invoke, builtin, Sem.run_bind, Sem.run_pure, Result.andThen_ok, List.map_toArray, List.map_cons, List.map_nil, hs, hx, hr]
  exact h v' w' h2 h3
theorem wpList_rows {s x : Operand} {base base2 n : Nat} {v v2 : Value} {xs : List Value} {l2 : List Ln} (hgd : o.guard = none)
    (ho : o.op = .call { callee := .builtin .append, args := #[s, x], argTypes := #[109, 109] }) (hs : a.eval s = v) (hown : w.ownsRow base 112 2 v n xs) (hx : a.eval x = v2) (h2 : w.ownsRow base2 112 2 v2 l2.length (lnCells l2)) (hb : n + l2.length ≤ 1000000000) (hbase : base ≤ w.heap.size)
    (h : ∀ v' w', w'.ownsRow base 112 2 v' (n + l2.length) (xs ++ lnCells l2) → w.grownBy w' v.ownBlock → wpList Tryz.prog ops Q rest (a.put o.dst v') w') : wpList Tryz.prog ops Q (o :: rest) a w := by
  obtain ⟨i0, hi0, hz0, hz1, hz2⟩ := info_parts info112
  obtain ⟨hlen, hcase⟩ := h2
  rcases hcase with ⟨rfl, h0⟩ | ⟨g, cap, cur, rfl, hg, hh, hcap, hm, hs2, ht⟩
  · have hl : lnCells l2 = [] := List.length_eq_zero_iff.1 (by omega)
    refine wpList_append_own_none hgd s x 109 ho base 112 i0 2 und109 hi0 v n xs hs hown hx (h v w ?_ (World.grownBy.refl _ _))
    rw [hl, h0, Nat.add_zero, List.append_nil]
    exact hown
  · have h2' : w.ownsRow base2 112 2 (.slice (some ⟨g, 0, none⟩) l2.length cap) l2.length (lnCells l2) := ⟨hlen, .inr ⟨g, cap, cur, rfl, hg, hh, hcap, hm, hs2, ht⟩⟩
    exact wpList_append_own_at w hgd s x 109 ho base 112 i0 _ 2 24 und109 hi0 hz0 hz1 hz2 rfl (by decide) v n xs hs hown ⟨g, 0, none⟩ l2.length cap (lnCells l2) hx (lnCells_len l2) (h2'.cells (g := g) rfl) (lnCells_ones l2) (by unfold maxLen; omega) (by omega) hbase (fun v' w' h3 h4 _ _ => h v' w' h3 h4)
end
theorem addr0 (g j : Nat) : ((⟨g, 0, none⟩ : Addr).add j) = ⟨g, j, none⟩ := by
  simp [Addr.add]
  try omega
/-- lines lie -/
theorem ba_assoc (a b c : ByteArray) : a ++ b ++ c = a ++ (b ++ c) := by
  apply ba_ext
  simp [ba_app]
theorem lineT_l2 (t : Nat) (s : ByteArray) : (lineT t s).data.toList = List.replicate t 9 ++ (s.data.toList ++ [10]) := by
  unfold lineT
  have e : Lib.repeatL [9] t = List.replicate t 9 := by
    have := Lib.repeatL_replicate 9 1 t
    rw [Nat.mul_one] at this
    exact this
  rw [ba_app, ba_app, e]
  simp
def LnAt (w : World) (L : List Ln) (A : Option Addr) : Prop := ∀ (k : Nat) (x : Ln), L[k]? = some x → ∃ g, A = some ⟨g, 0, none⟩ ∧ w.cell? ⟨g, k * 2, none⟩ = some (.int .i64 (x.1 : Int)) ∧ w.cell? ⟨g, k * 2 + 1, none⟩ = some (.string x.2)
theorem LnAt.below {w w' : World} {L : List Ln} {A : Option Addr} (h : LnAt w L A) (hb : Below w.heap.size w w') : LnAt w' L A := fun k x hx => by
  obtain ⟨g, e, h1, h2⟩ := h k x hx
  exact ⟨g, e, (hb.cell (p := ⟨g, k * 2, none⟩) (cell_some_lt h1)).trans h1, (hb.cell (p := ⟨g, k * 2 + 1, none⟩) (cell_some_lt h2)).trans h2⟩
theorem lnCells_get (L : List Ln) (k : Nat) (x : Ln) (h : L[k]? = some x) : (lnCells L)[k * 2]? = some (.int .i64 (x.1 : Int)) ∧ (lnCells L)[k * 2 + 1]? = some (.string x.2) := by
  induction L generalizing k with
  | nil => simp at h
  | cons y r ih =>
    have e : lnCells (y :: r) = [.int .i64 (y.1 : Int), .string y.2] ++ lnCells r := by simp [lnCells]
    rw [e]
    cases k with
    | zero => simp at h; subst h; exact ⟨rfl, rfl⟩
    | succ k =>
      have h := ih k (by simpa using h)
      rw [show (k + 1) * 2 = k * 2 + 2 by omega]
      exact ⟨by rw [List.getElem?_append_right (by simp)]; simpa using h.1, by rw [List.getElem?_append_right (by simp)]; simpa using h.2⟩
theorem lines_own {w : World} {b0 : Nat} {v : Value} {L : List Ln} (h : w.ownsRow b0 112 2 v L.length (lnCells L)) : ∃ A c, v = .slice A L.length c ∧ LnAt w L A := by
  obtain ⟨hl, hcase⟩ := h
  rcases hcase with ⟨rfl, h0⟩ | ⟨g, cap, cur, rfl, hg, hh, hcap, hm, hs, ht⟩
  · have : L = [] := List.length_eq_zero_iff.1 h0
    subst this
    exact ⟨none, 0, rfl, fun k x hx => by simp at hx⟩
  · have h2 : w.ownsRow b0 112 2 (.slice (some ⟨g, 0, none⟩) L.length cap) L.length (lnCells L) := ⟨hl, .inr ⟨g, cap, cur, rfl, hg, hh, hcap, hm, hs, ht⟩⟩
    refine ⟨_, cap, rfl, fun k x hx => ⟨g, rfl, ?_, ?_⟩⟩
    · have := h2.cells (g := g) rfl _ _ (lnCells_get L k x hx).1
      rwa [addr0] at this
    · have := h2.cells (g := g) rfl _ _ (lnCells_get L k x hx).2
      rwa [addr0] at this
theorem bytes_conv {w : World} {b0 n : Nat} {v : Value} {xs : List UInt8} (h : w.ownsRow b0 5 1 v n (Lib.byteCells xs)) : (convert 85 9 v).run Tryz.prog w = .ok (.string ⟨xs.toArray⟩) w := by
  have hl := h.1
  rw [Lib.byteCells_length] at hl
  rcases h.2 with ⟨rfl, h0⟩ | ⟨g, cap, cur, rfl, hg, hh, hcap, hm, hs, ht⟩
  · have hx : xs = [] := List.length_eq_zero_iff.1 (by omega)
    subst hx
    exact run_convert_bytes_nil (P := Tryz.prog) w 85 5 und85 u5 0 0 9 u9
  · have hn : n = xs.length := by omega
    subst hn
    refine run_convert_bytes_back (P := Tryz.prog) w 85 9 5 ⟨g, 0, none⟩ cap xs und85 u5 u9 fun j hj => ?_
    exact h.cells (g := g) rfl j _ (by simp [Lib.byteCells, hj])
theorem bytesL_app (a b : List UInt8) : Lib.byteCells (a ++ b) = Lib.byteCells a ++ Lib.byteCells b := Lib.byteCells_append a b
theorem grown_lines {w w' : World} {b0 : Nat} {v : Value} {n : Nat} {xs : List Value} (h : w.ownsRow b0 5 1 v n xs) (hg : w.grownBy w' v.ownBlock) {B : Nat} {W : World} (hB : Below B W w) (hbs : B ≤ b0) (hbw : B ≤ w.heap.size) : Below B W w' :=
  hB.grown hg hbw (fun g e => Nat.le_trans hbs (own_at h e).1)
theorem own9_below {w w' : World} {b0 : Nat} {v : Value} {n : Nat} {xs : List Value} (h : w.ownsRow b0 9 1 v n xs) (hb : Below w.heap.size w w') : w'.ownsRow b0 9 1 v n xs :=
  own_keep h fun g hg => hb.block g (own_at h hg).2
theorem grown9_below {w w' : World} {b0 : Nat} {v : Value} {n : Nat} {xs : List Value} {B : Nat} {W : World} (h : w.ownsRow b0 9 1 v n xs) (hg : w.grownBy w' v.ownBlock) (hB : Below B W w) (hbs : B ≤ b0) (hbw : B ≤ w.heap.size) : Below B W w' :=
  hB.grown hg hbw (fun g e => Nat.le_trans hbs (own_at h e).1)
theorem one_cell (w : World) (x : Value) (t : TypeId) : ∀ j u, [x][j]? = some u → (w.alloc (.cells #[x] t)).cell? ((⟨w.heap.size, 0, none⟩ : Addr).add j) = some u := cell_one_new w x t

set_option maxRecDepth 100000 in
set_option maxHeartbeats 32000000 in
theorem refText_any (w0 : World) (hE : Env w0) (p : Pg) (A B : Option Addr) (c d : Nat) (hr : CellsAt 4 cellsR w0 p.rs A) (hf : FnsAt w0 p.fs B) (hrk : ∀ q ∈ p.rs, RegOk q) (W : World) (hW : Below w0.heap.size w0 W) (hcp : cntP p ≤ 30000) (hmp : mayPg p = true) :
    Calls Tryz.prog 22 #[pgV p A c B d] W (StrPost (textP p) W) := by
  obtain ⟨W1, hW1⟩ : ∃ W1, W.alloc (.cells #[.slice A p.rs.length c, .slice B p.fs.length d] 39) = W1 := ⟨_, rfl⟩
  have hb1 : Below W.heap.size W W1 := by rw [← hW1]; exact (Below.refl _ W).alloc (Nat.le_refl _) _
  have hx1 : W1.heap[W.heap.size]? = some (.cells #[.slice A p.rs.length c, .slice B p.fs.length d] 39 (0, 0)) := by rw [← hW1]; exact heap_alloc_new _ _
  have hs1 : W1.heap.size = W.heap.size + 1 := by rw [← hW1]; simp
  unfold pgV
  have hlen := part_len hrk hf hcp (pre := linesP p) (rest := []) (by simp)
  have hlok := linesP_ok hrk hf
  have hcp0 := hcp
  unfold cntP at hcp
  obtain ⟨hmr, hmf⟩ : (∀ r ∈ p.rs, mayRg r = true) ∧ ∀ f ∈ p.fs, mayFn f = true := by
    unfold mayPg at hmp
    simpa only [Bool.and_eq_true, List.all_eq_true] using hmp
  obtain ⟨n1, hn1⟩ : ∃ n, p.rs.length = n := ⟨_, rfl⟩
  obtain ⟨n2, hn2⟩ : ∃ n, p.fs.length = n := ⟨_, rfl⟩
  rw [hn1, hn2] at hx1 hW1 ⊢
  have hn1b : n1 ≤ 30000 := by omega
  have hn2b : n2 ≤ 30000 := by omega
  have hNL : (linesP p).length ≤ 90000 := by have := hlok.1; omega
  have hcf := Lib.hid (show cntFs p.fs ≤ 30000 by omega)
  have hcr := Lib.hid (show cntR p.rs ≤ 30000 by omega)
  have hn1' := Lib.hid hn1
  have hn2' := Lib.hid hn2
  have hlen := Lib.hid hlen
  have hlok := Lib.hid hlok
  have hNL := Lib.hid hNL
  have hcpP := Lib.hid hcp0
  have hr := Lib.hid hr
  have hf := Lib.hid hf
  have hrk := Lib.hid hrk
  have hE := Lib.hid hE
  have hW := Lib.hid hW
  have hmr := Lib.hid hmr
  have hmf := Lib.hid hmf
  obtain ⟨q0, q1⟩ := box2 hx1
  have up := Lib.hid (fun (V : World) (hb : Below W.heap.size W V) => (hW.out.trans (hb.mono hW.out.size) : Below w0.heap.size w0 V))
  have hx1 := Lib.hid hx1
  have hb1 := Lib.hid hb1
  clear hcp hcp0 hn1 hn2 hmp hs1
  subst hW1
  go_enter Tryz.func22, Tryz.ntmps22
  go_wp2_with fail
  go_loopg [3, 4] n1 (fun g s3 s4 wr => ∃ k : Nat, k + g = n1 ∧ s4 = .int .i64 k ∧ wr.ownsRow (W.heap.size + 1) 112 2 s3 ((p.rs.take k).map fun r => ((0, regB r) : Ln)).length (lnCells ((p.rs.take k).map fun r => ((0, regB r) : Ln))) ∧ Below W.heap.size W wr ∧ wr.heap[W.heap.size]? = some (.cells #[.slice A n1 c, .slice B n2 d] 39 (0, 0)))
  case atStart => exact ⟨0, by omega, rfl, ⟨rfl, .inl ⟨rfl, rfl⟩⟩, hb1.out, hx1.out⟩
  case round =>
    clear q0 q1
    obtain ⟨k, hkg, rfl, ho, hb, hx39⟩ := hrel
    obtain ⟨q0, q1⟩ := box2 hx39
    have ho := Lib.hid ho
    have hb := Lib.hid hb
    have hx39 := Lib.hid hx39
    cases gk with
    | succ gz =>
      have e0 : (k : Int) < (n1 : Int) := by omega
      have hbw := Lib.hid (up.out _ hb.out)
      obtain ⟨blk, off, r, rfl, hx, hcx⟩ := (hr.out).at_ (i := k) (by rw [hn1'.out]; omega)
      have hrok := hrk.out r (List.mem_of_getElem? hx)
      have hnz : r.nm.size ≤ 30000 := by have := cntR_mem hx; have := hcr.out; omega
      have hsz1 := itoaB_size hrok.1.1 hrok.1.2
      have hsz2 := itoaB_size hrok.2.1 hrok.2.2
      have hsz3 := secB_size r.sc
      have hnxt : (p.rs.take (k + 1)).map (fun r => ((0, regB r) : Ln)) = (p.rs.take k).map (fun r => ((0, regB r) : Ln)) ++ [(0, regB r)] := by
        rw [List.take_add_one, hx, List.map_append]; rfl
      have hkl : ((p.rs.take k).map fun r => ((0, regB r) : Ln)).length ≤ 30000 := by rw [List.length_map, List.length_take]; omega
      have hreg : regB r = (⟨#[114, 101, 103, 105, 111, 110, 32]⟩ : ByteArray) ++ r.nm ++ ⟨#[32]⟩ ++ itoaB r.ad ++ ⟨#[32]⟩ ++ itoaB r.sz ++ ⟨(secT r.sc).toArray⟩ ++ ⟨#[59]⟩ := rfl
      have v0 : w0.cell? ⟨blk, off + k * 4, none⟩ = some (.string r.nm) := hcx 0 (by omega)
      have v0 := (hbw.out.cell (p := ⟨blk, off + k * 4, none⟩) (cell_some_lt v0)).trans v0
      have v1 : w0.cell? ⟨blk, off + k * 4 + 1, none⟩ = some (.int .i64 r.ad) := hcx 1 (by omega)
      have v1 := (hbw.out.cell (p := ⟨blk, off + k * 4 + 1, none⟩) (cell_some_lt v1)).trans v1
      have v2 : w0.cell? ⟨blk, off + k * 4 + 2, none⟩ = some (.int .i64 r.sz) := hcx 2 (by omega)
      have v2 := (hbw.out.cell (p := ⟨blk, off + k * 4 + 2, none⟩) (cell_some_lt v2)).trans v2
      have v3 : w0.cell? ⟨blk, off + k * 4 + 3, none⟩ = some (.bool r.sc) := hcx 3 (by omega)
      have v3 := (hbw.out.cell (p := ⟨blk, off + k * 4 + 3, none⟩) (cell_some_lt v3)).trans v3
      obtain ⟨nm, ad, sz, sc⟩ := r
      dsimp only at *
      obtain ⟨⟨o1, o2⟩, o3, o4⟩ := hrok
      dsimp only at o1 o2 o3 o4
      obtain ⟨w3, hw3⟩ : ∃ w3, wr.alloc (.cells #[.string nm, .int .i64 ad, .int .i64 sz, .bool sc] 82) = w3 := ⟨_, rfl⟩
      have hb3 : Below wr.heap.size wr w3 := by rw [← hw3]; exact (Below.refl _ wr).alloc (Nat.le_refl _) _
      have hX : w3.heap[wr.heap.size]? = some (.cells #[.string nm, .int .i64 ad, .int .i64 sz, .bool sc] 82 (0, 0)) := by rw [← hw3]; exact heap_alloc_new _ _
      have hO3 := own_go ho.out hb3
      have hB3 := Below.next hb.out hb3
      have hX39 := (hb3.block _ (blk_lt hx39.out)).trans hx39.out
      have h54a := Lib.hid (fun (V : World) (hV : Below W.heap.size W V) => itoa_any ad o1 o2 V (hE.out.below (up.out _ hV)))
      have h54b := Lib.hid (fun (V : World) (hV : Below W.heap.size W V) => itoa_any sz o3 o4 V (hE.out.below (up.out _ hV)))
      have h73 := Lib.hid (fun V => refSecret_any sc V)
      have h54a := h54a.out
      have h54b := h54b.out
      have h73 := h73.out
      unfold itoaB at *
      generalize (⟨(Lib.itoa ad).toArray⟩ : ByteArray) = I1 at *
      generalize (⟨(Lib.itoa sz).toArray⟩ : ByteArray) = I2 at *
      generalize (⟨(secT sc).toArray⟩ : ByteArray) = Z at *
      have h54a := Lib.hid h54a
      have h54b := Lib.hid h54b
      have h73 := Lib.hid h73
      obtain ⟨T, hTT⟩ : ∃ T, regB ⟨nm, ad, sz, sc⟩ = T := ⟨_, rfl⟩
      rw [hTT] at hreg hnxt
      have hT := hreg.symm
      obtain ⟨P0, hP0⟩ : ∃ P0, (p.rs.take k).map (fun r => ((0, regB r) : Ln)) = P0 := ⟨_, rfl⟩
      rw [hP0] at hnxt hO3 hkl
      have hO3 := Lib.hid hO3
      have hB3 := Lib.hid hB3
      have hX39 := Lib.hid hX39
      have hX := Lib.hid hX
      have hnxt := Lib.hid hnxt
      have hw3' := Lib.hid hw3
      have f0 := Lib.hid (fun (w : World) (hw : w.heap[wr.heap.size]? = some (.cells #[.string nm, .int .i64 ad, .int .i64 sz, .bool sc] 82 (0, 0))) => box4 hw)
      clear hreg hcx hx hb3 hw3 o1 o2 o3 o4 hTT hP0
      go_upto_region 6 with fail
      clear v0 v1 v2 v3 q0 q1
      first | rw [hw3'.out] | skip
      as_aux_lemma =>
        have hS0 : ({ w3 with drawn := w3.drawn + 1 } : World).heap[wr.heap.size]? = some (.cells #[.string nm, .int .i64 ad, .int .i64 sz, .bool sc] 82 (0, 0)) := hX.out
        have hB0 : Below W.heap.size W ({ w3 with drawn := w3.drawn + 1 } : World) := below_drew1 hB3.out
        have hO0 : ({ w3 with drawn := w3.drawn + 1 } : World).ownsRow (W.heap.size + 1) 112 2 u3 P0.length (lnCells P0) := hO3.out
        have hZ0 : ({ w3 with drawn := w3.drawn + 1 } : World).heap[W.heap.size]? = some (.cells #[.slice (some ⟨blk, off, none⟩) n1 c, .slice B n2 d] 39 (0, 0)) := hX39.out
        refine wp_region_held (S := fun w' => w'.heap[wr.heap.size]? = some (.cells #[.string nm, .int .i64 ad, .int .i64 sz, .bool sc] 82 (0, 0))) (by kernel_rfl) ?_
        generalize ({ w3 with drawn := w3.drawn + 1 } : World) = wd at hS0 hB0 hO0 hZ0 ⊢
        have hSwd := hS0
        have hBwd := hB0
        have hOwd := hO0
        have hZwd := hZ0
        clear hS0 hB0 hO0 hZ0
        refine wpAnyH_take (i := 0) (v := u3) rfl (by kernel_rfl) (by kernel_rfl) (by kernel_rfl) (fun _ _ _ h => h) (Or.inl ⟨by rfl, fun w hw => by go_simp; try omega⟩) hSwd ?_
        simp only [Act.put, List.getElem_toArray, List.getElem_cons_zero, List.getElem_cons_succ, List.setIfInBounds_toArray, List.set_cons_zero, List.set_cons_succ]
        refine wpAnyH_take (i := 1) (v := .pointer (some ⟨wr.heap.size, 0, none⟩)) rfl (by kernel_rfl) (by kernel_rfl) (by kernel_rfl) (fun _ _ _ h => h) (Or.inl ⟨by rfl, fun w hw => by go_simp; try omega⟩) hSwd ?_
        simp only [Act.put, List.getElem_toArray, List.getElem_cons_zero, List.getElem_cons_succ, List.setIfInBounds_toArray, List.set_cons_zero, List.set_cons_succ]
        refine wpAnyH_take (i := 2) (v := .string nm) rfl (by kernel_rfl) (by kernel_rfl) (by kernel_rfl) (fun _ _ _ h => h) (Or.inl ⟨by rfl, fun w hw => by obtain ⟨y0, y1, y2, y3, _⟩ := f0.out w hw; go_simp; try omega⟩) hSwd ?_
        simp only [Act.put, List.getElem_toArray, List.getElem_cons_zero, List.getElem_cons_succ, List.setIfInBounds_toArray, List.set_cons_zero, List.set_cons_succ]
        refine wpAnyH_take (i := 3) (v := .string ((⟨#[114, 101, 103, 105, 111, 110, 32]⟩ : ByteArray) ++ nm)) rfl (by kernel_rfl) (by kernel_rfl) (by kernel_rfl) (fun _ _ _ h => h) (Or.inl ⟨by rfl, fun w hw => by go_simp; try omega⟩) hSwd ?_
        simp only [Act.put, List.getElem_toArray, List.getElem_cons_zero, List.getElem_cons_succ, List.setIfInBounds_toArray, List.set_cons_zero, List.set_cons_succ]
        refine wpAnyH_take (i := 4) (v := .string ((⟨#[114, 101, 103, 105, 111, 110, 32]⟩ : ByteArray) ++ nm ++ ⟨#[32]⟩)) rfl (by kernel_rfl) (by kernel_rfl) (by kernel_rfl) (fun _ _ _ h => h) (Or.inl ⟨by rfl, fun w hw => by go_simp; try omega⟩) hSwd ?_
        simp only [Act.put, List.getElem_toArray, List.getElem_cons_zero, List.getElem_cons_succ, List.setIfInBounds_toArray, List.set_cons_zero, List.set_cons_succ]
        refine wpAnyH_take (i := 5) (v := .pointer (some ⟨wr.heap.size, 1, none⟩)) rfl (by kernel_rfl) (by kernel_rfl) (by kernel_rfl) (fun _ _ _ h => h) (Or.inl ⟨by rfl, fun w hw => by go_simp; try omega⟩) hSwd ?_
        simp only [Act.put, List.getElem_toArray, List.getElem_cons_zero, List.getElem_cons_succ, List.setIfInBounds_toArray, List.set_cons_zero, List.set_cons_succ]
        refine wpAnyH_take (i := 6) (v := .int .i64 ad) rfl (by kernel_rfl) (by kernel_rfl) (by kernel_rfl) (fun _ _ _ h => h) (Or.inl ⟨by rfl, fun w hw => by obtain ⟨y0, y1, y2, y3, _⟩ := f0.out w hw; go_simp; try omega⟩) hSwd ?_
        simp only [Act.put, List.getElem_toArray, List.getElem_cons_zero, List.getElem_cons_succ, List.setIfInBounds_toArray, List.set_cons_zero, List.set_cons_succ]
        refine wpAnyH_take (i := 10) (v := .pointer (some ⟨wr.heap.size, 2, none⟩)) rfl (by kernel_rfl) (by kernel_rfl) (by kernel_rfl) (fun _ _ _ h => h) (Or.inl ⟨by rfl, fun w hw => by go_simp; try omega⟩) hSwd ?_
        simp only [Act.put, List.getElem_toArray, List.getElem_cons_zero, List.getElem_cons_succ, List.setIfInBounds_toArray, List.set_cons_zero, List.set_cons_succ]
        refine wpAnyH_take (i := 11) (v := .int .i64 sz) rfl (by kernel_rfl) (by kernel_rfl) (by kernel_rfl) (fun _ _ _ h => h) (Or.inl ⟨by rfl, fun w hw => by obtain ⟨y0, y1, y2, y3, _⟩ := f0.out w hw; go_simp; try omega⟩) hSwd ?_
        simp only [Act.put, List.getElem_toArray, List.getElem_cons_zero, List.getElem_cons_succ, List.setIfInBounds_toArray, List.set_cons_zero, List.set_cons_succ]
        refine wpAnyH_take (i := 14) (v := .pointer (some ⟨wr.heap.size, 3, none⟩)) rfl (by kernel_rfl) (by kernel_rfl) (by kernel_rfl) (fun _ _ _ h => h) (Or.inl ⟨by rfl, fun w hw => by go_simp; try omega⟩) hSwd ?_
        simp only [Act.put, List.getElem_toArray, List.getElem_cons_zero, List.getElem_cons_succ, List.setIfInBounds_toArray, List.set_cons_zero, List.set_cons_succ]
        refine wpAnyH_take (i := 15) (v := .bool sc) rfl (by kernel_rfl) (by kernel_rfl) (by kernel_rfl) (fun _ _ _ h => h) (Or.inl ⟨by rfl, fun w hw => by obtain ⟨y0, y1, y2, y3, _⟩ := f0.out w hw; go_simp; try omega⟩) hSwd ?_
        simp only [Act.put, List.getElem_toArray, List.getElem_cons_zero, List.getElem_cons_succ, List.setIfInBounds_toArray, List.set_cons_zero, List.set_cons_succ]
        refine wpAnyH_all (rs := [7]) (by kernel_rfl) (by simp) ?_
        intro io hio
        rcases (by simpa using hio : io = 7) with rfl
        refine wpOp_call rfl (by rfl) (f := 54) (args := #[.int .i64 ad]) (by first | rfl | go_simp) (h54a.out wd hBwd) ?_
        rintro e wa ⟨rfl, hbwa⟩
        have hSwa : wa.heap[wr.heap.size]? = some (.cells #[.string nm, .int .i64 ad, .int .i64 sz, .bool sc] 82 (0, 0)) := (hbwa.block _ (blk_lt hSwd)).trans hSwd
        have hBwa := Below.next hBwd hbwa
        have hOwa := own_go hOwd hbwa
        have hZwa := (hbwa.block _ (blk_lt hZwd)).trans hZwd
        refine ⟨_, rfl, hSwa, ?_⟩
        simp only [Act.put, List.getElem_toArray, List.getElem_cons_zero, List.getElem_cons_succ, List.setIfInBounds_toArray, List.set_cons_zero, List.set_cons_succ]
        refine wpAnyH_take (i := 8) (v := .string ((⟨#[114, 101, 103, 105, 111, 110, 32]⟩ : ByteArray) ++ nm ++ ⟨#[32]⟩ ++ I1)) rfl (by kernel_rfl) (by kernel_rfl) (by kernel_rfl) (fun _ _ _ h => h) (Or.inl ⟨by rfl, fun w hw => by go_simp; try omega⟩) hSwa ?_
        simp only [Act.put, List.getElem_toArray, List.getElem_cons_zero, List.getElem_cons_succ, List.setIfInBounds_toArray, List.set_cons_zero, List.set_cons_succ]
        refine wpAnyH_take (i := 9) (v := .string ((⟨#[114, 101, 103, 105, 111, 110, 32]⟩ : ByteArray) ++ nm ++ ⟨#[32]⟩ ++ I1 ++ ⟨#[32]⟩)) rfl (by kernel_rfl) (by kernel_rfl) (by kernel_rfl) (fun _ _ _ h => h) (Or.inl ⟨by rfl, fun w hw => by go_simp; try omega⟩) hSwa ?_
        simp only [Act.put, List.getElem_toArray, List.getElem_cons_zero, List.getElem_cons_succ, List.setIfInBounds_toArray, List.set_cons_zero, List.set_cons_succ]
        refine wpAnyH_all (rs := [12]) (by kernel_rfl) (by simp) ?_
        intro io hio
        rcases (by simpa using hio : io = 12) with rfl
        refine wpOp_call rfl (by rfl) (f := 54) (args := #[.int .i64 sz]) (by first | rfl | go_simp) (h54b.out wa hBwa) ?_
        rintro e wb ⟨rfl, hbwb⟩
        have hSwb : wb.heap[wr.heap.size]? = some (.cells #[.string nm, .int .i64 ad, .int .i64 sz, .bool sc] 82 (0, 0)) := (hbwb.block _ (blk_lt hSwa)).trans hSwa
        have hBwb := Below.next hBwa hbwb
        have hOwb := own_go hOwa hbwb
        have hZwb := (hbwb.block _ (blk_lt hZwa)).trans hZwa
        refine ⟨_, rfl, hSwb, ?_⟩
        simp only [Act.put, List.getElem_toArray, List.getElem_cons_zero, List.getElem_cons_succ, List.setIfInBounds_toArray, List.set_cons_zero, List.set_cons_succ]
        refine wpAnyH_take (i := 13) (v := .string ((⟨#[114, 101, 103, 105, 111, 110, 32]⟩ : ByteArray) ++ nm ++ ⟨#[32]⟩ ++ I1 ++ ⟨#[32]⟩ ++ I2)) rfl (by kernel_rfl) (by kernel_rfl) (by kernel_rfl) (fun _ _ _ h => h) (Or.inl ⟨by rfl, fun w hw => by go_simp; try omega⟩) hSwb ?_
        simp only [Act.put, List.getElem_toArray, List.getElem_cons_zero, List.getElem_cons_succ, List.setIfInBounds_toArray, List.set_cons_zero, List.set_cons_succ]
        refine wpAnyH_all (rs := [16]) (by kernel_rfl) (by simp) ?_
        intro io hio
        rcases (by simpa using hio : io = 16) with rfl
        refine wpOp_call rfl (by rfl) (f := 73) (args := #[.bool sc]) (by first | rfl | go_simp) (h73.out wb) ?_
        rintro e we ⟨rfl, hbwe⟩
        have hSwe : we.heap[wr.heap.size]? = some (.cells #[.string nm, .int .i64 ad, .int .i64 sz, .bool sc] 82 (0, 0)) := (hbwe.block _ (blk_lt hSwb)).trans hSwb
        have hBwe := Below.next hBwb hbwe
        have hOwe := own_go hOwb hbwe
        have hZwe := (hbwe.block _ (blk_lt hZwb)).trans hZwb
        refine ⟨_, rfl, hSwe, ?_⟩
        simp only [Act.put, List.getElem_toArray, List.getElem_cons_zero, List.getElem_cons_succ, List.setIfInBounds_toArray, List.set_cons_zero, List.set_cons_succ]
        refine wpAnyH_take (i := 17) (v := .string ((⟨#[114, 101, 103, 105, 111, 110, 32]⟩ : ByteArray) ++ nm ++ ⟨#[32]⟩ ++ I1 ++ ⟨#[32]⟩ ++ I2 ++ Z)) rfl (by kernel_rfl) (by kernel_rfl) (by kernel_rfl) (fun _ _ _ h => h) (Or.inl ⟨by rfl, fun w hw => by go_simp; try omega⟩) hSwe ?_
        simp only [Act.put, List.getElem_toArray, List.getElem_cons_zero, List.getElem_cons_succ, List.setIfInBounds_toArray, List.set_cons_zero, List.set_cons_succ]
        refine wpAnyH_take (i := 18) (v := .string T) rfl (by kernel_rfl) (by kernel_rfl) (by kernel_rfl) (fun _ _ _ h => h) (Or.inl ⟨by rfl, fun w hw => by go_simp; try omega⟩) hSwe ?_
        simp only [Act.put, List.getElem_toArray, List.getElem_cons_zero, List.getElem_cons_succ, List.setIfInBounds_toArray, List.set_cons_zero, List.set_cons_succ]
        refine wpAnyH_take (i := 19) (v := .agg #[.int .i64 0, .string T]) rfl (by kernel_rfl) (by kernel_rfl) (by kernel_rfl) (fun _ _ _ h => h) (Or.inl ⟨by rfl, fun w hw => by go_simp; try omega⟩) hSwe ?_
        simp only [Act.put, List.getElem_toArray, List.getElem_cons_zero, List.getElem_cons_succ, List.setIfInBounds_toArray, List.set_cons_zero, List.set_cons_succ]
        refine wpAnyH_all (rs := [20]) (by kernel_rfl) (by simp) ?_
        intro io hio
        rcases (by simpa using hio : io = 20) with rfl
        obtain ⟨wy, hwy⟩ : ∃ wy, we.alloc (.cells #[.int .i64 0, .string T] 112) = wy := ⟨_, rfl⟩
        have hSwy : wy.heap[wr.heap.size]? = some (.cells #[.string nm, .int .i64 ad, .int .i64 sz, .bool sc] 82 (0, 0)) := by rw [← hwy]; exact (heap_alloc_old _ _ (blk_lt hSwe)).trans hSwe
        have hBwy : Below W.heap.size W wy := by rw [← hwy]; exact hBwe.alloc hBwe.size _
        have hZwy : wy.heap[W.heap.size]? = some (.cells #[.slice (some ⟨blk, off, none⟩) n1 c, .slice B n2 d] 39 (0, 0)) := by rw [← hwy]; exact (heap_alloc_old _ _ (blk_lt hZwe)).trans hZwe
        have hNwy : ∀ j u, [Value.int .i64 0, .string T][j]? = some u → wy.cell? ((⟨we.heap.size, 0, none⟩ : Addr).add j) = some u := by rw [← hwy]; exact two_cells _ _ _ _
        have hOwy : wy.ownsRow (W.heap.size + 1) 112 2 u3 P0.length (lnCells P0) := by rw [← hwy]; exact World.ownsRow.alloc hOwe _
        have hb39 : W.heap.size + 1 ≤ wy.heap.size := blk_lt hZwy
        refine wpOp_ran (w' := wy) (v := .slice (some ⟨we.heap.size, 0, none⟩) 1 1) rfl (by rfl) (by rw [← hwy]; first | rfl | (unfold execOp; go_simp; rfl) | go_simp) ⟨hSwy, ?_⟩
        simp only [Act.put, List.getElem_toArray, List.getElem_cons_zero, List.getElem_cons_succ, List.setIfInBounds_toArray, List.set_cons_zero, List.set_cons_succ]
        refine wpAnyH_all (rs := [21]) (by kernel_rfl) (by simp) ?_
        intro io hio
        rcases (by simpa using hio : io = 21) with rfl
        refine wpOp_append (ad := ⟨we.heap.size, 0, none⟩) (m := 1) (c := 1) (news := [.int .i64 0, .string T]) rfl (by rfl) rfl rfl hOwy rfl rfl hNwy (lnCells_ones [(0, T)]) (by omega) hb39 ?_
        intro v1 wz hPwz hgwz
        have hSwz := grown_keep hOwy hgwz hSwy (by intro cs fr e; cases e)
        have hZwz := grown_keep hOwy hgwz hZwy (by intro cs fr e; cases e)
        have hBwz := grown_below hOwy hgwz hBwy (by omega) hBwy.size
        refine ⟨hSwz, ?_⟩
        simp only [Act.put, List.getElem_toArray, List.getElem_cons_zero, List.getElem_cons_succ, List.setIfInBounds_toArray, List.set_cons_zero, List.set_cons_succ]
        refine wpAnyH_take (i := 22) (v := v1) rfl (by kernel_rfl) (by kernel_rfl) (by kernel_rfl) (fun _ _ _ h => h) (Or.inl ⟨by rfl, fun w hw => by go_simp; try omega⟩) hSwz ?_
        simp only [Act.put, List.getElem_toArray, List.getElem_cons_zero, List.getElem_cons_succ, List.setIfInBounds_toArray, List.set_cons_zero, List.set_cons_succ]
        refine wpAnyH_done (by kernel_rfl) ?_ _
        have hO1 := Lib.hid (own_last (t := 0) hPwz)
        have hB1 := Lib.hid hBwz
        have hZ1 := Lib.hid hZwz
        go_wp2
        go_roundg gz
        case measure => omega
        case rel => exact ⟨k + 1, by omega, by go_num, by rw [hnxt.out]; exact hO1.out, hB1.out, hZ1.out⟩
    | zero =>
      have e0 : ¬ (k : Int) < (n1 : Int) := by omega
      have hfin := Lib.hid (show p.rs.take k = p.rs by rw [List.take_of_length_le (by rw [hn1'.out]; omega)])
      obtain ⟨RL, hRL⟩ : ∃ RL, p.rs.map (fun r => ((0, regB r) : Ln)) = RL := ⟨_, rfl⟩
      have ho2 := ho.out
      rw [hfin.out, hRL] at ho2
      have ho2 := Lib.hid ho2
      have hRL := Lib.hid hRL
      clear ho hfin
      go_wp2_with fail
      go_loopg [3, 6] n2 (fun g s3 s6 wr => ∃ i : Nat, i + g = n2 ∧ s6 = .int .i64 i ∧ wr.ownsRow (W.heap.size + 1) 112 2 s3 (RL ++ linesFs (p.fs.take i)).length (lnCells (RL ++ linesFs (p.fs.take i))) ∧ Below W.heap.size W wr ∧ wr.heap[W.heap.size]? = some (.cells #[.slice A n1 c, .slice B n2 d] 39 (0, 0)))
      case atStart => exact ⟨0, by omega, rfl, by simpa [linesFs] using ho2.out, hb.out, hx39.out⟩
      case round =>
        clear q0 q1 e0 hkg
        have hbz := hb
        clear hb hx39 ho2 hbz
        obtain ⟨i, hkg, rfl, ho, hb, hx39⟩ := hrel
        obtain ⟨q0, q1⟩ := box2 hx39
        have ho := Lib.hid ho
        have hb := Lib.hid hb
        have hx39 := Lib.hid hx39
        cases gk with
        | succ gz =>
          skip
          have e0 : (i : Int) < (n2 : Int) := by omega
          have hbw := Lib.hid (up.out _ hb.out)
          obtain ⟨blk, off, x, r, rfl, hx, hcx, hnow⟩ := hf.out.at_ (k := i) (by rw [hn2'.out]; omega)
          have hxm := hmf.out x (List.mem_of_getElem? hx)
          unfold mayFn at hxm
          simp only [Bool.and_eq_true] at hxm
          obtain ⟨m1, m2, m3, m4, m5⟩ := hxm
          have hmy : maySs x.bd = true := by
            unfold mayT at m5
            rw [Bool.and_eq_true] at m5
            exact m5.2
          have hcF : cntF x ≤ 30000 := by
            have h1 := cntFs_take i hx
            have h2 : cntFs (p.fs.take (i + 1)) ≤ cntFs p.fs := by
              have e : ∀ (L : List Fn) (k : Nat), cntFs (L.take k) ≤ cntFs L := fun L => by
                induction L with
                | nil => intro k; simp [cntFs]
                | cons f l ihl => intro k; cases k with
                  | zero => simp [cntFs]
                  | succ k => rw [List.take_succ_cons, cntFs, cntFs]; have := ihl k; omega
              exact e _ _
            have h3 := hcf.out
            omega
          have hF := hcF
          unfold cntF at hF
          have hnxt : linesFs (p.fs.take (i + 1)) = linesFs (p.fs.take i) ++ linesF x := linesFs_take hx
          have hsplit : (RL ++ linesFs (p.fs.take i)).length + (linesF x).length ≤ 90000 := by
            have h1 : RL ++ linesFs (p.fs.take i) ++ (linesF x ++ linesFs (p.fs.drop (i + 1))) = linesP p := by
              unfold linesP
              rw [hRL.out]
              have hk : i < p.fs.length := (List.getElem?_eq_some_iff.1 hx).1
              have e : p.fs = p.fs.take i ++ (x :: p.fs.drop (i + 1)) := by
                have h2 : p.fs.drop i = x :: p.fs.drop (i + 1) := by
                  rw [List.drop_eq_getElem_cons hk]
                  congr 1
                  exact Option.some.inj ((List.getElem?_eq_getElem hk).symm.trans hx)
                rw [← h2, List.take_append_drop]
              conv => rhs; rw [e]
              simp [linesFs]
            have h2 := hNL.out
            rw [← h1] at h2
            simp only [List.length_append] at h2 ⊢
            omega
          obtain ⟨P0, hP0⟩ : ∃ P0, RL ++ linesFs (p.fs.take i) = P0 := ⟨_, rfl⟩
          have hnxt2 : RL ++ linesFs (p.fs.take (i + 1)) = P0 ++ linesF x := by rw [hnxt, ← hP0, List.append_assoc]
          have hO1 := ho.out
          rw [hP0] at hsplit hO1
          obtain ⟨LB, hLB⟩ : ∃ LB, linesL 1 x.bd = LB := ⟨_, rfl⟩
          have hlf : linesF x = (0, fnB x) :: (x.vs.map (fun v => ((1, varB v) : Ln)) ++ (LB ++ [(0, endB)])) := by
            unfold linesF
            rw [hLB]
          rw [hlf] at hsplit hnxt2
          simp only [List.length_cons, List.length_append, List.length_nil, List.length_map] at hsplit
          obtain ⟨nmx, psx, vsx, rsx, bdx, psA, vsA, rsA, bdA, psK, vsK⟩ : r.nm = x.nm ∧ r.ps.n = x.ps.length ∧ r.vs.n = x.vs.length ∧ r.rs.n = x.rs.length ∧ r.bd.n = x.bd.length ∧ CellsAt 4 cellsV w0 x.ps r.ps.a ∧ CellsAt 4 cellsV w0 x.vs r.vs.a ∧ CellsAt 1 cellsS w0 x.rs r.rs.a ∧ StsAt w0 x.bd r.bd.a ∧ (∀ v ∈ x.ps, VarOk v) ∧ ∀ v ∈ x.vs, VarOk v :=
            ⟨hnow.nm, hnow.ps, hnow.vs, hnow.rs, hnow.bd, hnow.psA, hnow.vsA, hnow.rsA, hnow.bdA, hnow.psK, hnow.vsK⟩
          obtain ⟨nm, ⟨pA, pn, pc⟩, ⟨vA, vn, vc⟩, ⟨sA, sn, sc⟩, ⟨bA, bn, bc⟩⟩ := r
          dsimp only at nmx psx vsx rsx bdx psA vsA rsA bdA
          have v0 : w0.cell? ⟨blk, off + i * 5, none⟩ = some (.string nm) := hcx 0 (by omega)
          have v0 := (hbw.out.cell (p := ⟨blk, off + i * 5, none⟩) (cell_some_lt v0)).trans v0
          have v1 : w0.cell? ⟨blk, off + i * 5 + 1, none⟩ = some (.slice pA pn pc) := hcx 1 (by omega)
          have v1 := (hbw.out.cell (p := ⟨blk, off + i * 5 + 1, none⟩) (cell_some_lt v1)).trans v1
          have v2 : w0.cell? ⟨blk, off + i * 5 + 2, none⟩ = some (.slice vA vn vc) := hcx 2 (by omega)
          have v2 := (hbw.out.cell (p := ⟨blk, off + i * 5 + 2, none⟩) (cell_some_lt v2)).trans v2
          have v3 : w0.cell? ⟨blk, off + i * 5 + 3, none⟩ = some (.slice sA sn sc) := hcx 3 (by omega)
          have v3 := (hbw.out.cell (p := ⟨blk, off + i * 5 + 3, none⟩) (cell_some_lt v3)).trans v3
          have v4 : w0.cell? ⟨blk, off + i * 5 + 4, none⟩ = some (.slice bA bn bc) := hcx 4 (by omega)
          have v4 := (hbw.out.cell (p := ⟨blk, off + i * 5 + 4, none⟩) (cell_some_lt v4)).trans v4
          obtain ⟨w3, hw3⟩ : ∃ w3, wr.alloc (.cells #[.string nm, .slice pA pn pc, .slice vA vn vc, .slice sA sn sc, .slice bA bn bc] 54) = w3 := ⟨_, rfl⟩
          have hb3 : Below wr.heap.size wr w3 := by rw [← hw3]; exact (Below.refl _ wr).alloc (Nat.le_refl _) _
          have hX : w3.heap[wr.heap.size]? = some (.cells #[.string nm, .slice pA pn pc, .slice vA vn vc, .slice sA sn sc, .slice bA bn bc] 54 (0, 0)) := by rw [← hw3]; exact heap_alloc_new _ _
          obtain ⟨y0, y1, y2, y3, y4⟩ := box5 hX
          have hO3 := own_go hO1 hb3
          have hB3 := Below.next hb.out hb3
          have hX39 := (hb3.block _ (blk_lt hx39.out)).trans hx39.out
          have hzb : W.heap.size < wr.heap.size := blk_lt hx39.out
          obtain ⟨x3, hx3⟩ : ∃ x3, wr.heap.size = x3 := ⟨_, rfl⟩
          have s1 := listP_size x.ps
          have s2 := listT_le x.rs
          have s3 := cntN_params x.ps
          have hnz : nm.size ≤ 30000 := by rw [nmx]; omega
          have h74 : ∀ (V : World), Below W.heap.size W V → Calls Tryz.prog 74 #[.slice sA sn sc] V (StrPost (listT x.rs) V) := fun V hV => by
            rw [rsx]
            exact refList_any w0 x.rs sA rsA sc V (up.out V hV) (by omega)
          have hvs : ∀ (j : Nat) (v : VarC), x.vs[j]? = some v → ∀ V, Below W.heap.size W V → Calls Tryz.prog 75 #[vlV v] V (StrPost (varB v) V) := fun j v hv V hV =>
            refVar75_any v V (hE.out.below (up.out V hV)) (by have := cntV_mem hv; omega) (vsK v (List.mem_of_getElem? hv)) (by rw [List.all_eq_true] at m3; exact m3 v (List.mem_of_getElem? hv))
          have h76 : ∀ V, Below W.heap.size W V → Calls Tryz.prog 76 #[.slice bA bn bc, .int .i64 1] V (LinesPost LB V) := fun V hV => by
            rw [bdx, ← hLB]
            exact refLines_any w0 hE.out x.bd bA bdA 1 bc V (by omega) hmy (by omega) (up.out V hV)
          have hpn : pn ≤ 30000 := by rw [psx]; have := len_cntV x.ps; omega
          have hvn : vn ≤ 30000 := by rw [vsx]; have := len_cntV x.vs; omega
          have hz1 : (listT (x.ps.map paramB)).size ≤ 300000 := by omega
          have hz2 : (listT x.rs).size ≤ 100000 := by omega
          have hcn : cntN (x.ps.map paramB) ≤ 100000000 := by omega
          have hpz : ∀ (j : Nat) (v : VarC), x.ps[j]? = some v → v.nm.size ≤ 30000 := fun j v hv => by have := cntV_mem hv; omega
          have hH : (⟨#[102, 110, 32]⟩ : ByteArray) ++ nm ++ ⟨#[40]⟩ ++ listT (x.ps.map paramB) ++ ⟨#[41]⟩ = fnHd x := by unfold fnHd; rw [nmx]
          have hHz : (fnHd x).size ≤ 400000 := by
            have z1 : (⟨#[102, 110, 32]⟩ : ByteArray).size = 3 := rfl
            have z2 : (⟨#[40]⟩ : ByteArray).size = 1 := rfl
            have z3 : (⟨#[41]⟩ : ByteArray).size = 1 := rfl
            rw [← hH]
            simp only [ByteArray.size_append]
            omega
          have hR : (if sn = 0 then fnHd x else fnHd x ++ ((⟨#[32, 45, 62, 32]⟩ : ByteArray) ++ listT x.rs)) = fnRt x := by unfold fnRt; rw [rsx]
          have hRz : (fnRt x).size ≤ 600000 := by
            have z1 : (⟨#[32, 45, 62, 32]⟩ : ByteArray).size = 4 := rfl
            rw [← hR]
            split
            · omega
            · simp only [ByteArray.size_append]; omega
          have hFB : fnRt x ++ ⟨#[32, 123]⟩ = fnB x := rfl
          generalize hLP : listT (x.ps.map paramB) = LP at hz1 hH
          generalize hLR : listT x.rs = LR at h74 hz2 hR
          generalize fnHd x = HD at hH hHz hR
          generalize fnRt x = RT at hR hRz hFB
          generalize fnB x = FB at hFB hnxt2
          have hsplit : P0.length + (1 + (vn + (LB.length + 1))) ≤ 90000 := by rw [vsx]; omega
          have hnxt2 := Lib.hid hnxt2
          have hLP := Lib.hid hLP
          have hO3 := Lib.hid hO3
          have hB3 := Lib.hid hB3
          have hX39 := Lib.hid hX39
          have h74 := Lib.hid h74
          have hvs := Lib.hid hvs
          have h76 := Lib.hid h76
          have hR := Lib.hid hR
          have hpsA := Lib.hid psA
          have hvsA := Lib.hid vsA
          have hx3' := Lib.hid hx3
          have hzb := Lib.hid hzb
          have hw3' := Lib.hid hw3
          have hvsx := Lib.hid vsx
          have hpsx := Lib.hid psx
          have hcn := Lib.hid hcn
          have hpz := Lib.hid hpz
          have hfb := Lib.hid hFB
          rw [hx3] at hX y0 y1 y2 y3 y4
          have hX := Lib.hid hX
          clear hcx hx hnow m1 m2 m3 m4 m5 hF hcF hnxt hlf psx vsx rsx bdx psA vsA rsA bdA psK vsK s1 s2 s3 hb3 hO1 hP0 hLR nmx hFB hmy hLB
          obtain ⟨wo, rfl⟩ : ∃ wo, wr = wo := ⟨_, rfl⟩
          go_wp2_with fail
          clear v0 v1 v2 v3 v4
          go_loopg [8, 9] pn (fun g s8 s9 wx => ∃ j : Nat, j + g = pn ∧ s9 = .int .i64 j ∧ wx.ownsRow w3.heap.size 9 1 s8 j (sCells ((x.ps.take j).map paramB)) ∧ Below w3.heap.size w3 wx)
          case atStart => exact ⟨0, by omega, rfl, ⟨rfl, .inl ⟨rfl, rfl⟩⟩, by first | exact Below.refl _ _ | (rw [hw3'.out]; exact Below.refl _ _)⟩
          case round =>
            obtain ⟨j, hjg, rfl, ho9, hb9⟩ := hrel
            have hX9 := (hb9.block _ (blk_lt hX.out)).trans hX.out
            clear y0 y1 y2 y3 y4
            obtain ⟨y0, y1, y2, y3, y4⟩ := box5 hX9
            have ho9 := Lib.hid ho9
            have hb9 := Lib.hid hb9
            cases gk with
            | succ gj =>
              have e1 : (j : Int) < (pn : Int) := by omega
              have hbw9 := Lib.hid (up.out _ (Below.next hB3.out hb9.out))
              obtain ⟨blk2, off2, v, rfl, hv, hcv⟩ := (hpsA.out).at_ (i := j) (by rw [← hpsx.out]; omega)
              have hvz := hpz.out j v hv
              have hnx : (x.ps.take (j + 1)).map paramB = (x.ps.take j).map paramB ++ [paramB v] := by
                rw [List.take_add_one, hv, List.map_append]; rfl
              have v0 : w0.cell? ⟨blk2, off2 + j * 4, none⟩ = some (.string v.nm) := hcv 0 (by omega)
              have v3 : w0.cell? ⟨blk2, off2 + j * 4 + 3, none⟩ = some (.bool v.sc) := hcv 3 (by omega)
              have f0 := Lib.hid (fun (V : World) (hV : Below w3.heap.size w3 V) => ((up.out _ (Below.next hB3.out hV)).cell (p := ⟨blk2, off2 + j * 4, none⟩) (cell_some_lt v0)).trans v0)
              have f3 := Lib.hid (fun (V : World) (hV : Below w3.heap.size w3 V) => ((up.out _ (Below.next hB3.out hV)).cell (p := ⟨blk2, off2 + j * 4 + 3, none⟩) (cell_some_lt v3)).trans v3)
              have fX := Lib.hid (fun (V : World) (hV : Below w3.heap.size w3 V) => (box5 ((hV.block _ (blk_lt hX.out)).trans hX.out)).2.1)
              have h73 := fun V => refSecret_any v.sc V
              have hsz3 := secB_size v.sc
              have hPB : v.nm ++ ⟨(secT v.sc).toArray⟩ = paramB v := rfl
              generalize (⟨(secT v.sc).toArray⟩ : ByteArray) = Z at h73 hsz3 hPB
              generalize paramB v = T at hPB hnx
              have h73 := Lib.hid h73
              have hnx := Lib.hid hnx
              clear v0 v3 hcv hv
              go_upto_region 15 with fail
              clear y0 y1 y2 y3 y4 q0 q1
              as_aux_lemma =>
                have hS0 : Below w3.heap.size w3 ({ wr with drawn := wr.drawn + 1 } : World) := below_drew1 hb9.out
                have hO0 : ({ wr with drawn := wr.drawn + 1 } : World).ownsRow w3.heap.size 9 1 u8 j (sCells ((x.ps.take j).map paramB)) := ho9.out
                refine wp_region_held (S := fun w' => Below w3.heap.size w3 w') (by kernel_rfl) ?_
                generalize ({ wr with drawn := wr.drawn + 1 } : World) = wd at hS0 hO0 ⊢
                have hSwd := hS0
                have hOwd := hO0
                clear hS0 hO0
                refine wpAnyH_take (i := 0) (v := u8) rfl (by kernel_rfl) (by kernel_rfl) (by kernel_rfl) (fun _ _ _ h => h) (Or.inl ⟨by rfl, fun w hw => by go_simp; try omega⟩) hSwd ?_
                simp only [Act.put, List.getElem_toArray, List.getElem_cons_zero, List.getElem_cons_succ, List.setIfInBounds_toArray, List.set_cons_zero, List.set_cons_succ]
                refine wpAnyH_take (i := 1) (v := .pointer (some ⟨x3, 1, none⟩)) rfl (by kernel_rfl) (by kernel_rfl) (by kernel_rfl) (fun _ _ _ h => h) (Or.inl ⟨by rfl, fun w hw => by go_simp; try omega⟩) hSwd ?_
                simp only [Act.put, List.getElem_toArray, List.getElem_cons_zero, List.getElem_cons_succ, List.setIfInBounds_toArray, List.set_cons_zero, List.set_cons_succ]
                refine wpAnyH_take (i := 2) (v := .slice (some ⟨blk2, off2, none⟩) pn pc) rfl (by kernel_rfl) (by kernel_rfl) (by kernel_rfl) (fun _ _ _ h => h) (Or.inl ⟨by rfl, fun w hw => by have c := fX.out w hw; go_simp; try omega⟩) hSwd ?_
                simp only [Act.put, List.getElem_toArray, List.getElem_cons_zero, List.getElem_cons_succ, List.setIfInBounds_toArray, List.set_cons_zero, List.set_cons_succ]
                refine wpAnyH_take (i := 3) (v := .int .i64 j) rfl (by kernel_rfl) (by kernel_rfl) (by kernel_rfl) (fun _ _ _ h => h) (Or.inl ⟨by rfl, fun w hw => by go_simp; try omega⟩) hSwd ?_
                simp only [Act.put, List.getElem_toArray, List.getElem_cons_zero, List.getElem_cons_succ, List.setIfInBounds_toArray, List.set_cons_zero, List.set_cons_succ]
                refine wpAnyH_take (i := 4) (v := .pointer (some ⟨blk2, off2 + j * 4, none⟩)) rfl (by kernel_rfl) (by kernel_rfl) (by kernel_rfl) (fun _ _ _ h => h) (Or.inl ⟨by rfl, fun w hw => by go_simp; try omega⟩) hSwd ?_
                simp only [Act.put, List.getElem_toArray, List.getElem_cons_zero, List.getElem_cons_succ, List.setIfInBounds_toArray, List.set_cons_zero, List.set_cons_succ]
                refine wpAnyH_take (i := 5) (v := .pointer (some ⟨blk2, off2 + j * 4, none⟩)) rfl (by kernel_rfl) (by kernel_rfl) (by kernel_rfl) (fun _ _ _ h => h) (Or.inl ⟨by rfl, fun w hw => by go_simp; try omega⟩) hSwd ?_
                simp only [Act.put, List.getElem_toArray, List.getElem_cons_zero, List.getElem_cons_succ, List.setIfInBounds_toArray, List.set_cons_zero, List.set_cons_succ]
                refine wpAnyH_take (i := 6) (v := .string v.nm) rfl (by kernel_rfl) (by kernel_rfl) (by kernel_rfl) (fun _ _ _ h => h) (Or.inl ⟨by rfl, fun w hw => by have c := f0.out w hw; go_simp; try omega⟩) hSwd ?_
                simp only [Act.put, List.getElem_toArray, List.getElem_cons_zero, List.getElem_cons_succ, List.setIfInBounds_toArray, List.set_cons_zero, List.set_cons_succ]
                refine wpAnyH_take (i := 7) (v := .pointer (some ⟨x3, 1, none⟩)) rfl (by kernel_rfl) (by kernel_rfl) (by kernel_rfl) (fun _ _ _ h => h) (Or.inl ⟨by rfl, fun w hw => by go_simp; try omega⟩) hSwd ?_
                simp only [Act.put, List.getElem_toArray, List.getElem_cons_zero, List.getElem_cons_succ, List.setIfInBounds_toArray, List.set_cons_zero, List.set_cons_succ]
                refine wpAnyH_take (i := 8) (v := .slice (some ⟨blk2, off2, none⟩) pn pc) rfl (by kernel_rfl) (by kernel_rfl) (by kernel_rfl) (fun _ _ _ h => h) (Or.inl ⟨by rfl, fun w hw => by have c := fX.out w hw; go_simp; try omega⟩) hSwd ?_
                simp only [Act.put, List.getElem_toArray, List.getElem_cons_zero, List.getElem_cons_succ, List.setIfInBounds_toArray, List.set_cons_zero, List.set_cons_succ]
                refine wpAnyH_take (i := 9) (v := .int .i64 j) rfl (by kernel_rfl) (by kernel_rfl) (by kernel_rfl) (fun _ _ _ h => h) (Or.inl ⟨by rfl, fun w hw => by go_simp; try omega⟩) hSwd ?_
                simp only [Act.put, List.getElem_toArray, List.getElem_cons_zero, List.getElem_cons_succ, List.setIfInBounds_toArray, List.set_cons_zero, List.set_cons_succ]
                refine wpAnyH_take (i := 10) (v := .pointer (some ⟨blk2, off2 + j * 4, none⟩)) rfl (by kernel_rfl) (by kernel_rfl) (by kernel_rfl) (fun _ _ _ h => h) (Or.inl ⟨by rfl, fun w hw => by go_simp; try omega⟩) hSwd ?_
                simp only [Act.put, List.getElem_toArray, List.getElem_cons_zero, List.getElem_cons_succ, List.setIfInBounds_toArray, List.set_cons_zero, List.set_cons_succ]
                refine wpAnyH_take (i := 11) (v := .pointer (some ⟨blk2, off2 + j * 4 + 3, none⟩)) rfl (by kernel_rfl) (by kernel_rfl) (by kernel_rfl) (fun _ _ _ h => h) (Or.inl ⟨by rfl, fun w hw => by go_simp; try omega⟩) hSwd ?_
                simp only [Act.put, List.getElem_toArray, List.getElem_cons_zero, List.getElem_cons_succ, List.setIfInBounds_toArray, List.set_cons_zero, List.set_cons_succ]
                refine wpAnyH_take (i := 12) (v := .bool v.sc) rfl (by kernel_rfl) (by kernel_rfl) (by kernel_rfl) (fun _ _ _ h => h) (Or.inl ⟨by rfl, fun w hw => by have c := f3.out w hw; go_simp; try omega⟩) hSwd ?_
                simp only [Act.put, List.getElem_toArray, List.getElem_cons_zero, List.getElem_cons_succ, List.setIfInBounds_toArray, List.set_cons_zero, List.set_cons_succ]
                refine wpAnyH_all (rs := [13]) (by kernel_rfl) (by simp) ?_
                intro io hio
                rcases (by simpa using hio : io = 13) with rfl
                refine wpOp_call rfl (by rfl) (f := 73) (args := #[.bool v.sc]) (by first | rfl | go_simp) (h73.out wd) ?_
                rintro e wa ⟨rfl, hbwa⟩
                have hSwa := Below.next hSwd hbwa
                have hOwa := own9_below hOwd hbwa
                refine ⟨_, rfl, hSwa, ?_⟩
                simp only [Act.put, List.getElem_toArray, List.getElem_cons_zero, List.getElem_cons_succ, List.setIfInBounds_toArray, List.set_cons_zero, List.set_cons_succ]
                refine wpAnyH_take (i := 14) (v := .string T) rfl (by kernel_rfl) (by kernel_rfl) (by kernel_rfl) (fun _ _ _ h => h) (Or.inl ⟨by rfl, fun w hw => by go_simp; try omega⟩) hSwa ?_
                simp only [Act.put, List.getElem_toArray, List.getElem_cons_zero, List.getElem_cons_succ, List.setIfInBounds_toArray, List.set_cons_zero, List.set_cons_succ]
                refine wpAnyH_all (rs := [15]) (by kernel_rfl) (by simp) ?_
                intro io hio
                rcases (by simpa using hio : io = 15) with rfl
                obtain ⟨wy, hwy⟩ : ∃ wy, wa.alloc (.cells #[.string T] 9) = wy := ⟨_, rfl⟩
                have hSwy : Below w3.heap.size w3 wy := by rw [← hwy]; exact hSwa.alloc hSwa.size _
                have hNwy : ∀ j u, [Value.string T][j]? = some u → wy.cell? ((⟨wa.heap.size, 0, none⟩ : Addr).add j) = some u := by rw [← hwy]; exact one_cell _ _ _
                have hOwy : wy.ownsRow w3.heap.size 9 1 u8 j (sCells ((x.ps.take j).map paramB)) := by rw [← hwy]; exact World.ownsRow.alloc hOwa _
                refine wpOp_ran (w' := wy) (v := .slice (some ⟨wa.heap.size, 0, none⟩) 1 1) rfl (by rfl) (by rw [← hwy]; first | rfl | (unfold execOp; go_simp; rfl) | go_simp) ⟨hSwy, ?_⟩
                simp only [Act.put, List.getElem_toArray, List.getElem_cons_zero, List.getElem_cons_succ, List.setIfInBounds_toArray, List.set_cons_zero, List.set_cons_succ]
                refine wpAnyH_all (rs := [16]) (by kernel_rfl) (by simp) ?_
                intro io hio
                rcases (by simpa using hio : io = 16) with rfl
                refine wpOp_append9 (ad := ⟨wa.heap.size, 0, none⟩) (c := 1) (u := T) rfl (by rfl) rfl rfl hOwy rfl hNwy (by omega) hSwy.size ?_
                intro v1 wz hPwz hgwz
                have hSwz := grown9_below hOwy hgwz hSwy (Nat.le_refl _) hSwy.size
                refine ⟨hSwz, ?_⟩
                simp only [Act.put, List.getElem_toArray, List.getElem_cons_zero, List.getElem_cons_succ, List.setIfInBounds_toArray, List.set_cons_zero, List.set_cons_succ]
                refine wpAnyH_take (i := 17) (v := v1) rfl (by kernel_rfl) (by kernel_rfl) (by kernel_rfl) (fun _ _ _ h => h) (Or.inl ⟨by rfl, fun w hw => by go_simp; try omega⟩) hSwz ?_
                simp only [Act.put, List.getElem_toArray, List.getElem_cons_zero, List.getElem_cons_succ, List.setIfInBounds_toArray, List.set_cons_zero, List.set_cons_succ]
                refine wpAnyH_done (by kernel_rfl) ?_ _
                have hO1 := Lib.hid (show wz.ownsRow w3.heap.size 9 1 v1 (j + 1) (sCells ((x.ps.take (j + 1)).map paramB)) by rw [hnx.out]; simpa [sCells] using hPwz)
                have hB1 := Lib.hid hSwz
                go_wp2
                go_roundg gj
                case measure => omega
                case rel => exact ⟨j + 1, by omega, by go_num, hO1.out, hB1.out⟩
            | zero =>
              have e1 : ¬ (j : Int) < (pn : Int) := by omega
              have hfin := Lib.hid (show x.ps.take j = x.ps by rw [List.take_of_length_le (by rw [← hpsx.out]; omega)])
              have ho8 := ho9.out
              rw [hfin.out] at ho8
              obtain ⟨A8, c8, rfl, hcl⟩ := names_own ho8 (by rw [List.length_map, ← hpsx.out]; omega)
              have h74p := refList_any wr (x.ps.map paramB) A8 hcl c8
              rw [hLP.out, List.length_map] at h74p
              have h74s := Lib.hid (fun s : Sub wr => h74p s.val s.property hcn.out)
              have hOl := Lib.hid (own_go hO3.out hb9.out)
              have hBl := Lib.hid (Below.next hB3.out hb9.out)
              have hZl := Lib.hid ((hb9.out.block _ (blk_lt hX39.out)).trans hX39.out)
              have hXl := Lib.hid hX9
              clear ho9 ho8 hcl h74p hfin
              go_wp2_with fail
              clear q0 q1
              have c0 := Sub.cell y0
              refine wp_region_below (by kernel_rfl) (by kernel_rfl) ?_
              repeat (go_big_quiet_step ((go_at_call 74; with_reducible exact Sub.call (h74s.out _))))
              refine wpQuiet_nil ?_
              rintro w4 ⟨s4, hs4⟩
              have hb4 := hs4 ▸ s4.property
              clear hs4 s4 y0 y1 y2 y3 y4 c0
              have hO4 := Lib.hid (own_go hOl.out hb4)
              have hB4 := Lib.hid (Below.next hBl.out hb4)
              have hZ4 := Lib.hid ((hb4.block _ (blk_lt hZl.out)).trans hZl.out)
              have hX4 := Lib.hid ((hb4.block _ (blk_lt hXl.out)).trans hXl.out)
              clear hb4 h74s hOl hBl hZl hXl hX9
              obtain ⟨y0, y1, y2, y3, y4⟩ := box5 hX4.out
              go_upto_if 96 with fail
              go_cut [10] from 92 to 102 (fun s10 wx => s10 = .string RT ∧ Below w4.heap.size w4 wx)
              case first =>
                by_cases hn0 : sn = 0
                · have e2 : ¬ (0 : Int) < (sn : Int) := by omega
                  have hRR := Lib.hid (show HD = RT by have := hR.out; rw [if_pos hn0] at this; exact this)
                  clear hn0
                  go_wp2_with fail
                  go_meet
                  case rel => exact ⟨by rw [hRR.out], Below.refl _ _⟩
                · have e2 : (0 : Int) < (sn : Int) := by omega
                  have hRR' := Lib.hid (show HD ++ ((⟨#[32, 45, 62, 32]⟩ : ByteArray) ++ LR) = RT by have := hR.out; rw [if_neg hn0] at this; exact this)
                  clear hn0
                  go_wp2_with fail
                  refine (h74.out _ hB4.out).mono ?_
                  rintro e w5 ⟨rfl, hb5⟩
                  have hb5 := Lib.hid hb5
                  clear y0 y1 y2 y3 y4
                  go_wp2_with fail
                  go_meet
                  case rel => exact ⟨by rw [← hRR'.out, ba_assoc], hb5.out⟩
              case rest =>
                obtain ⟨rfl, hbc⟩ := hcut
                have hO5 := own_go hO4.out hbc
                have hB5 := Below.next hB4.out hbc
                have hZ5 := (hbc.block _ (blk_lt hZ4.out)).trans hZ4.out
                have hX5 := (hbc.block _ (blk_lt hX4.out)).trans hX4.out
                have hFB := hfb.out
                clear y0 y1 y2 y3 y4 hbc hO4 hB4 hZ4 hX4
                have hownm := Lib.hid (World.ownsRow.alloc hO5 (.cells #[.int .i64 0, .string FB] 112))
                have hnewm := Lib.hid (two_cells wc (.int .i64 0) (.string FB) 112)
                have hbAm := Lib.hid ((hB5).alloc (hB5).size (.cells #[.int .i64 0, .string FB] 112))
                have honem := Lib.hid (lnCells_ones [(0, FB)])
                have hzAm := Lib.hid ((heap_alloc_old wc (.cells #[.int .i64 0, .string FB] 112) (blk_lt hZ5)).trans hZ5)
                have hxAm := Lib.hid ((heap_alloc_old wc (.cells #[.int .i64 0, .string FB] 112) (blk_lt hX5)).trans hX5)
                have hbsm := Lib.hid (show W.heap.size + 1 ≤ (wc.alloc (.cells #[.int .i64 0, .string FB] 112)).heap.size from blk_lt hzAm.out)
                have hk1m := Lib.hid (show P0.length + 1 ≤ maxLen by skip; unfold maxLen; omega)
                have hk2m := Lib.hid (show (P0.length + 1) * 24 ≤ 140737488355328 by skip; omega)
                obtain ⟨i0m, hj1m, hj2m, hj3m, hj4m⟩ := info_parts info112
                go_wp2_with ((at_builtin; refine wpList_append_own_at _ rfl _ _ 109 rfl (W.heap.size + 1) 112 i0m _ 2 24 und109 hj1m hj2m hj3m hj4m rfl (by decide) u3 P0.length (lnCells P0) rfl hownm.out ⟨wc.heap.size, 0, none⟩ 1 1 [.int .i64 0, .string FB] rfl rfl hnewm.out honem.out hk1m.out hk2m.out hbsm.out ?_; intro vam wam hom hgm hnilm hatm))
                have hBm := Lib.hid (grown_below hownm.out hgm hbAm.out (Nat.le_succ _) hbAm.out.size)
                have hZm := Lib.hid (grown_keep hownm.out hgm hzAm.out (by intro cs fr e; cases e))
                have hXm := Lib.hid (grown_keep hownm.out hgm hxAm.out (by intro cs fr e; cases e))
                have hom := Lib.hid (own_last (t := 0) hom)
                clear hgm hnilm hatm
                obtain ⟨y0, y1, y2, y3, y4⟩ := box5 hXm.out
                go_wp2_with fail
                obtain ⟨P1, hP1⟩ : ∃ P1, P0 ++ [(0, FB)] = P1 := ⟨_, rfl⟩
                have lP1 := Lib.hid (show P1.length = P0.length + 1 by rw [← hP1]; simp)
                have lP1b : P1.length ≤ 90000 := by have := lP1.out; omega
                have hom := hom.out
                rw [hP1] at hom
                have hom := Lib.hid hom
                have hP1 := Lib.hid hP1
                obtain ⟨wo2, rfl⟩ : ∃ wo2, wr = wo2 := ⟨_, rfl⟩
                go_loopg [3, 11] vn (fun g s3 s11 wx => ∃ j : Nat, j + g = vn ∧ s11 = .int .i64 j ∧ wx.ownsRow (W.heap.size + 1) 112 2 s3 (P1 ++ (x.vs.take j).map fun v => ((1, varB v) : Ln)).length (lnCells (P1 ++ (x.vs.take j).map fun v => ((1, varB v) : Ln))) ∧ Below W.heap.size W wx ∧ wx.heap[W.heap.size]? = some (.cells #[.slice A n1 c, .slice (some ⟨blk, off, none⟩) n2 d] 39 (0, 0)) ∧ wx.heap[x3]? = some (.cells #[.string nm, .slice pA pn pc, .slice vA vn vc, .slice sA sn sc, .slice bA bn bc] 54 (0, 0)))
                case atStart => exact ⟨0, by omega, rfl, by simpa using hom.out, hBm.out, hZm.out, hXm.out⟩
                case round =>
                  clear y0 y1 y2 y3 y4
                  obtain ⟨j2, hjg2, rfl, hoj, hBj, hZj, hXj⟩ := hrel
                  obtain ⟨y0, y1, y2, y3, y4⟩ := box5 hXj
                  have hoj := Lib.hid hoj
                  have hBj := Lib.hid hBj
                  have hZj := Lib.hid hZj
                  have hXj := Lib.hid hXj
                  cases gk with
                  | succ gj =>
                    have e2 : (j2 : Int) < (vn : Int) := by omega
                    have hbwj := Lib.hid (up.out _ hBj.out)
                    obtain ⟨blk3, off3, v, rfl, hv, hcv⟩ := (hvsA.out).at_ (i := j2) (by rw [← hvsx.out]; omega)
                    have hnx : (x.vs.take (j2 + 1)).map (fun v => ((1, varB v) : Ln)) = (x.vs.take j2).map (fun v => ((1, varB v) : Ln)) ++ [(1, varB v)] := by
                      rw [List.take_add_one, hv, List.map_append]; rfl
                    have hvc := hvs.out j2 v hv wr hBj.out
                    have v0 : w0.cell? ⟨blk3, off3 + j2 * 4, none⟩ = some (.string v.nm) := hcv 0 (by omega)
                    have v0 := (hbwj.out.cell (p := ⟨blk3, off3 + j2 * 4, none⟩) (cell_some_lt v0)).trans v0
                    have v1 : w0.cell? ⟨blk3, off3 + j2 * 4 + 1, none⟩ = some (.int .i64 v.kd) := hcv 1 (by omega)
                    have v1 := (hbwj.out.cell (p := ⟨blk3, off3 + j2 * 4 + 1, none⟩) (cell_some_lt v1)).trans v1
                    have v2 : w0.cell? ⟨blk3, off3 + j2 * 4 + 2, none⟩ = some (.int .i64 v.sz) := hcv 2 (by omega)
                    have v2 := (hbwj.out.cell (p := ⟨blk3, off3 + j2 * 4 + 2, none⟩) (cell_some_lt v2)).trans v2
                    have v3 : w0.cell? ⟨blk3, off3 + j2 * 4 + 3, none⟩ = some (.bool v.sc) := hcv 3 (by omega)
                    have v3 := (hbwj.out.cell (p := ⟨blk3, off3 + j2 * 4 + 3, none⟩) (cell_some_lt v3)).trans v3
                    unfold vlV at hvc
                    generalize varB v = T at hvc hnx
                    have hvc := Lib.hid hvc
                    have hnx := Lib.hid hnx
                    obtain ⟨P2, hP2⟩ : ∃ P2, P1 ++ (x.vs.take j2).map (fun v => ((1, varB v) : Ln)) = P2 := ⟨_, rfl⟩
                    have lP2 : P2.length ≤ 90000 := by rw [← hP2, List.length_append, List.length_map, List.length_take]; have := lP1.out; omega
                    have hoj := hoj.out
                    rw [hP2] at hoj
                    have hoj := Lib.hid hoj
                    have hP2 := Lib.hid hP2
                    clear hcv hv
                    go_wp2_with fail
                    refine hvc.out.mono ?_
                    rintro e w6 ⟨rfl, hb6⟩
                    have hO6 := own_go hoj.out hb6
                    have hB6 := Below.next hBj.out hb6
                    have hZ6 := (hb6.block _ (blk_lt hZj.out)).trans hZj.out
                    have hX6 := (hb6.block _ (blk_lt hXj.out)).trans hXj.out
                    clear v0 v1 v2 v3 hb6 y0 y1 y2 y3 y4
                    have hownn := Lib.hid (World.ownsRow.alloc hO6 (.cells #[.int .i64 1, .string T] 112))
                    have hnewn := Lib.hid (two_cells w6 (.int .i64 1) (.string T) 112)
                    have hbAn := Lib.hid ((hB6).alloc (hB6).size (.cells #[.int .i64 1, .string T] 112))
                    have honen := Lib.hid (lnCells_ones [(1, T)])
                    have hzAn := Lib.hid ((heap_alloc_old w6 (.cells #[.int .i64 1, .string T] 112) (blk_lt hZ6)).trans hZ6)
                    have hxAn := Lib.hid ((heap_alloc_old w6 (.cells #[.int .i64 1, .string T] 112) (blk_lt hX6)).trans hX6)
                    have hbsn := Lib.hid (show W.heap.size + 1 ≤ (w6.alloc (.cells #[.int .i64 1, .string T] 112)).heap.size from blk_lt hzAn.out)
                    have hk1n := Lib.hid (show P2.length + 1 ≤ maxLen by skip; unfold maxLen; omega)
                    have hk2n := Lib.hid (show (P2.length + 1) * 24 ≤ 140737488355328 by skip; omega)
                    obtain ⟨i0n, hj1n, hj2n, hj3n, hj4n⟩ := info_parts info112
                    go_wp2_with ((at_builtin; refine wpList_append_own_at _ rfl _ _ 109 rfl (W.heap.size + 1) 112 i0n _ 2 24 und109 hj1n hj2n hj3n hj4n rfl (by decide) u3 P2.length (lnCells P2) rfl hownn.out ⟨w6.heap.size, 0, none⟩ 1 1 [.int .i64 1, .string T] rfl rfl hnewn.out honen.out hk1n.out hk2n.out hbsn.out ?_; intro van wan hon hgn hniln hatn))
                    have hBn := Lib.hid (grown_below hownn.out hgn hbAn.out (Nat.le_succ _) hbAn.out.size)
                    have hZn := Lib.hid (grown_keep hownn.out hgn hzAn.out (by intro cs fr e; cases e))
                    have hXn := Lib.hid (grown_keep hownn.out hgn hxAn.out (by intro cs fr e; cases e))
                    have hon := Lib.hid (own_last (t := 1) hon)
                    clear hgn hniln hatn
                    go_wp2
                    go_roundg gj
                    case measure => omega
                    case rel => exact ⟨j2 + 1, by omega, by go_num, by rw [hnx.out, ← List.append_assoc, hP2.out]; exact hon.out, hBn.out, hZn.out, hXn.out⟩
                  | zero =>
                    have e2 : ¬ (j2 : Int) < (vn : Int) := by omega
                    have hfin := Lib.hid (show x.vs.take j2 = x.vs by rw [List.take_of_length_le (by rw [← hvsx.out]; omega)])
                    have hol := hoj.out
                    rw [hfin.out] at hol
                    obtain ⟨P2, hP2⟩ : ∃ P2, P1 ++ x.vs.map (fun v => ((1, varB v) : Ln)) = P2 := ⟨_, rfl⟩
                    have lP2 := Lib.hid (show P2.length = P0.length + 1 + vn by rw [← hP2, List.length_append, List.length_map, hvsx.out, lP1.out])
                    rw [hP2] at hol
                    have hol := Lib.hid hol
                    have hP2 := Lib.hid hP2
                    have h76c := Lib.hid (h76.out wr hBj.out)
                    clear hfin hoj
                    go_wp2_with fail
                    refine h76c.out.mono ?_
                    rintro e w6 ⟨v2, rfl, hV6, hb6⟩
                    have hO6 := Lib.hid (own_go hol.out hb6)
                    have hB6 := Lib.hid (Below.next hBj.out hb6)
                    have hZ6 := Lib.hid ((hb6.block _ (blk_lt hZj.out)).trans hZj.out)
                    have hX6 := Lib.hid ((hb6.block _ (blk_lt hXj.out)).trans hXj.out)
                    have hV6 := Lib.hid hV6
                    have hbs6 := Lib.hid (show W.heap.size + 1 ≤ w6.heap.size from blk_lt hZ6.out)
                    have hk6 := Lib.hid (show P2.length + LB.length ≤ 1000000000 by have := lP2.out; omega)
                    clear hb6 y0 y1 y2 y3 y4
                    go_wp2_with ((at_builtin; refine wpList_rows rfl rfl rfl hO6.out rfl hV6.out hk6.out hbs6.out ?_))
                    intro va7 w7 ho7 hg7
                    have hB7 := grown_below hO6.out hg7 hB6.out (Nat.le_succ _) hB6.out.size
                    have hZ7 := grown_keep hO6.out hg7 hZ6.out (by intro cs fr e; cases e)
                    have hX7 := grown_keep hO6.out hg7 hX6.out (by intro cs fr e; cases e)
                    obtain ⟨P3, hP3⟩ : ∃ P3, P2 ++ LB = P3 := ⟨_, rfl⟩
                    have lP3 : P3.length = P2.length + LB.length := by rw [← hP3, List.length_append]
                    have hO7 : w7.ownsRow (W.heap.size + 1) 112 2 va7 P3.length (lnCells P3) := by rw [lP3, ← hP3, lnCells_app]; exact ho7
                    have lP3b : P3.length ≤ 90000 := by have := lP2.out; omega
                    clear lP3
                    have hP3 := Lib.hid hP3
                    clear hg7 ho7
                    have hownq := Lib.hid (World.ownsRow.alloc hO7 (.cells #[.int .i64 0, .string (⟨#[125]⟩ : ByteArray)] 112))
                    have hnewq := Lib.hid (two_cells w7 (.int .i64 0) (.string (⟨#[125]⟩ : ByteArray)) 112)
                    have hbAq := Lib.hid ((hB7).alloc (hB7).size (.cells #[.int .i64 0, .string (⟨#[125]⟩ : ByteArray)] 112))
                    have honeq := Lib.hid (lnCells_ones [(0, (⟨#[125]⟩ : ByteArray))])
                    have hzAq := Lib.hid ((heap_alloc_old w7 (.cells #[.int .i64 0, .string (⟨#[125]⟩ : ByteArray)] 112) (blk_lt hZ7)).trans hZ7)
                    have hxAq := Lib.hid ((heap_alloc_old w7 (.cells #[.int .i64 0, .string (⟨#[125]⟩ : ByteArray)] 112) (blk_lt hX7)).trans hX7)
                    have hbsq := Lib.hid (show W.heap.size + 1 ≤ (w7.alloc (.cells #[.int .i64 0, .string (⟨#[125]⟩ : ByteArray)] 112)).heap.size from blk_lt hzAq.out)
                    have hk1q := Lib.hid (show P3.length + 1 ≤ maxLen by skip; unfold maxLen; omega)
                    have hk2q := Lib.hid (show (P3.length + 1) * 24 ≤ 140737488355328 by skip; omega)
                    obtain ⟨i0q, hj1q, hj2q, hj3q, hj4q⟩ := info_parts info112
                    go_wp2_with ((at_builtin; refine wpList_append_own_at _ rfl _ _ 109 rfl (W.heap.size + 1) 112 i0q _ 2 24 und109 hj1q hj2q hj3q hj4q rfl (by decide) va7 P3.length (lnCells P3) rfl hownq.out ⟨w7.heap.size, 0, none⟩ 1 1 [.int .i64 0, .string (⟨#[125]⟩ : ByteArray)] rfl rfl hnewq.out honeq.out hk1q.out hk2q.out hbsq.out ?_; intro vaq waq hoq hgq hnilq hatq))
                    have hBq := Lib.hid (grown_below hownq.out hgq hbAq.out (Nat.le_succ _) hbAq.out.size)
                    have hZq := Lib.hid (grown_keep hownq.out hgq hzAq.out (by intro cs fr e; cases e))
                    have hXq := Lib.hid (grown_keep hownq.out hgq hxAq.out (by intro cs fr e; cases e))
                    have hoq := Lib.hid (own_last (t := 0) hoq)
                    clear hgq hnilq hatq
                    go_wp2
                    go_roundg gz
                    case measure => omega
                    case rel =>
                      refine ⟨i + 1, by omega, by go_num, ?_, hBq.out, hZq.out⟩
                      have e5 : RL ++ linesFs (p.fs.take (i + 1)) = P3 ++ [(0, endB)] := by rw [hnxt2.out, ← hP3.out, ← hP2.out, ← hP1.out]; simp
                      rw [e5]
                      exact hoq.out
        | zero =>
          have e0 : ¬ (i : Int) < (n2 : Int) := by omega
          have htk : p.fs.take i = p.fs := List.take_of_length_le (by rw [hn2'.out]; omega)
          have hO2 := ho.out
          rw [htk] at hO2
          have htx : RL ++ linesFs p.fs = linesP p := by rw [← hRL.out]; rfl
          rw [htx] at hO2
          obtain ⟨LA, lc, rfl, hLn⟩ := lines_own hO2
          obtain ⟨N, hN⟩ : ∃ N, (linesP p).length = N := ⟨_, rfl⟩
          rw [hN]
          have hNb : N ≤ 90000 := by rw [← hN]; exact hNL.out
          have hN' := Lib.hid hN
          have hLn := Lib.hid hLn
          have hTP : textP p = ⟨(textL (linesP p)).toArray⟩ := rfl
          obtain ⟨LL, hLL⟩ : ∃ LL, linesP p = LL := ⟨_, rfl⟩
          have hLn := hLn.out
          have hlen := hlen.out
          have hlok := hlok.out
          have hN' := hN'.out
          rw [hLL] at hLn hlen hlok hN' hTP
          have hTPh := Lib.hid hTP
          have hLn := Lib.hid hLn
          have hlen := Lib.hid hlen
          have hlok := Lib.hid hlok
          have hN' := Lib.hid hN'
          clear htk htx hO2 ho hTP hLL hN
          obtain ⟨i5, hi5, hz50, hz51, hz52⟩ := info_parts byte5
          have hi5' := Lib.hid (And.intro hi5 (And.intro hz50 (And.intro hz51 hz52)))
          clear hi5 hz50 hz51 hz52
          generalize wr = Wl at *
          go_wp2_with fail
          clear q0 q1
          go_loopg [12, 13] N (fun g s12 s13 wr => ∃ k M : Nat, k + g = N ∧ s13 = .int .i64 k ∧ wr.ownsRow Wl.heap.size 5 1 s12 M (Lib.byteCells (textL (LL.take k))) ∧ Below Wl.heap.size Wl wr)
          case atStart => exact ⟨0, 0, by omega, rfl, ⟨rfl, .inl ⟨rfl, rfl⟩⟩, Below.refl _ _⟩
          case round =>
            obtain ⟨k, M, hkg2, rfl, hor, hbr⟩ := hrel
            have hor := Lib.hid hor
            have hbr := Lib.hid hbr
            cases gk with
            | succ gz =>
              have e1 : (k : Int) < (N : Int) := by omega
              obtain ⟨x, hx⟩ : ∃ x, LL[k]? = some x := ⟨_, List.getElem?_eq_getElem (by rw [hN'.out]; omega)⟩
              obtain ⟨g, rfl, cA, cB⟩ := hLn.out k x hx
              have cA0 := (hbr.out.cell (p := ⟨g, k * 2, none⟩) (cell_some_lt cA)).trans cA
              have hM : M = (textL (LL.take k)).length := by
                have := hor.out.1
                rw [Lib.byteCells_length] at this
                omega
              have hxl := hlok.out.2 x (List.mem_of_getElem? hx)
              obtain ⟨t, s⟩ := x
              dsimp only at cA cB cA0 hxl
              have hnx : textL (LL.take (k + 1)) = textL (LL.take k) ++ (List.replicate t 9 ++ (s.data.toList ++ [10])) := by
                rw [List.take_add_one, hx]
                show textL (LL.take k ++ [(t, s)]) = _
                rw [textL_app, textL_one, lineT_l2]
              have hbnd : M + t + s.size + 1 ≤ 200000000000 := by
                have h1 : textL LL = textL (LL.take k) ++ textL (LL.drop k) := by rw [← textL_app, List.take_append_drop]
                have h2 := hlen.out
                rw [h1, List.length_append] at h2
                have := hxl
                have := hcpP.out
                omega
              have fA := Lib.hid (fun (V : World) (hV : Below Wl.heap.size Wl V) => (hV.cell (p := ⟨g, k * 2, none⟩) (cell_some_lt cA)).trans cA)
              have fB := Lib.hid (fun (V : World) (hV : Below Wl.heap.size Wl V) => (hV.cell (p := ⟨g, k * 2 + 1, none⟩) (cell_some_lt cB)).trans cB)
              obtain ⟨T0, hT0⟩ : ∃ T0, textL (LL.take k) = T0 := ⟨_, rfl⟩
              have hor := hor.out
              rw [hT0] at hor hnx hM
              have hor := Lib.hid hor
              have hnx := Lib.hid hnx
              have hM' := Lib.hid hM
              have htz : t ≤ 100000 := by have := hcpP.out; omega
              clear hM hT0 hx hxl cA cB
              obtain ⟨wo3, rfl⟩ : ∃ wo3, wr = wo3 := ⟨_, rfl⟩
              go_wp2_with fail
              clear cA0
              go_loopg [12, 14] t (fun g5 s12 s14 wx => ∃ j M2 : Nat, j + g5 = t ∧ s14 = .int .i64 j ∧ M2 = M + j ∧ wx.ownsRow Wl.heap.size 5 1 s12 M2 (Lib.byteCells (T0 ++ List.replicate j 9)) ∧ Below Wl.heap.size Wl wx)
              case atStart => exact ⟨0, M, by omega, rfl, by omega, by simpa using hor.out, hbr.out⟩
              case round =>
                obtain ⟨j, M2, hjg, rfl, hM2, hoj, hbj⟩ := hrel
                have hM2b : M2 ≤ 200000000000 := by omega
                have hM2s : M2 + s.size + 1 ≤ 200000000000 := by omega
                have hjt0 : j ≤ t := by omega
                have hM2h := Lib.hid hM2
                clear hM2
                have cA0 := fA.out _ hbj
                have hoj := Lib.hid hoj
                have hbj := Lib.hid hbj
                cases gk with
                | succ gj =>
                  have e2 : (j : Int) < (t : Int) := by omega
                  have hown := Lib.hid (World.ownsRow.alloc hoj.out (.cells #[.int .u8 9] 5))
                  have hnew := Lib.hid (one_cell wr (.int .u8 9) 5)
                  have hbA := Lib.hid (hbj.out.alloc hbj.out.size (.cells #[.int .u8 9] 5))
                  have hone := Lib.hid (show ∀ v ∈ [Value.int .u8 9], v.oneCell' = true by simp [Value.oneCell'])
                  have hbs := Lib.hid hbA.out.size
                  have hk1 := Lib.hid (show M2 + 1 ≤ maxLen by unfold maxLen; omega)
                  have hk2 := Lib.hid (show (M2 + 1) * 1 ≤ 140737488355328 by omega)
                  obtain ⟨hj1, hj2, hj3, hj4⟩ := hi5'.out
                  go_wp2_with ((at_builtin; refine wpList_append_own_at _ rfl _ _ 85 rfl Wl.heap.size 5 i5 _ 1 1 und85 hj1 hj2 hj3 hj4 rfl (by decide) u12 M2 (Lib.byteCells (T0 ++ List.replicate j 9)) rfl hown.out ⟨wr.heap.size, 0, none⟩ 1 1 [.int .u8 9] rfl rfl hnew.out hone.out hk1.out hk2.out hbs.out ?_; intro v9 w9 ho9 hg9 hnil9 hat9))
                  have hB9 := Lib.hid (grown_lines hown.out hg9 hbA.out (Nat.le_refl _) hbs.out)
                  have ho9 := Lib.hid ho9
                  clear hg9 hnil9 hat9
                  go_wp2
                  go_roundg gj
                  case measure => omega
                  case rel =>
                    refine ⟨j + 1, M2 + 1, by omega, by go_num, by have := hM2h.out; omega, ?_, hB9.out⟩
                    rw [List.replicate_succ', ← List.append_assoc, bytesL_app]
                    exact ho9.out
                | zero =>
                  have e2 : ¬ (j : Int) < (t : Int) := by omega
                  have hjt := Lib.hid (show j = t by omega)
                  have cB0 := fB.out _ hbj.out
                  have hk1 := Lib.hid (show M2 + s.size ≤ maxLen by unfold maxLen; omega)
                  have hk2 := Lib.hid (show M2 + s.size ≤ 140737488355328 by omega)
                  have hbs := Lib.hid hbj.out.size
                  obtain ⟨hj1, hj2, hj3, hj4⟩ := hi5'.out
                  go_wp2_with ((at_builtin; refine Lib.wpList_append_own_string _ rfl _ _ 85 9 rfl Wl.heap.size 5 i5 und85 und9 hj1 hj2 hj3 hj4 _ _ _ rfl hoj.out s rfl hk1.out hk2.out hbs.out ?_))
                  intro v8 w8 ho8 hg8 hnil8
                  have hB8 := grown_lines hoj.out hg8 hbj.out (Nat.le_refl _) hbj.out.size
                  have hown := Lib.hid (World.ownsRow.alloc ho8 (.cells #[.int .u8 10] 5))
                  have hnew := Lib.hid (one_cell w8 (.int .u8 10) 5)
                  have hbA := Lib.hid (hB8.alloc hB8.size (.cells #[.int .u8 10] 5))
                  have hone := Lib.hid (show ∀ v ∈ [Value.int .u8 10], v.oneCell' = true by simp [Value.oneCell'])
                  have hbs8 := Lib.hid hbA.out.size
                  have hk3 := Lib.hid (show M2 + s.size + 1 ≤ maxLen by unfold maxLen; omega)
                  have hk4 := Lib.hid (show (M2 + s.size + 1) * 1 ≤ 140737488355328 by omega)
                  clear hg8 hnil8 hB8 ho8 cB0 cA0
                  go_wp2_with ((at_builtin; refine wpList_append_own_at _ rfl _ _ 85 rfl Wl.heap.size 5 i5 _ 1 1 und85 hj1 hj2 hj3 hj4 rfl (by decide) _ _ _ rfl hown.out ⟨w8.heap.size, 0, none⟩ 1 1 [.int .u8 10] rfl rfl hnew.out hone.out hk3.out hk4.out hbs8.out ?_))
                  intro v9 w9 ho9 hg9 hnil9 hat9
                  have hB9 := Lib.hid (grown_lines hown.out hg9 hbA.out (Nat.le_refl _) hbs8.out)
                  have ho9 := Lib.hid ho9
                  clear hg9 hnil9 hat9
                  go_wp2
                  go_roundg gz
                  case measure => omega
                  case rel =>
                    refine ⟨k + 1, M2 + s.size + 1, by omega, by go_num, ?_, hB9.out⟩
                    have h := ho9.out
                    rw [hjt.out] at h
                    have e5 : Lib.byteCells (textL (LL.take (k + 1))) = Lib.byteCells (T0 ++ List.replicate t 9) ++ Lib.strCells s ++ [.int .u8 10] := by
                      rw [hnx.out, strCells_eq]
                      simp only [bytesL_app, List.append_assoc]
                      rfl
                    rw [e5]
                    rw [List.append_assoc]
                    exact h
            | zero =>
              have e1 : ¬ (k : Int) < (N : Int) := by omega
              have hfin : LL.take k = LL := List.take_of_length_le (by rw [hN'.out]; omega)
              have hot := hor.out
              rw [hfin] at hot
              have hcv := bytes_conv hot
              have hbf := Lib.hid (hb.out.trans (hbr.out.mono hb.out.size))
              clear hfin hot
              go_wp2
              go_ret
              exact ⟨by rw [hTPh.out]; rfl, hbf.out⟩
end Go.Proofs.YtnahgfdoiflacaaGreatDoor
