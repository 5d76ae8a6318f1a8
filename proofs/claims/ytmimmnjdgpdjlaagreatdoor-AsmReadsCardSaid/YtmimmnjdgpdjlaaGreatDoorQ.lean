/- A meaning called: what it reads. -/
import Derived.Test.YtmimmnjdgpdjlaaGreatDoorL3
set_option linter.unusedSimpArgs false
set_option linter.unusedVariables false
namespace Go.Proofs.YtmimmnjdgpdjlaaGreatDoor
open Go.RowKit Go.Lib Go.Shelf Go.MapKept

theorem headD_get (l : List (List UInt8)) : l.getD 0 [] = l.headD [] := by cases l <;> rfl
theorem tail_get (l : List (List UInt8)) : l.getD 1 [] = l.tail.headD [] := by
  cases l with
  | nil => rfl
  | cons x l => cases l <;> rfl
theorem set13_cells {W : World} {b : Nat} {t : TypeId} {c0 c1 c2 c3 c4 c5 c6 c7 c8 c9 c10 c11 c12 : Value} (h : W.heap[b]? = some (.cells #[c0, c1, c2, c3, c4, c5, c6, c7, c8, c9, c10, c11, c12] t (0, 0))) (v0 v1 v2 v3 v4 v5 v6 v7 v8 v9 v10 v11 v12 : Value) :
    (((((((((((((W.setCell ⟨b, 0, none⟩ v0).setCell ⟨b, 1, none⟩ v1).setCell ⟨b, 2, none⟩ v2).setCell ⟨b, 3, none⟩ v3).setCell ⟨b, 4, none⟩ v4).setCell ⟨b, 5, none⟩ v5).setCell ⟨b, 6, none⟩ v6).setCell ⟨b, 7, none⟩ v7).setCell ⟨b, 8, none⟩ v8).setCell ⟨b, 9, none⟩ v9).setCell ⟨b, 10, none⟩ v10).setCell ⟨b, 11, none⟩ v11).setCell ⟨b, 12, none⟩ v12).heap[b]? = some (.cells #[v0, v1, v2, v3, v4, v5, v6, v7, v8, v9, v10, v11, v12] t (0, 0)) := by
  have h0 := heap_setCell_same _ _ 0 _ _ v0 h
  have h1 := heap_setCell_same _ _ 1 _ _ v1 h0
  have h2 := heap_setCell_same _ _ 2 _ _ v2 h1
  have h3 := heap_setCell_same _ _ 3 _ _ v3 h2
  have h4 := heap_setCell_same _ _ 4 _ _ v4 h3
  have h5 := heap_setCell_same _ _ 5 _ _ v5 h4
  have h6 := heap_setCell_same _ _ 6 _ _ v6 h5
  have h7 := heap_setCell_same _ _ 7 _ _ v7 h6
  have h8 := heap_setCell_same _ _ 8 _ _ v8 h7
  have h9 := heap_setCell_same _ _ 9 _ _ v9 h8
  have h10 := heap_setCell_same _ _ 10 _ _ v10 h9
  have h11 := heap_setCell_same _ _ 11 _ _ v11 h10
  have h12 := heap_setCell_same _ _ 12 _ _ v12 h11
  rw [h12]
  simp only [List.setIfInBounds_toArray, List.set_cons_zero, List.set_cons_succ]
theorem set13_other {W : World} {b b' : Nat} (h : ¬ b' = b) (v0 v1 v2 v3 v4 v5 v6 v7 v8 v9 v10 v11 v12 : Value) :
    (((((((((((((W.setCell ⟨b, 0, none⟩ v0).setCell ⟨b, 1, none⟩ v1).setCell ⟨b, 2, none⟩ v2).setCell ⟨b, 3, none⟩ v3).setCell ⟨b, 4, none⟩ v4).setCell ⟨b, 5, none⟩ v5).setCell ⟨b, 6, none⟩ v6).setCell ⟨b, 7, none⟩ v7).setCell ⟨b, 8, none⟩ v8).setCell ⟨b, 9, none⟩ v9).setCell ⟨b, 10, none⟩ v10).setCell ⟨b, 11, none⟩ v11).setCell ⟨b, 12, none⟩ v12).heap[b']? = W.heap[b']? := by
  rw [heap_setCell_other _ _ _ _ h, heap_setCell_other _ _ _ _ h, heap_setCell_other _ _ _ _ h, heap_setCell_other _ _ _ _ h, heap_setCell_other _ _ _ _ h, heap_setCell_other _ _ _ _ h, heap_setCell_other _ _ _ _ h, heap_setCell_other _ _ _ _ h, heap_setCell_other _ _ _ _ h, heap_setCell_other _ _ _ _ h, heap_setCell_other _ _ _ _ h, heap_setCell_other _ _ _ _ h, heap_setCell_other _ _ _ _ h]
/-- what a call of a meaning may touch -/
def Tch (G : Nat → Option Gh) (rb : Nat) : Nat → Prop := fun k => k = rb ∨ ∃ r, G k = some (.box r)
def ReadPost (G : Nat → Option Gh) (i : In) (rb : Nat) (w : World) (e : Ending) (w' : World) : Prop :=
  e = .returned (inV i) ∧ Keep (Tch G rb) w w' ∧ ∀ b r, G b = some (.box r) → BoxAt w' b r
/-- what a call of a meaning asks for -/
structure Ask (G : Nat → Option Gh) (F : Nat → Prop) (w0 w : World) (rb : Nat) (l : List (List UInt8)) : Prop where
  env : Env w0
  bel : Below w0.heap.size w0 w
  rlo : w0.heap.size ≤ rb
  rd : RdAt F w rb l
  fr : ∀ b, F b → b < w.heap.size ∧ G b = none
  grb : G rb = none
  all : ∀ b x, G b = some x → w0.heap.size ≤ b ∧ b < w.heap.size
  bx : ∀ b r, G b = some (.box r) → BoxAt w b r
theorem Keep.tch {G : Nat → Option Gh} {rb : Nat} {w W : World} (h : Keep (fun k => k = rb) w W) : Keep (Tch G rb) w W := h.mono fun k _ e => .inl e
theorem Keep.setIn {S : Nat → Prop} {w W : World} (h : Keep S w W) (b o : Nat) (v : Value) (hb : S b) : Keep S w (W.setCell ⟨b, o, none⟩ v) := h.trans ((Keep.set W b o v).mono fun k _ e => by rw [e]; exact hb)
theorem frz {W : World} {b : Nat} {cs : Array Value} {t : TypeId} (h : W.heap[b]? = some (.cells cs t (0, 0))) : ∀ k, W.frozen? ⟨b, k, none⟩ = false := fun k => by simp [World.frozen?, h]
set_option maxRecDepth 100000 in
set_option maxHeartbeats 8000000 in
theorem call_two (op bn cd : Int) (b : Nat) (G : Nat → Option Gh) (F : Nat → Prop) (w0 w : World) (rb : Nat) (l : List (List UInt8)) (h : Ask G F w0 w rb l) (hb : G b = some (.box (.two op bn cd))) :
    Calls Tryz.prog 68 #[.pointer (some ⟨rb, 0, none⟩), .pointer (some ⟨b, 0, none⟩)] w (ReadPost G (rdM (.two op bn cd) l) rb w) := by
  obtain ⟨hE, hB, hrlo, hrd, hfr, hgrb, hall, hbx⟩ := h
  have hrl : rb < w.heap.size := by obtain ⟨A, c, t, h1, _⟩ := hrd; exact blk_lt h1
  have hbl := (hall b _ hb).2
  have hbr : ¬ b = rb := fun e => by rw [e, hgrb] at hb; cases hb
  obtain ⟨W1, hW1⟩ : ∃ W1, w.alloc (.cells #[.int .i64 0, .int .i64 0, .int .i64 0, .int .i64 0, .int .i64 0, .int .i64 0, .int .u64 0, .int .i64 0, .int .i64 0, .bool false, .bool false, .int .i64 0, .int .i64 0] 32) = W1 := ⟨_, rfl⟩
  have hb1 : Below w.heap.size w W1 := by rw [← hW1]; exact below_new w _
  have hx1 := Lib.hid (show W1.heap[w.heap.size]? = some (.cells #[.int .i64 0, .int .i64 0, .int .i64 0, .int .i64 0, .int .i64 0, .int .i64 0, .int .u64 0, .int .i64 0, .int .i64 0, .bool false, .bool false, .int .i64 0, .int .i64 0] 32 (0, 0)) from by rw [← hW1]; exact heap_alloc_new _ _)
  have hs1 : W1.heap.size = w.heap.size + 1 := by rw [← hW1]; simp
  have hB1 := hB.trans (hb1.mono hB.size)
  have hk1 := Lib.hid (Keep.of_below (S := Tch G rb) hb1)
  obtain ⟨d, s, hbox⟩ := hbx b _ hb
  have hbox1 := Lib.hid ((hb1.block b hbl).trans hbox)
  have hrA := Lib.hid (reg69_any F rb l w0 W1 hE hB1 hrlo (hrd.below hb1))
  have hrB := Lib.hid (fun (W : World) (hW : Below w0.heap.size w0 W) (hr : RdAt F W rb l.tail) => reg69_any F rb l.tail w0 W hE hW hrlo hr)
  unfold RPost at hrA hrB
  show Calls Tryz.prog _ _ w (ReadPost G { inZ op with bn := bn, cd := cd, sr := regP (l.getD 0 []), ds := regP (l.getD 1 []) } rb w)
  rw [headD_get, tail_get]
  obtain ⟨x0, hx0⟩ : ∃ x, regP (l.headD []) = x := ⟨_, rfl⟩
  rw [hx0] at hrA ⊢
  clear hx0
  obtain ⟨x1, hx1'⟩ : ∃ x, regP (l.tail.headD []) = x := ⟨_, rfl⟩
  rw [hx1'] at hrB ⊢
  clear hx1'
  have hB1' := Lib.hid hB1
  have hfr' := Lib.hid hfr
  have hrlo' := Lib.hid hrlo
  have hbx' := Lib.hid hbx
  have hall' := Lib.hid hall
  have hgrb' := Lib.hid hgrb
  have hbG := Lib.hid hb
  have hW1' := Lib.hid hW1
  have hS := Lib.hid (show Tch G rb b from .inr ⟨_, hb⟩)
  have hsz := Lib.hid (show rb < w.heap.size ∧ b < w.heap.size ∧ W1.heap.size = w.heap.size + 1 from ⟨hrl, hbl, hs1⟩)
  have hb1' := Lib.hid hb1
  clear hE hB hrlo hrd hfr hgrb hall hbx hb hW1 hb1 hB1 hs1 hrl hbl hbox
  go_enter Tryz.func68, Tryz.ntmps68
  go_wp2_with fail
  rw [hW1'.out]
  refine hrA.out.mono ?_
  rintro e w2 ⟨rfl, hr2, hk2⟩
  have hr2' := Lib.hid hr2
  have hkk2 := Lib.hid hk2
  have hK2 := Lib.hid (hk1.out.trans (Keep.tch (G := G) hk2))
  clear hr2 hk2
  go_wp2_with fail
  refine (hrB.out w2 (hkk2.out.on hB1'.out (fun k e => by rw [e]; exact hrlo'.out)) hr2'.out).mono ?_
  rintro e w3 ⟨rfl, hr3, hk3⟩
  have hkk3 := Lib.hid (hkk2.out.trans hk3)
  have hK3 := Lib.hid (hK2.out.trans (Keep.tch (G := G) hk3))
  clear hr3 hk3
  have hb9 := Lib.hid (hkk3.out.at hbox1.out hbr)
  have hx9 := Lib.hid (hkk3.out.at hx1.out (by have := hsz.out; omega))
  obtain ⟨k0, k1, k2, k3, k4, k5, k6, k7, k8, k9, k10, k11, k12⟩ := box13 hb9.out
  have hf1 := frz hb9.out
  obtain ⟨c0, c1, c2, c3, c4, c5, c6, c7, c8, c9, c10, c11, c12⟩ := box13 hx9.out
  have hf2 := frz hx9.out
  have hne1 : ¬ w.heap.size = b := by have := hsz.out; omega
  have hne2 : ¬ b = w.heap.size := by have := hsz.out; omega
  go_wp2_with fail
  refine bodyPost_ret (v := inV { inZ op with bn := bn, cd := cd, sr := x0, ds := x1 }) ?_ rfl ⟨rfl, ?_, ?_⟩
  · obtain ⟨z0, z1, z2, z3, z4, z5, z6, z7, z8, z9, z10, z11, z12⟩ := box13 (set13_cells (show ((w3.setCell ⟨b, 5, none⟩ (.int .i64 x0)).setCell ⟨b, 4, none⟩ (.int .i64 x1)).heap[w.heap.size]? = some (.cells #[.int .i64 0, .int .i64 0, .int .i64 0, .int .i64 0, .int .i64 0, .int .i64 0, .int .u64 0, .int .i64 0, .int .i64 0, .bool false, .bool false, .int .i64 0, .int .i64 0] 32 (0, 0)) from by rw [heap_setCell_other _ _ _ _ hne1, heap_setCell_other _ _ _ _ hne1]; exact hx9.out) (.int .i64 op) (.int .i64 bn) (.int .i64 0) (.int .i64 cd) (.int .i64 x1) (.int .i64 x0) (.int .u64 0) (.int .i64 0) (.int .i64 0) (.bool false) (.bool false) (.int .i64 0) (.int .i64 0))
    simp [results, Tryz.f68, go_sem, z0, z1, z2, z3, z4, z5, z6, z7, z8, z9, z10, z11, z12, inV, inC, inZ]
  · repeat refine Keep.setNew ?_ _ _ _ (Nat.le_refl _)
    repeat refine Keep.setIn ?_ _ _ _ hS.out
    exact hK3.out
  · intro b' r' hb'
    have hl' := (hall'.out b' _ hb').2
    have hnB : ¬ b' = w.heap.size := by omega
    have hbx0 := ((hbx'.out b' r' hb').of_block (hb1'.out.block b' hl')).of_block (hkk3.out.2.2.2.2 b' (by have := hsz.out; omega) (fun e => by rw [e, hgrb'.out] at hb'; cases hb'))
    by_cases hbb : b' = b
    · have hr : r' = .two op bn cd := by
        rw [hbb, hbG.out] at hb'
        exact (Gh.box.inj (Option.some.inj hb')).symm
      rw [hr, hbb]
      refine ⟨x1, x0, (set13_other hne2 _ _ _ _ _ _ _ _ _ _ _ _ _).trans ?_⟩
      rw [heap_setCell_same _ _ _ _ _ _ (heap_setCell_same _ _ _ _ _ _ (hb9.out))]
      simp only [List.setIfInBounds_toArray, List.set_cons_zero, List.set_cons_succ]
    · refine hbx0.of_block ((set13_other hnB _ _ _ _ _ _ _ _ _ _ _ _ _).trans ?_)
      rw [heap_setCell_other _ _ _ _ hbb, heap_setCell_other _ _ _ _ hbb]
set_option maxRecDepth 100000 in
set_option maxHeartbeats 8000000 in
theorem call_imm (op bn sh : Int) (b : Nat) (G : Nat → Option Gh) (F : Nat → Prop) (w0 w : World) (rb : Nat) (l : List (List UInt8)) (h : Ask G F w0 w rb l) (hb : G b = some (.box (.imm op bn sh))) :
    Calls Tryz.prog 71 #[.pointer (some ⟨rb, 0, none⟩), .pointer (some ⟨b, 0, none⟩)] w (ReadPost G (rdM (.imm op bn sh) l) rb w) := by
  obtain ⟨hE, hB, hrlo, hrd, hfr, hgrb, hall, hbx⟩ := h
  have hrl : rb < w.heap.size := by obtain ⟨A, c, t, h1, _⟩ := hrd; exact blk_lt h1
  have hbl := (hall b _ hb).2
  have hbr : ¬ b = rb := fun e => by rw [e, hgrb] at hb; cases hb
  obtain ⟨W1, hW1⟩ : ∃ W1, w.alloc (.cells #[.int .i64 0, .int .i64 0, .int .i64 0, .int .i64 0, .int .i64 0, .int .i64 0, .int .u64 0, .int .i64 0, .int .i64 0, .bool false, .bool false, .int .i64 0, .int .i64 0] 32) = W1 := ⟨_, rfl⟩
  have hb1 : Below w.heap.size w W1 := by rw [← hW1]; exact below_new w _
  have hx1 := Lib.hid (show W1.heap[w.heap.size]? = some (.cells #[.int .i64 0, .int .i64 0, .int .i64 0, .int .i64 0, .int .i64 0, .int .i64 0, .int .u64 0, .int .i64 0, .int .i64 0, .bool false, .bool false, .int .i64 0, .int .i64 0] 32 (0, 0)) from by rw [← hW1]; exact heap_alloc_new _ _)
  have hs1 : W1.heap.size = w.heap.size + 1 := by rw [← hW1]; simp
  have hB1 := hB.trans (hb1.mono hB.size)
  have hk1 := Lib.hid (Keep.of_below (S := Tch G rb) hb1)
  obtain ⟨d, n, hbox⟩ := hbx b _ hb
  have hbox1 := Lib.hid ((hb1.block b hbl).trans hbox)
  have hrA := Lib.hid (imm72_any F rb l w0 W1 hE hB1 hrlo (hrd.below hb1))
  have hrB := Lib.hid (fun (W : World) (hW : Below w0.heap.size w0 W) (hr : RdAt F W rb l.tail) => reg69_any F rb l.tail w0 W hE hW hrlo hr)
  unfold RPost at hrA hrB
  show Calls Tryz.prog _ _ w (ReadPost G { inZ op with bn := bn, sh := sh, im := immP (l.getD 0 []), ds := regP (l.getD 1 []) } rb w)
  rw [headD_get, tail_get]
  obtain ⟨x0, hx0⟩ : ∃ x, immP (l.headD []) = x := ⟨_, rfl⟩
  rw [hx0] at hrA ⊢
  clear hx0
  obtain ⟨x1, hx1'⟩ : ∃ x, regP (l.tail.headD []) = x := ⟨_, rfl⟩
  rw [hx1'] at hrB ⊢
  clear hx1'
  have hB1' := Lib.hid hB1
  have hfr' := Lib.hid hfr
  have hrlo' := Lib.hid hrlo
  have hbx' := Lib.hid hbx
  have hall' := Lib.hid hall
  have hgrb' := Lib.hid hgrb
  have hbG := Lib.hid hb
  have hW1' := Lib.hid hW1
  have hS := Lib.hid (show Tch G rb b from .inr ⟨_, hb⟩)
  have hsz := Lib.hid (show rb < w.heap.size ∧ b < w.heap.size ∧ W1.heap.size = w.heap.size + 1 from ⟨hrl, hbl, hs1⟩)
  have hb1' := Lib.hid hb1
  clear hE hB hrlo hrd hfr hgrb hall hbx hb hW1 hb1 hB1 hs1 hrl hbl hbox
  go_enter Tryz.func71, Tryz.ntmps71
  go_wp2_with fail
  rw [hW1'.out]
  refine hrA.out.mono ?_
  rintro e w2 ⟨rfl, hr2, hk2⟩
  have hr2' := Lib.hid hr2
  have hkk2 := Lib.hid hk2
  have hK2 := Lib.hid (hk1.out.trans (Keep.tch (G := G) hk2))
  clear hr2 hk2
  go_wp2_with fail
  refine (hrB.out w2 (hkk2.out.on hB1'.out (fun k e => by rw [e]; exact hrlo'.out)) hr2'.out).mono ?_
  rintro e w3 ⟨rfl, hr3, hk3⟩
  have hkk3 := Lib.hid (hkk2.out.trans hk3)
  have hK3 := Lib.hid (hK2.out.trans (Keep.tch (G := G) hk3))
  clear hr3 hk3
  have hb9 := Lib.hid (hkk3.out.at hbox1.out hbr)
  have hx9 := Lib.hid (hkk3.out.at hx1.out (by have := hsz.out; omega))
  obtain ⟨k0, k1, k2, k3, k4, k5, k6, k7, k8, k9, k10, k11, k12⟩ := box13 hb9.out
  have hf1 := frz hb9.out
  obtain ⟨c0, c1, c2, c3, c4, c5, c6, c7, c8, c9, c10, c11, c12⟩ := box13 hx9.out
  have hf2 := frz hx9.out
  have hne1 : ¬ w.heap.size = b := by have := hsz.out; omega
  have hne2 : ¬ b = w.heap.size := by have := hsz.out; omega
  go_wp2_with fail
  refine bodyPost_ret (v := inV { inZ op with bn := bn, sh := sh, im := x0, ds := x1 }) ?_ rfl ⟨rfl, ?_, ?_⟩
  · obtain ⟨z0, z1, z2, z3, z4, z5, z6, z7, z8, z9, z10, z11, z12⟩ := box13 (set13_cells (show ((w3.setCell ⟨b, 6, none⟩ (.int .u64 (x0 : Nat))).setCell ⟨b, 4, none⟩ (.int .i64 x1)).heap[w.heap.size]? = some (.cells #[.int .i64 0, .int .i64 0, .int .i64 0, .int .i64 0, .int .i64 0, .int .i64 0, .int .u64 0, .int .i64 0, .int .i64 0, .bool false, .bool false, .int .i64 0, .int .i64 0] 32 (0, 0)) from by rw [heap_setCell_other _ _ _ _ hne1, heap_setCell_other _ _ _ _ hne1]; exact hx9.out) (.int .i64 op) (.int .i64 bn) (.int .i64 sh) (.int .i64 0) (.int .i64 x1) (.int .i64 0) (.int .u64 (x0 : Nat)) (.int .i64 0) (.int .i64 0) (.bool false) (.bool false) (.int .i64 0) (.int .i64 0))
    simp [results, Tryz.f71, go_sem, z0, z1, z2, z3, z4, z5, z6, z7, z8, z9, z10, z11, z12, inV, inC, inZ]
  · repeat refine Keep.setNew ?_ _ _ _ (Nat.le_refl _)
    repeat refine Keep.setIn ?_ _ _ _ hS.out
    exact hK3.out
  · intro b' r' hb'
    have hl' := (hall'.out b' _ hb').2
    have hnB : ¬ b' = w.heap.size := by omega
    have hbx0 := ((hbx'.out b' r' hb').of_block (hb1'.out.block b' hl')).of_block (hkk3.out.2.2.2.2 b' (by have := hsz.out; omega) (fun e => by rw [e, hgrb'.out] at hb'; cases hb'))
    by_cases hbb : b' = b
    · have hr : r' = .imm op bn sh := by
        rw [hbb, hbG.out] at hb'
        exact (Gh.box.inj (Option.some.inj hb')).symm
      rw [hr, hbb]
      refine ⟨x1, (x0 : Nat), (set13_other hne2 _ _ _ _ _ _ _ _ _ _ _ _ _).trans ?_⟩
      rw [heap_setCell_same _ _ _ _ _ _ (heap_setCell_same _ _ _ _ _ _ (hb9.out))]
      simp only [List.setIfInBounds_toArray, List.set_cons_zero, List.set_cons_succ]
    · refine hbx0.of_block ((set13_other hnB _ _ _ _ _ _ _ _ _ _ _ _ _).trans ?_)
      rw [heap_setCell_other _ _ _ _ hbb, heap_setCell_other _ _ _ _ hbb]
set_option maxRecDepth 100000 in
set_option maxHeartbeats 8000000 in
theorem call_one (op : Int) (b : Nat) (G : Nat → Option Gh) (F : Nat → Prop) (w0 w : World) (rb : Nat) (l : List (List UInt8)) (h : Ask G F w0 w rb l) (hb : G b = some (.box (.one op))) :
    Calls Tryz.prog 74 #[.pointer (some ⟨rb, 0, none⟩), .pointer (some ⟨b, 0, none⟩)] w (ReadPost G (rdM (.one op) l) rb w) := by
  obtain ⟨hE, hB, hrlo, hrd, hfr, hgrb, hall, hbx⟩ := h
  have hrl : rb < w.heap.size := by obtain ⟨A, c, t, h1, _⟩ := hrd; exact blk_lt h1
  have hbl := (hall b _ hb).2
  have hbr : ¬ b = rb := fun e => by rw [e, hgrb] at hb; cases hb
  obtain ⟨W1, hW1⟩ : ∃ W1, w.alloc (.cells #[.int .i64 0, .int .i64 0, .int .i64 0, .int .i64 0, .int .i64 0, .int .i64 0, .int .u64 0, .int .i64 0, .int .i64 0, .bool false, .bool false, .int .i64 0, .int .i64 0] 32) = W1 := ⟨_, rfl⟩
  have hb1 : Below w.heap.size w W1 := by rw [← hW1]; exact below_new w _
  have hx1 := Lib.hid (show W1.heap[w.heap.size]? = some (.cells #[.int .i64 0, .int .i64 0, .int .i64 0, .int .i64 0, .int .i64 0, .int .i64 0, .int .u64 0, .int .i64 0, .int .i64 0, .bool false, .bool false, .int .i64 0, .int .i64 0] 32 (0, 0)) from by rw [← hW1]; exact heap_alloc_new _ _)
  have hs1 : W1.heap.size = w.heap.size + 1 := by rw [← hW1]; simp
  have hB1 := hB.trans (hb1.mono hB.size)
  have hk1 := Lib.hid (Keep.of_below (S := Tch G rb) hb1)
  obtain ⟨d, hbox⟩ := hbx b _ hb
  have hbox1 := Lib.hid ((hb1.block b hbl).trans hbox)
  have hrA := Lib.hid (reg69_any F rb l w0 W1 hE hB1 hrlo (hrd.below hb1))
  unfold RPost at hrA
  show Calls Tryz.prog _ _ w (ReadPost G { inZ op with ds := regP (l.getD 0 []) } rb w)
  rw [headD_get]
  obtain ⟨x0, hx0⟩ : ∃ x, regP (l.headD []) = x := ⟨_, rfl⟩
  rw [hx0] at hrA ⊢
  clear hx0
  have hB1' := Lib.hid hB1
  have hfr' := Lib.hid hfr
  have hrlo' := Lib.hid hrlo
  have hbx' := Lib.hid hbx
  have hall' := Lib.hid hall
  have hgrb' := Lib.hid hgrb
  have hbG := Lib.hid hb
  have hW1' := Lib.hid hW1
  have hS := Lib.hid (show Tch G rb b from .inr ⟨_, hb⟩)
  have hsz := Lib.hid (show rb < w.heap.size ∧ b < w.heap.size ∧ W1.heap.size = w.heap.size + 1 from ⟨hrl, hbl, hs1⟩)
  have hb1' := Lib.hid hb1
  clear hE hB hrlo hrd hfr hgrb hall hbx hb hW1 hb1 hB1 hs1 hrl hbl hbox
  go_enter Tryz.func74, Tryz.ntmps74
  go_wp2_with fail
  rw [hW1'.out]
  refine hrA.out.mono ?_
  rintro e w2 ⟨rfl, hr2, hk2⟩
  have hr2' := Lib.hid hr2
  have hkk2 := Lib.hid hk2
  have hK2 := Lib.hid (hk1.out.trans (Keep.tch (G := G) hk2))
  clear hr2 hk2
  have hb9 := Lib.hid (hkk2.out.at hbox1.out hbr)
  have hx9 := Lib.hid (hkk2.out.at hx1.out (by have := hsz.out; omega))
  obtain ⟨k0, k1, k2, k3, k4, k5, k6, k7, k8, k9, k10, k11, k12⟩ := box13 hb9.out
  have hf1 := frz hb9.out
  obtain ⟨c0, c1, c2, c3, c4, c5, c6, c7, c8, c9, c10, c11, c12⟩ := box13 hx9.out
  have hf2 := frz hx9.out
  have hne1 : ¬ w.heap.size = b := by have := hsz.out; omega
  have hne2 : ¬ b = w.heap.size := by have := hsz.out; omega
  go_wp2_with fail
  refine bodyPost_ret (v := inV { inZ op with ds := x0 }) ?_ rfl ⟨rfl, ?_, ?_⟩
  · obtain ⟨z0, z1, z2, z3, z4, z5, z6, z7, z8, z9, z10, z11, z12⟩ := box13 (set13_cells (show (w2.setCell ⟨b, 4, none⟩ (.int .i64 x0)).heap[w.heap.size]? = some (.cells #[.int .i64 0, .int .i64 0, .int .i64 0, .int .i64 0, .int .i64 0, .int .i64 0, .int .u64 0, .int .i64 0, .int .i64 0, .bool false, .bool false, .int .i64 0, .int .i64 0] 32 (0, 0)) from by rw [heap_setCell_other _ _ _ _ hne1]; exact hx9.out) (.int .i64 op) (.int .i64 0) (.int .i64 0) (.int .i64 0) (.int .i64 x0) (.int .i64 0) (.int .u64 0) (.int .i64 0) (.int .i64 0) (.bool false) (.bool false) (.int .i64 0) (.int .i64 0))
    simp [results, Tryz.f74, go_sem, z0, z1, z2, z3, z4, z5, z6, z7, z8, z9, z10, z11, z12, inV, inC, inZ]
  · repeat refine Keep.setNew ?_ _ _ _ (Nat.le_refl _)
    repeat refine Keep.setIn ?_ _ _ _ hS.out
    exact hK2.out
  · intro b' r' hb'
    have hl' := (hall'.out b' _ hb').2
    have hnB : ¬ b' = w.heap.size := by omega
    have hbx0 := ((hbx'.out b' r' hb').of_block (hb1'.out.block b' hl')).of_block (hkk2.out.2.2.2.2 b' (by have := hsz.out; omega) (fun e => by rw [e, hgrb'.out] at hb'; cases hb'))
    by_cases hbb : b' = b
    · have hr : r' = .one op := by
        rw [hbb, hbG.out] at hb'
        exact (Gh.box.inj (Option.some.inj hb')).symm
      rw [hr, hbb]
      refine ⟨x0, (set13_other hne2 _ _ _ _ _ _ _ _ _ _ _ _ _).trans ?_⟩
      rw [heap_setCell_same _ _ _ _ _ _ (hb9.out)]
      simp only [List.setIfInBounds_toArray, List.set_cons_zero, List.set_cons_succ]
    · refine hbx0.of_block ((set13_other hnB _ _ _ _ _ _ _ _ _ _ _ _ _).trans ?_)
      rw [heap_setCell_other _ _ _ _ hbb]
set_option maxRecDepth 100000 in
set_option maxHeartbeats 8000000 in
theorem call_lbl (op cd : Int) (b : Nat) (G : Nat → Option Gh) (F : Nat → Prop) (w0 w : World) (rb : Nat) (l : List (List UInt8)) (h : Ask G F w0 w rb l) (hb : G b = some (.box (.lbl op cd))) :
    Calls Tryz.prog 76 #[.pointer (some ⟨rb, 0, none⟩), .pointer (some ⟨b, 0, none⟩)] w (ReadPost G (rdM (.lbl op cd) l) rb w) := by
  obtain ⟨hE, hB, hrlo, hrd, hfr, hgrb, hall, hbx⟩ := h
  have hrl : rb < w.heap.size := by obtain ⟨A, c, t, h1, _⟩ := hrd; exact blk_lt h1
  have hbl := (hall b _ hb).2
  have hbr : ¬ b = rb := fun e => by rw [e, hgrb] at hb; cases hb
  obtain ⟨W1, hW1⟩ : ∃ W1, w.alloc (.cells #[.int .i64 0, .int .i64 0, .int .i64 0, .int .i64 0, .int .i64 0, .int .i64 0, .int .u64 0, .int .i64 0, .int .i64 0, .bool false, .bool false, .int .i64 0, .int .i64 0] 32) = W1 := ⟨_, rfl⟩
  have hb1 : Below w.heap.size w W1 := by rw [← hW1]; exact below_new w _
  have hx1 := Lib.hid (show W1.heap[w.heap.size]? = some (.cells #[.int .i64 0, .int .i64 0, .int .i64 0, .int .i64 0, .int .i64 0, .int .i64 0, .int .u64 0, .int .i64 0, .int .i64 0, .bool false, .bool false, .int .i64 0, .int .i64 0] 32 (0, 0)) from by rw [← hW1]; exact heap_alloc_new _ _)
  have hs1 : W1.heap.size = w.heap.size + 1 := by rw [← hW1]; simp
  have hB1 := hB.trans (hb1.mono hB.size)
  have hk1 := Lib.hid (Keep.of_below (S := Tch G rb) hb1)
  obtain ⟨n, hbox⟩ := hbx b _ hb
  have hbox1 := Lib.hid ((hb1.block b hbl).trans hbox)
  have hrA := Lib.hid (label64_any F rb l w0 W1 hE hB1 hrlo (hrd.below hb1))
  unfold RPost at hrA
  show Calls Tryz.prog _ _ w (ReadPost G { inZ op with cd := cd, lb := lblP (l.getD 0 []) } rb w)
  rw [headD_get]
  obtain ⟨x0, hx0⟩ : ∃ x, lblP (l.headD []) = x := ⟨_, rfl⟩
  rw [hx0] at hrA ⊢
  clear hx0
  have hB1' := Lib.hid hB1
  have hfr' := Lib.hid hfr
  have hrlo' := Lib.hid hrlo
  have hbx' := Lib.hid hbx
  have hall' := Lib.hid hall
  have hgrb' := Lib.hid hgrb
  have hbG := Lib.hid hb
  have hW1' := Lib.hid hW1
  have hS := Lib.hid (show Tch G rb b from .inr ⟨_, hb⟩)
  have hsz := Lib.hid (show rb < w.heap.size ∧ b < w.heap.size ∧ W1.heap.size = w.heap.size + 1 from ⟨hrl, hbl, hs1⟩)
  have hb1' := Lib.hid hb1
  clear hE hB hrlo hrd hfr hgrb hall hbx hb hW1 hb1 hB1 hs1 hrl hbl hbox
  go_enter Tryz.func76, Tryz.ntmps76
  go_wp2_with fail
  rw [hW1'.out]
  refine hrA.out.mono ?_
  rintro e w2 ⟨rfl, hr2, hk2⟩
  have hr2' := Lib.hid hr2
  have hkk2 := Lib.hid hk2
  have hK2 := Lib.hid (hk1.out.trans (Keep.tch (G := G) hk2))
  clear hr2 hk2
  have hb9 := Lib.hid (hkk2.out.at hbox1.out hbr)
  have hx9 := Lib.hid (hkk2.out.at hx1.out (by have := hsz.out; omega))
  obtain ⟨k0, k1, k2, k3, k4, k5, k6, k7, k8, k9, k10, k11, k12⟩ := box13 hb9.out
  have hf1 := frz hb9.out
  obtain ⟨c0, c1, c2, c3, c4, c5, c6, c7, c8, c9, c10, c11, c12⟩ := box13 hx9.out
  have hf2 := frz hx9.out
  have hne1 : ¬ w.heap.size = b := by have := hsz.out; omega
  have hne2 : ¬ b = w.heap.size := by have := hsz.out; omega
  go_wp2_with fail
  refine bodyPost_ret (v := inV { inZ op with cd := cd, lb := x0 }) ?_ rfl ⟨rfl, ?_, ?_⟩
  · obtain ⟨z0, z1, z2, z3, z4, z5, z6, z7, z8, z9, z10, z11, z12⟩ := box13 (set13_cells (show (w2.setCell ⟨b, 12, none⟩ (.int .i64 x0)).heap[w.heap.size]? = some (.cells #[.int .i64 0, .int .i64 0, .int .i64 0, .int .i64 0, .int .i64 0, .int .i64 0, .int .u64 0, .int .i64 0, .int .i64 0, .bool false, .bool false, .int .i64 0, .int .i64 0] 32 (0, 0)) from by rw [heap_setCell_other _ _ _ _ hne1]; exact hx9.out) (.int .i64 op) (.int .i64 0) (.int .i64 0) (.int .i64 cd) (.int .i64 0) (.int .i64 0) (.int .u64 0) (.int .i64 0) (.int .i64 0) (.bool false) (.bool false) (.int .i64 0) (.int .i64 x0))
    simp [results, Tryz.f76, go_sem, z0, z1, z2, z3, z4, z5, z6, z7, z8, z9, z10, z11, z12, inV, inC, inZ]
  · repeat refine Keep.setNew ?_ _ _ _ (Nat.le_refl _)
    repeat refine Keep.setIn ?_ _ _ _ hS.out
    exact hK2.out
  · intro b' r' hb'
    have hl' := (hall'.out b' _ hb').2
    have hnB : ¬ b' = w.heap.size := by omega
    have hbx0 := ((hbx'.out b' r' hb').of_block (hb1'.out.block b' hl')).of_block (hkk2.out.2.2.2.2 b' (by have := hsz.out; omega) (fun e => by rw [e, hgrb'.out] at hb'; cases hb'))
    by_cases hbb : b' = b
    · have hr : r' = .lbl op cd := by
        rw [hbb, hbG.out] at hb'
        exact (Gh.box.inj (Option.some.inj hb')).symm
      rw [hr, hbb]
      refine ⟨x0, (set13_other hne2 _ _ _ _ _ _ _ _ _ _ _ _ _).trans ?_⟩
      rw [heap_setCell_same _ _ _ _ _ _ (hb9.out)]
      simp only [List.setIfInBounds_toArray, List.set_cons_zero, List.set_cons_succ]
    · refine hbx0.of_block ((set13_other hnB _ _ _ _ _ _ _ _ _ _ _ _ _).trans ?_)
      rw [heap_setCell_other _ _ _ _ hbb]
set_option maxRecDepth 100000 in
set_option maxHeartbeats 8000000 in
theorem call_load (G : Nat → Option Gh) (F : Nat → Prop) (w0 w : World) (rb : Nat) (l : List (List UInt8)) (h : Ask G F w0 w rb l) :
    Calls Tryz.prog 77 #[.pointer (some ⟨rb, 0, none⟩)] w (ReadPost G (rdM (.load) l) rb w) := by
  obtain ⟨hE, hB, hrlo, hrd, hfr, hgrb, hall, hbx⟩ := h
  have hrl : rb < w.heap.size := by obtain ⟨A, c, t, h1, _⟩ := hrd; exact blk_lt h1
  obtain ⟨W1, hW1⟩ : ∃ W1, w.alloc (.cells #[.int .i64 0, .int .i64 0, .int .i64 0, .int .i64 0, .int .i64 0, .int .i64 0, .int .u64 0, .int .i64 0, .int .i64 0, .bool false, .bool false, .int .i64 0, .int .i64 0] 32) = W1 := ⟨_, rfl⟩
  have hb1 : Below w.heap.size w W1 := by rw [← hW1]; exact below_new w _
  have hx1 := Lib.hid (show W1.heap[w.heap.size]? = some (.cells #[.int .i64 0, .int .i64 0, .int .i64 0, .int .i64 0, .int .i64 0, .int .i64 0, .int .u64 0, .int .i64 0, .int .i64 0, .bool false, .bool false, .int .i64 0, .int .i64 0] 32 (0, 0)) from by rw [← hW1]; exact heap_alloc_new _ _)
  have hs1 : W1.heap.size = w.heap.size + 1 := by rw [← hW1]; simp
  have hB1 := hB.trans (hb1.mono hB.size)
  have hk1 := Lib.hid (Keep.of_below (S := Tch G rb) hb1)
  have hF1 : ∀ b, F b → b < W1.heap.size := fun b hb => by have := (hfr b hb).1; omega
  have hrA := Lib.hid (addr78_any F rb l w0 W1 hE hB1 hrlo hF1 (hrd.below hb1))
  unfold RPost at hrA
  have hrB := Lib.hid (fun (W : World) (hW : Below w0.heap.size w0 W) (hs : W1.heap.size ≤ W.heap.size) (hr : RdAt F W rb l.tail) => reg69_any F rb l.tail w0 W hE hW hrlo hr)
  unfold RPost at hrB
  show Calls Tryz.prog _ _ w (ReadPost G { inZ 3 with ba := (addrP (l.getD 0 [])).ba, ix := (addrP (l.getD 0 [])).ix, hb := (addrP (l.getD 0 [])).hb, hi := (addrP (l.getD 0 [])).hi, dp := (addrP (l.getD 0 [])).dp, ds := regP (l.getD 1 []) } rb w)
  rw [headD_get, tail_get]
  obtain ⟨x0, hx0'⟩ : ∃ x, addrP (l.headD []) = x := ⟨_, rfl⟩
  rw [hx0'] at hrA ⊢
  clear hx0'
  unfold AdV adV at hrA
  obtain ⟨x1, hx1'⟩ : ∃ x, regP (l.tail.headD []) = x := ⟨_, rfl⟩
  rw [hx1'] at hrB ⊢
  clear hx1'
  have hB1' := Lib.hid hB1
  have hfr' := Lib.hid hfr
  have hrlo' := Lib.hid hrlo
  have hbx' := Lib.hid hbx
  have hall' := Lib.hid hall
  have hgrb' := Lib.hid hgrb
  have hW1' := Lib.hid hW1
  have hsz := Lib.hid (show rb < w.heap.size ∧ W1.heap.size = w.heap.size + 1 from ⟨hrl, hs1⟩)
  have hb1' := Lib.hid hb1
  clear hE hB hrlo hrd hfr hgrb hall hbx hW1 hb1 hB1 hs1 hrl hF1
  go_enter Tryz.func77, Tryz.ntmps77
  go_wp2_with fail
  rw [hW1'.out]
  refine hrA.out.mono ?_
  rintro e w2 ⟨rfl, hr2, hk2⟩
  have hr2' := Lib.hid hr2
  have hkk2 := Lib.hid hk2
  have hK2 := Lib.hid (hk1.out.trans (Keep.tch (G := G) hk2))
  clear hr2 hk2
  go_wp2_with fail
  refine (hrB.out w2 (hkk2.out.on hB1'.out (fun k e => by rw [e]; exact hrlo'.out)) hkk2.out.2.2.2.1 hr2'.out).mono ?_
  rintro e w3 ⟨rfl, hr3, hk3⟩
  have hkk3 := Lib.hid (hkk2.out.trans hk3)
  have hK3 := Lib.hid (hK2.out.trans (Keep.tch (G := G) hk3))
  clear hr3 hk3
  have hx9 := Lib.hid (hkk3.out.at hx1.out (by have := hsz.out; omega))
  obtain ⟨c0, c1, c2, c3, c4, c5, c6, c7, c8, c9, c10, c11, c12⟩ := box13 hx9.out
  have hf2 := frz hx9.out
  go_wp2_with fail
  refine bodyPost_ret (v := inV { inZ 3 with ba := x0.ba, ix := x0.ix, hb := x0.hb, hi := x0.hi, dp := x0.dp, ds := x1 }) ?_ rfl ⟨rfl, ?_, ?_⟩
  · obtain ⟨z0, z1, z2, z3, z4, z5, z6, z7, z8, z9, z10, z11, z12⟩ := box13 (set13_cells hx9.out (.int .i64 3) (.int .i64 0) (.int .i64 0) (.int .i64 0) (.int .i64 x1) (.int .i64 0) (.int .u64 0) (.int .i64 x0.ba) (.int .i64 x0.ix) (.bool x0.hb) (.bool x0.hi) (.int .i64 x0.dp) (.int .i64 0))
    simp [results, Tryz.f77, go_sem, z0, z1, z2, z3, z4, z5, z6, z7, z8, z9, z10, z11, z12, inV, inC, inZ]
  · repeat refine Keep.setNew ?_ _ _ _ (Nat.le_refl _)
    exact hK3.out
  · intro b' r' hb'
    have hl' := (hall'.out b' _ hb').2
    have hnB : ¬ b' = w.heap.size := by omega
    have hbx0 := ((hbx'.out b' r' hb').of_block (hb1'.out.block b' hl')).of_block (hkk3.out.2.2.2.2 b' (by have := hsz.out; omega) (fun e => by rw [e, hgrb'.out] at hb'; cases hb'))
    exact hbx0.of_block (set13_other hnB _ _ _ _ _ _ _ _ _ _ _ _ _)
set_option maxRecDepth 100000 in
set_option maxHeartbeats 8000000 in
theorem call_store (G : Nat → Option Gh) (F : Nat → Prop) (w0 w : World) (rb : Nat) (l : List (List UInt8)) (h : Ask G F w0 w rb l) :
    Calls Tryz.prog 79 #[.pointer (some ⟨rb, 0, none⟩)] w (ReadPost G (rdM (.store) l) rb w) := by
  obtain ⟨hE, hB, hrlo, hrd, hfr, hgrb, hall, hbx⟩ := h
  have hrl : rb < w.heap.size := by obtain ⟨A, c, t, h1, _⟩ := hrd; exact blk_lt h1
  obtain ⟨W1, hW1⟩ : ∃ W1, w.alloc (.cells #[.int .i64 0, .int .i64 0, .int .i64 0, .int .i64 0, .int .i64 0, .int .i64 0, .int .u64 0, .int .i64 0, .int .i64 0, .bool false, .bool false, .int .i64 0, .int .i64 0] 32) = W1 := ⟨_, rfl⟩
  have hb1 : Below w.heap.size w W1 := by rw [← hW1]; exact below_new w _
  have hx1 := Lib.hid (show W1.heap[w.heap.size]? = some (.cells #[.int .i64 0, .int .i64 0, .int .i64 0, .int .i64 0, .int .i64 0, .int .i64 0, .int .u64 0, .int .i64 0, .int .i64 0, .bool false, .bool false, .int .i64 0, .int .i64 0] 32 (0, 0)) from by rw [← hW1]; exact heap_alloc_new _ _)
  have hs1 : W1.heap.size = w.heap.size + 1 := by rw [← hW1]; simp
  have hB1 := hB.trans (hb1.mono hB.size)
  have hk1 := Lib.hid (Keep.of_below (S := Tch G rb) hb1)
  have hF1 : ∀ b, F b → b < W1.heap.size := fun b hb => by have := (hfr b hb).1; omega
  have hrA := Lib.hid (reg69_any F rb l w0 W1 hE hB1 hrlo (hrd.below hb1))
  unfold RPost at hrA
  have hrB := Lib.hid (fun (W : World) (hW : Below w0.heap.size w0 W) (hs : W1.heap.size ≤ W.heap.size) (hr : RdAt F W rb l.tail) => addr78_any F rb l.tail w0 W hE hW hrlo (fun b hb => Nat.lt_of_lt_of_le (hF1 b hb) hs) hr)
  unfold RPost at hrB
  show Calls Tryz.prog _ _ w (ReadPost G { inZ 4 with sr := regP (l.getD 0 []), ba := (addrP (l.getD 1 [])).ba, ix := (addrP (l.getD 1 [])).ix, hb := (addrP (l.getD 1 [])).hb, hi := (addrP (l.getD 1 [])).hi, dp := (addrP (l.getD 1 [])).dp } rb w)
  rw [headD_get, tail_get]
  obtain ⟨x0, hx0'⟩ : ∃ x, regP (l.headD []) = x := ⟨_, rfl⟩
  rw [hx0'] at hrA ⊢
  clear hx0'
  obtain ⟨x1, hx1'⟩ : ∃ x, addrP (l.tail.headD []) = x := ⟨_, rfl⟩
  rw [hx1'] at hrB ⊢
  clear hx1'
  unfold AdV adV at hrB
  have hB1' := Lib.hid hB1
  have hfr' := Lib.hid hfr
  have hrlo' := Lib.hid hrlo
  have hbx' := Lib.hid hbx
  have hall' := Lib.hid hall
  have hgrb' := Lib.hid hgrb
  have hW1' := Lib.hid hW1
  have hsz := Lib.hid (show rb < w.heap.size ∧ W1.heap.size = w.heap.size + 1 from ⟨hrl, hs1⟩)
  have hb1' := Lib.hid hb1
  clear hE hB hrlo hrd hfr hgrb hall hbx hW1 hb1 hB1 hs1 hrl hF1
  go_enter Tryz.func79, Tryz.ntmps79
  go_wp2_with fail
  rw [hW1'.out]
  refine hrA.out.mono ?_
  rintro e w2 ⟨rfl, hr2, hk2⟩
  have hr2' := Lib.hid hr2
  have hkk2 := Lib.hid hk2
  have hK2 := Lib.hid (hk1.out.trans (Keep.tch (G := G) hk2))
  clear hr2 hk2
  go_wp2_with fail
  refine (hrB.out w2 (hkk2.out.on hB1'.out (fun k e => by rw [e]; exact hrlo'.out)) hkk2.out.2.2.2.1 hr2'.out).mono ?_
  rintro e w3 ⟨rfl, hr3, hk3⟩
  have hkk3 := Lib.hid (hkk2.out.trans hk3)
  have hK3 := Lib.hid (hK2.out.trans (Keep.tch (G := G) hk3))
  clear hr3 hk3
  have hx9 := Lib.hid (hkk3.out.at hx1.out (by have := hsz.out; omega))
  obtain ⟨c0, c1, c2, c3, c4, c5, c6, c7, c8, c9, c10, c11, c12⟩ := box13 hx9.out
  have hf2 := frz hx9.out
  go_wp2_with fail
  refine bodyPost_ret (v := inV { inZ 4 with sr := x0, ba := x1.ba, ix := x1.ix, hb := x1.hb, hi := x1.hi, dp := x1.dp }) ?_ rfl ⟨rfl, ?_, ?_⟩
  · obtain ⟨z0, z1, z2, z3, z4, z5, z6, z7, z8, z9, z10, z11, z12⟩ := box13 (set13_cells hx9.out (.int .i64 4) (.int .i64 0) (.int .i64 0) (.int .i64 0) (.int .i64 0) (.int .i64 x0) (.int .u64 0) (.int .i64 x1.ba) (.int .i64 x1.ix) (.bool x1.hb) (.bool x1.hi) (.int .i64 x1.dp) (.int .i64 0))
    simp [results, Tryz.f79, go_sem, z0, z1, z2, z3, z4, z5, z6, z7, z8, z9, z10, z11, z12, inV, inC, inZ]
  · repeat refine Keep.setNew ?_ _ _ _ (Nat.le_refl _)
    exact hK3.out
  · intro b' r' hb'
    have hl' := (hall'.out b' _ hb').2
    have hnB : ¬ b' = w.heap.size := by omega
    have hbx0 := ((hbx'.out b' r' hb').of_block (hb1'.out.block b' hl')).of_block (hkk3.out.2.2.2.2 b' (by have := hsz.out; omega) (fun e => by rw [e, hgrb'.out] at hb'; cases hb'))
    exact hbx0.of_block (set13_other hnB _ _ _ _ _ _ _ _ _ _ _ _ _)
set_option maxRecDepth 100000 in
set_option maxHeartbeats 8000000 in
theorem call_byte (G : Nat → Option Gh) (F : Nat → Prop) (w0 w : World) (rb : Nat) (l : List (List UInt8)) (h : Ask G F w0 w rb l) :
    Calls Tryz.prog 80 #[.pointer (some ⟨rb, 0, none⟩)] w (ReadPost G (rdM (.byte) l) rb w) := by
  obtain ⟨hE, hB, hrlo, hrd, hfr, hgrb, hall, hbx⟩ := h
  have hrl : rb < w.heap.size := by obtain ⟨A, c, t, h1, _⟩ := hrd; exact blk_lt h1
  obtain ⟨W1, hW1⟩ : ∃ W1, w.alloc (.cells #[.int .i64 0, .int .i64 0, .int .i64 0, .int .i64 0, .int .i64 0, .int .i64 0, .int .u64 0, .int .i64 0, .int .i64 0, .bool false, .bool false, .int .i64 0, .int .i64 0] 32) = W1 := ⟨_, rfl⟩
  have hb1 : Below w.heap.size w W1 := by rw [← hW1]; exact below_new w _
  have hx1 := Lib.hid (show W1.heap[w.heap.size]? = some (.cells #[.int .i64 0, .int .i64 0, .int .i64 0, .int .i64 0, .int .i64 0, .int .i64 0, .int .u64 0, .int .i64 0, .int .i64 0, .bool false, .bool false, .int .i64 0, .int .i64 0] 32 (0, 0)) from by rw [← hW1]; exact heap_alloc_new _ _)
  have hs1 : W1.heap.size = w.heap.size + 1 := by rw [← hW1]; simp
  have hB1 := hB.trans (hb1.mono hB.size)
  have hk1 := Lib.hid (Keep.of_below (S := Tch G rb) hb1)
  have hF1 : ∀ b, F b → b < W1.heap.size := fun b hb => by have := (hfr b hb).1; omega
  have hrA := Lib.hid (low81_any F rb l w0 W1 hE hB1 hrlo (hrd.below hb1))
  unfold RPost at hrA
  have hrB := Lib.hid (fun (W : World) (hW : Below w0.heap.size w0 W) (hs : W1.heap.size ≤ W.heap.size) (hr : RdAt F W rb l.tail) => reg69_any F rb l.tail w0 W hE hW hrlo hr)
  unfold RPost at hrB
  show Calls Tryz.prog _ _ w (ReadPost G { inZ 15 with sr := lowP (l.getD 0 []), ds := regP (l.getD 1 []) } rb w)
  rw [headD_get, tail_get]
  obtain ⟨x0, hx0'⟩ : ∃ x, lowP (l.headD []) = x := ⟨_, rfl⟩
  rw [hx0'] at hrA ⊢
  clear hx0'
  obtain ⟨x1, hx1'⟩ : ∃ x, regP (l.tail.headD []) = x := ⟨_, rfl⟩
  rw [hx1'] at hrB ⊢
  clear hx1'
  have hB1' := Lib.hid hB1
  have hfr' := Lib.hid hfr
  have hrlo' := Lib.hid hrlo
  have hbx' := Lib.hid hbx
  have hall' := Lib.hid hall
  have hgrb' := Lib.hid hgrb
  have hW1' := Lib.hid hW1
  have hsz := Lib.hid (show rb < w.heap.size ∧ W1.heap.size = w.heap.size + 1 from ⟨hrl, hs1⟩)
  have hb1' := Lib.hid hb1
  clear hE hB hrlo hrd hfr hgrb hall hbx hW1 hb1 hB1 hs1 hrl hF1
  go_enter Tryz.func80, Tryz.ntmps80
  go_wp2_with fail
  rw [hW1'.out]
  refine hrA.out.mono ?_
  rintro e w2 ⟨rfl, hr2, hk2⟩
  have hr2' := Lib.hid hr2
  have hkk2 := Lib.hid hk2
  have hK2 := Lib.hid (hk1.out.trans (Keep.tch (G := G) hk2))
  clear hr2 hk2
  go_wp2_with fail
  refine (hrB.out w2 (hkk2.out.on hB1'.out (fun k e => by rw [e]; exact hrlo'.out)) hkk2.out.2.2.2.1 hr2'.out).mono ?_
  rintro e w3 ⟨rfl, hr3, hk3⟩
  have hkk3 := Lib.hid (hkk2.out.trans hk3)
  have hK3 := Lib.hid (hK2.out.trans (Keep.tch (G := G) hk3))
  clear hr3 hk3
  have hx9 := Lib.hid (hkk3.out.at hx1.out (by have := hsz.out; omega))
  obtain ⟨c0, c1, c2, c3, c4, c5, c6, c7, c8, c9, c10, c11, c12⟩ := box13 hx9.out
  have hf2 := frz hx9.out
  go_wp2_with fail
  refine bodyPost_ret (v := inV { inZ 15 with sr := x0, ds := x1 }) ?_ rfl ⟨rfl, ?_, ?_⟩
  · obtain ⟨z0, z1, z2, z3, z4, z5, z6, z7, z8, z9, z10, z11, z12⟩ := box13 (set13_cells hx9.out (.int .i64 15) (.int .i64 0) (.int .i64 0) (.int .i64 0) (.int .i64 x1) (.int .i64 x0) (.int .u64 0) (.int .i64 0) (.int .i64 0) (.bool false) (.bool false) (.int .i64 0) (.int .i64 0))
    simp [results, Tryz.f80, go_sem, z0, z1, z2, z3, z4, z5, z6, z7, z8, z9, z10, z11, z12, inV, inC, inZ]
  · repeat refine Keep.setNew ?_ _ _ _ (Nat.le_refl _)
    exact hK3.out
  · intro b' r' hb'
    have hl' := (hall'.out b' _ hb').2
    have hnB : ¬ b' = w.heap.size := by omega
    have hbx0 := ((hbx'.out b' r' hb').of_block (hb1'.out.block b' hl')).of_block (hkk3.out.2.2.2.2 b' (by have := hsz.out; omega) (fun e => by rw [e, hgrb'.out] at hb'; cases hb'))
    exact hbx0.of_block (set13_other hnB _ _ _ _ _ _ _ _ _ _ _ _ _)
set_option maxRecDepth 100000 in
set_option maxHeartbeats 8000000 in
theorem call_ret (G : Nat → Option Gh) (F : Nat → Prop) (w0 w : World) (rb : Nat) (l : List (List UInt8)) (h : Ask G F w0 w rb l) :
    Calls Tryz.prog 82 #[.pointer (some ⟨rb, 0, none⟩)] w (ReadPost G (rdM (.ret) l) rb w) := by
  obtain ⟨hE, hB, hrlo, hrd, hfr, hgrb, hall, hbx⟩ := h
  have hrl : rb < w.heap.size := by obtain ⟨A, c, t, h1, _⟩ := hrd; exact blk_lt h1
  obtain ⟨W1, hW1⟩ : ∃ W1, w.alloc (.cells #[.int .i64 0, .int .i64 0, .int .i64 0, .int .i64 0, .int .i64 0, .int .i64 0, .int .u64 0, .int .i64 0, .int .i64 0, .bool false, .bool false, .int .i64 0, .int .i64 0] 32) = W1 := ⟨_, rfl⟩
  have hb1 : Below w.heap.size w W1 := by rw [← hW1]; exact below_new w _
  have hx1 := Lib.hid (show W1.heap[w.heap.size]? = some (.cells #[.int .i64 0, .int .i64 0, .int .i64 0, .int .i64 0, .int .i64 0, .int .i64 0, .int .u64 0, .int .i64 0, .int .i64 0, .bool false, .bool false, .int .i64 0, .int .i64 0] 32 (0, 0)) from by rw [← hW1]; exact heap_alloc_new _ _)
  have hs1 : W1.heap.size = w.heap.size + 1 := by rw [← hW1]; simp
  have hB1 := hB.trans (hb1.mono hB.size)
  have hk1 := Lib.hid (Keep.of_below (S := Tch G rb) hb1)
  have hF1 : ∀ b, F b → b < W1.heap.size := fun b hb => by have := (hfr b hb).1; omega
  show Calls Tryz.prog _ _ w (ReadPost G (inZ 20) rb w)
  have hB1' := Lib.hid hB1
  have hfr' := Lib.hid hfr
  have hrlo' := Lib.hid hrlo
  have hbx' := Lib.hid hbx
  have hall' := Lib.hid hall
  have hgrb' := Lib.hid hgrb
  have hW1' := Lib.hid hW1
  have hsz := Lib.hid (show rb < w.heap.size ∧ W1.heap.size = w.heap.size + 1 from ⟨hrl, hs1⟩)
  have hb1' := Lib.hid hb1
  clear hE hB hrlo hrd hfr hgrb hall hbx hW1 hb1 hB1 hs1 hrl hF1
  go_enter Tryz.func82, Tryz.ntmps82
  go_wp2_with fail
  refine bodyPost_ret (v := inV (inZ 20)) ?_ rfl ⟨rfl, ?_, ?_⟩
  · obtain ⟨z0, z1, z2, z3, z4, z5, z6, z7, z8, z9, z10, z11, z12⟩ := box13 (heap_alloc_new w (.cells #[.int .i64 20, .int .i64 0, .int .i64 0, .int .i64 0, .int .i64 0, .int .i64 0, .int .u64 0, .int .i64 0, .int .i64 0, .bool false, .bool false, .int .i64 0, .int .i64 0] 32))
    simp [results, Tryz.f82, go_sem, z0, z1, z2, z3, z4, z5, z6, z7, z8, z9, z10, z11, z12, inV, inC, inZ]
  · exact Keep.of_below (below_new _ _)
  · intro b' r' hb'
    exact (hbx'.out b' r' hb').of_block ((below_new w _).block b' (hall'.out b' _ hb').2)
set_option maxRecDepth 100000 in
set_option maxHeartbeats 8000000 in
theorem call_shc (hh : Int) (b : Nat) (G : Nat → Option Gh) (F : Nat → Prop) (w0 w : World) (rb : Nat) (l : List (List UInt8)) (h : Ask G F w0 w rb l) (hb : G b = some (.box (.shc hh))) :
    Calls Tryz.prog 85 #[.pointer (some ⟨rb, 0, none⟩), .pointer (some ⟨b, 0, none⟩)] w (ReadPost G (rdM (.shc hh) l) rb w) := by
  obtain ⟨hE, hB, hrlo, hrd, hfr, hgrb, hall, hbx⟩ := h
  have hrl : rb < w.heap.size := by obtain ⟨A, c, t, h1, _⟩ := hrd; exact blk_lt h1
  obtain ⟨W1, hW1⟩ : ∃ W1, w.alloc (.cells #[.int .i64 0, .int .i64 0, .int .i64 0, .int .i64 0, .int .i64 0, .int .i64 0, .int .u64 0, .int .i64 0, .int .i64 0, .bool false, .bool false, .int .i64 0, .int .i64 0] 32) = W1 := ⟨_, rfl⟩
  have hb1 : Below w.heap.size w W1 := by rw [← hW1]; exact below_new w _
  have hx1 := Lib.hid (show W1.heap[w.heap.size]? = some (.cells #[.int .i64 0, .int .i64 0, .int .i64 0, .int .i64 0, .int .i64 0, .int .i64 0, .int .u64 0, .int .i64 0, .int .i64 0, .bool false, .bool false, .int .i64 0, .int .i64 0] 32 (0, 0)) from by rw [← hW1]; exact heap_alloc_new _ _)
  have hs1 : W1.heap.size = w.heap.size + 1 := by rw [← hW1]; simp
  have hB1 := hB.trans (hb1.mono hB.size)
  have hk1 := Lib.hid (Keep.of_below (S := Tch G rb) hb1)
  have hF1 : ∀ b, F b → b < W1.heap.size := fun b hb => by have := (hfr b hb).1; omega
  have hbl := (hall b _ hb).2
  have hbr : ¬ b = rb := fun e => by rw [e, hgrb] at hb; cases hb
  have hbox1 := Lib.hid ((hb1.block b hbl).trans (show w.heap[b]? = some (.cells #[.int .i64 hh] 25 (0, 0)) from hbx b _ hb))
  clear hb hbl
  have hrA := Lib.hid (text86_any F rb l W1 (hrd.below hb1))
  unfold TextPost at hrA
  have hrB := Lib.hid (fun (W : World) (hW : Below w0.heap.size w0 W) (hs : W1.heap.size ≤ W.heap.size) (hr : RdAt F W rb l.tail) => reg69_any F rb l.tail w0 W hE hW hrlo hr)
  unfold RPost at hrB
  show Calls Tryz.prog _ _ w (ReadPost G { inZ 7 with sh := hh, ds := regP (l.getD 1 []) } rb w)
  rw [tail_get]
  obtain ⟨tx, htx⟩ : ∃ x, bt (l.headD []) = x := ⟨_, rfl⟩
  rw [htx] at hrA
  clear htx
  obtain ⟨x1, hx1'⟩ : ∃ x, regP (l.tail.headD []) = x := ⟨_, rfl⟩
  rw [hx1'] at hrB ⊢
  clear hx1'
  have hB1' := Lib.hid hB1
  have hfr' := Lib.hid hfr
  have hrlo' := Lib.hid hrlo
  have hbx' := Lib.hid hbx
  have hall' := Lib.hid hall
  have hgrb' := Lib.hid hgrb
  have hW1' := Lib.hid hW1
  have hsz := Lib.hid (show rb < w.heap.size ∧ W1.heap.size = w.heap.size + 1 from ⟨hrl, hs1⟩)
  have hb1' := Lib.hid hb1
  clear hE hB hrlo hrd hfr hgrb hall hbx hW1 hb1 hB1 hs1 hrl hF1
  go_enter Tryz.func85, Tryz.ntmps85
  go_wp2_with fail
  rw [hW1'.out]
  refine hrA.out.mono ?_
  rintro e w2 ⟨rfl, hr2, hk2⟩
  have hr2' := Lib.hid hr2
  have hkk2 := Lib.hid hk2
  have hK2 := Lib.hid (hk1.out.trans (Keep.tch (G := G) hk2))
  clear hr2 hk2
  go_wp2_with fail
  have d0 := box1 (hkk2.out.at hbox1.out hbr)
  go_region_with (go_at_call 69; refine (hrB.out w2.drew ((hkk2.out.on hB1'.out (fun k e => by rw [e]; exact hrlo'.out)).drew) hkk2.out.2.2.2.1 (hr2'.out.below (Below.refl _ _).drew)).mono ?_; rintro e w3 ⟨rfl, hr3, hk3⟩; have hkk3 := Lib.hid ((hkk2.out.next (Below.refl _ _).drew).trans hk3); have hK3 := Lib.hid ((hK2.out.next (Below.refl _ _).drew).trans (Keep.tch (G := G) hk3)); clear hr3 hk3; have d1 := box1 (hkk3.out.at hbox1.out hbr); have hx9 := Lib.hid (hkk3.out.at hx1.out (by have := hsz.out; omega)); obtain ⟨c0, c1, c2, c3, c4, c5, c6, c7, c8, c9, c10, c11, c12⟩ := box13 hx9.out; have hf2 := frz hx9.out)
  all_goals (
  go_wp2
  refine bodyPost_ret (v := inV { inZ 7 with sh := hh, ds := x1 }) ?_ rfl ⟨rfl, ?_, ?_⟩
  · obtain ⟨z0, z1, z2, z3, z4, z5, z6, z7, z8, z9, z10, z11, z12⟩ := box13 (set13_cells hx9.out (.int .i64 7) (.int .i64 0) (.int .i64 hh) (.int .i64 0) (.int .i64 x1) (.int .i64 0) (.int .u64 0) (.int .i64 0) (.int .i64 0) (.bool false) (.bool false) (.int .i64 0) (.int .i64 0))
    simp [results, Tryz.f85, go_sem, z0, z1, z2, z3, z4, z5, z6, z7, z8, z9, z10, z11, z12, inV, inC, inZ]
  · repeat refine Keep.setNew ?_ _ _ _ (Nat.le_refl _)
    exact hK3.out
  · intro b' r' hb'
    have hl' := (hall'.out b' _ hb').2
    have hnB : ¬ b' = w.heap.size := by omega
    have hbx0 := ((hbx'.out b' r' hb').of_block (hb1'.out.block b' hl')).of_block (hkk3.out.2.2.2.2 b' (by have := hsz.out; omega) (fun e => by rw [e, hgrb'.out] at hb'; cases hb'))
    exact hbx0.of_block (set13_other hnB _ _ _ _ _ _ _ _ _ _ _ _ _))
set_option maxRecDepth 100000 in
set_option maxHeartbeats 8000000 in
theorem call_setc (c : Int) (b : Nat) (G : Nat → Option Gh) (F : Nat → Prop) (w0 w : World) (rb : Nat) (l : List (List UInt8)) (h : Ask G F w0 w rb l) (hb : G b = some (.box (.setc c))) :
    Calls Tryz.prog 88 #[.pointer (some ⟨rb, 0, none⟩), .pointer (some ⟨b, 0, none⟩)] w (ReadPost G (rdM (.setc c) l) rb w) := by
  obtain ⟨hE, hB, hrlo, hrd, hfr, hgrb, hall, hbx⟩ := h
  have hrl : rb < w.heap.size := by obtain ⟨A, c, t, h1, _⟩ := hrd; exact blk_lt h1
  obtain ⟨W1, hW1⟩ : ∃ W1, w.alloc (.cells #[.int .i64 0, .int .i64 0, .int .i64 0, .int .i64 0, .int .i64 0, .int .i64 0, .int .u64 0, .int .i64 0, .int .i64 0, .bool false, .bool false, .int .i64 0, .int .i64 0] 32) = W1 := ⟨_, rfl⟩
  have hb1 : Below w.heap.size w W1 := by rw [← hW1]; exact below_new w _
  have hx1 := Lib.hid (show W1.heap[w.heap.size]? = some (.cells #[.int .i64 0, .int .i64 0, .int .i64 0, .int .i64 0, .int .i64 0, .int .i64 0, .int .u64 0, .int .i64 0, .int .i64 0, .bool false, .bool false, .int .i64 0, .int .i64 0] 32 (0, 0)) from by rw [← hW1]; exact heap_alloc_new _ _)
  have hs1 : W1.heap.size = w.heap.size + 1 := by rw [← hW1]; simp
  have hB1 := hB.trans (hb1.mono hB.size)
  have hk1 := Lib.hid (Keep.of_below (S := Tch G rb) hb1)
  have hF1 : ∀ b, F b → b < W1.heap.size := fun b hb => by have := (hfr b hb).1; omega
  have hbl := (hall b _ hb).2
  have hbr : ¬ b = rb := fun e => by rw [e, hgrb] at hb; cases hb
  have hbox1 := Lib.hid ((hb1.block b hbl).trans (show w.heap[b]? = some (.cells #[.int .i64 c] 26 (0, 0)) from hbx b _ hb))
  clear hb hbl
  have hrA := Lib.hid (low81_any F rb l w0 W1.drew hE (hB1.drew) hrlo ((hrd.below hb1).below (Below.refl _ _).drew))
  unfold RPost at hrA
  show Calls Tryz.prog _ _ w (ReadPost G { inZ 14 with cd := c, ds := lowP (l.getD 0 []) } rb w)
  rw [headD_get]
  obtain ⟨x0, hx0'⟩ : ∃ x, lowP (l.headD []) = x := ⟨_, rfl⟩
  rw [hx0'] at hrA ⊢
  clear hx0'
  have hB1' := Lib.hid hB1
  have hfr' := Lib.hid hfr
  have hrlo' := Lib.hid hrlo
  have hbx' := Lib.hid hbx
  have hall' := Lib.hid hall
  have hgrb' := Lib.hid hgrb
  have hW1' := Lib.hid hW1
  have hsz := Lib.hid (show rb < w.heap.size ∧ W1.heap.size = w.heap.size + 1 from ⟨hrl, hs1⟩)
  have hb1' := Lib.hid hb1
  clear hE hB hrlo hrd hfr hgrb hall hbx hW1 hb1 hB1 hs1 hrl hF1
  go_enter Tryz.func88, Tryz.ntmps88
  go_wp2_with fail
  rw [hW1'.out]
  have d0 := box1 hbox1.out
  go_region_with (go_at_call 81; refine hrA.out.mono ?_; rintro e w2 ⟨rfl, hr2, hk2⟩; have hr2' := Lib.hid hr2; have hkk2 := Lib.hid (show Keep (fun k => k = rb) W1 w2 from hk2); have hK2 := Lib.hid (hk1.out.trans (Keep.tch (G := G) hkk2.out)); clear hr2 hk2; have d1 := box1 (hkk2.out.at hbox1.out hbr); have hx9 := Lib.hid (hkk2.out.at hx1.out (by have := hsz.out; omega)); obtain ⟨c0, c1, c2, c3, c4, c5, c6, c7, c8, c9, c10, c11, c12⟩ := box13 hx9.out; have hf2 := frz hx9.out)
  all_goals (
  go_wp2
  refine bodyPost_ret (v := inV { inZ 14 with cd := c, ds := x0 }) ?_ rfl ⟨rfl, ?_, ?_⟩
  · obtain ⟨z0, z1, z2, z3, z4, z5, z6, z7, z8, z9, z10, z11, z12⟩ := box13 (set13_cells hx9.out (.int .i64 14) (.int .i64 0) (.int .i64 0) (.int .i64 c) (.int .i64 x0) (.int .i64 0) (.int .u64 0) (.int .i64 0) (.int .i64 0) (.bool false) (.bool false) (.int .i64 0) (.int .i64 0))
    simp [results, Tryz.f88, go_sem, z0, z1, z2, z3, z4, z5, z6, z7, z8, z9, z10, z11, z12, inV, inC, inZ]
  · repeat refine Keep.setNew ?_ _ _ _ (Nat.le_refl _)
    exact hK2.out
  · intro b' r' hb'
    have hl' := (hall'.out b' _ hb').2
    have hnB : ¬ b' = w.heap.size := by omega
    have hbx0 := ((hbx'.out b' r' hb').of_block (hb1'.out.block b' hl')).of_block (hkk2.out.2.2.2.2 b' (by have := hsz.out; omega) (fun e => by rw [e, hgrb'.out] at hb'; cases hb'))
    exact hbx0.of_block (set13_other hnB _ _ _ _ _ _ _ _ _ _ _ _ _))
end Go.Proofs.YtmimmnjdgpdjlaaGreatDoor
