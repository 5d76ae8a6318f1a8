/- The table of meanings, built: the steps. The table of meanings: readings, walked. -/
import Derived.Test.YtmimmnjdgpdjlaaGreatDoorL3
set_option linter.unusedSimpArgs false
set_option linter.unusedVariables false
namespace Go.Proofs.YtmimmnjdgpdjlaaGreatDoor
open Go.RowKit Go.Lib Go.Shelf Go.MapKept

/-- the table under way: K stays, R are meanings that wait, at most n a word -/
def St (w W : World) (m : Nat) (K : List (Nat × Obj)) (R : List (Rd × Value)) (T : List (List UInt8 × List Rd)) (n : Nat) : Prop :=
  ∃ G, Table W w.heap.size m G T ∧ Below w.heap.size w W ∧ (∀ p ∈ K, W.heap[p.1]? = some p.2 ∧ G p.1 = none ∧ p.1 ≠ m) ∧ (∀ p ∈ R, RdOK G p.1 p.2) ∧ ∀ wd, (lookIn T wd).length ≤ n
theorem lookIn_le (wd w : List UInt8) (r : Rd) : ∀ T : List (List UInt8 × List Rd), (lookIn (addT T w r) wd).length ≤ (lookIn T wd).length + 1
  | [] => by unfold addT lookIn; by_cases h : (w == wd) = true <;> simp [h]
  | x :: T => by
    have ih := lookIn_le wd w r T
    unfold addT
    by_cases e : x.1 = w
    · rw [if_pos e]
      unfold lookIn
      by_cases h : (x.1 == wd) = true
      · simp [h]
      · simp [h]
    · rw [if_neg e]
      unfold lookIn at ih ⊢
      by_cases h : (x.1 == wd) = true
      · simp [h]
      · have h' : (x.1 == wd) = false := by simpa using h
        rw [List.find?_cons, List.find?_cons, h']
        exact ih
theorem St.sub {w W : World} {m : Nat} {K K' : List (Nat × Obj)} {R R' : List (Rd × Value)} {T : List (List UInt8 × List Rd)} {n : Nat} (h : St w W m K R T n) (hK : ∀ p ∈ K', p ∈ K) (hR : ∀ p ∈ R', p ∈ R) : St w W m K' R' T n := by
  obtain ⟨G, h1, h2, h3, h4, h5⟩ := h
  exact ⟨G, h1, h2, fun p hp => h3 p (hK p hp), fun p hp => h4 p (hR p hp), h5⟩
theorem St.kept {w W : World} {m : Nat} {K : List (Nat × Obj)} {R : List (Rd × Value)} {T : List (List UInt8 × List Rd)} {n : Nat} (h : St w W m K R T n) {p : Nat × Obj} (hp : p ∈ K) : W.heap[p.1]? = some p.2 := by
  obtain ⟨G, _, _, h3, _⟩ := h
  exact (h3 p hp).1
theorem St.bel {w W : World} {m : Nat} {K : List (Nat × Obj)} {R : List (Rd × Value)} {T : List (List UInt8 × List Rd)} {n : Nat} (h : St w W m K R T n) : Below w.heap.size w W := by
  obtain ⟨G, _, h2, _⟩ := h; exact h2
/-- worlds that have grown -/
theorem St.grow {w W W' : World} {m : Nat} {K : List (Nat × Obj)} {R : List (Rd × Value)} {T : List (List UInt8 × List Rd)} {n : Nat} (h : St w W m K R T n) (hb : Below W.heap.size W W') : St w W' m K R T n := by
  obtain ⟨G, h1, h2, h3, h4, h5⟩ := h
  exact ⟨G, h1.below hb, Below.next h2 hb, fun p hp => ⟨(hb.block p.1 (blk_lt (h3 p hp).1)).trans (h3 p hp).1, (h3 p hp).2⟩, h4, h5⟩
/-- one more block that stays -/
theorem St.keep1 {w W : World} {m : Nat} {K : List (Nat × Obj)} {R : List (Rd × Value)} {T : List (List UInt8 × List Rd)} {n : Nat} (h : St w W m K R T n) (o : Obj) : St w (W.alloc o) m ((W.heap.size, o) :: K) R T n := by
  obtain ⟨G, h1, h2, h3, h4, h5⟩ := h
  have hm : m < W.heap.size := by obtain ⟨es, c, hm, _⟩ := h1.mp; exact blk_lt hm
  refine ⟨G, h1.below (below_new W o), Below.next h2 (below_new W o), fun p hp => ?_, h4, h5⟩
  rcases List.mem_cons.1 hp with rfl | hp
  · exact ⟨heap_alloc_new W o, h1.fresh (Nat.le_refl _), by dsimp only; omega⟩
  · exact ⟨((below_new W o).block p.1 (blk_lt (h3 p hp).1)).trans (h3 p hp).1, (h3 p hp).2⟩
/-- one more box -/
theorem St.box {w W : World} {m : Nat} {K : List (Nat × Obj)} {R : List (Rd × Value)} {T : List (List UInt8 × List Rd)} {n : Nat} (h : St w W m K R T n) (o : Obj) (r : Rd) (hr : bare r = false) (hbx : BoxAt (W.alloc o) W.heap.size r) :
    St w (W.alloc o) m K ((r, .func (.func (fnOf r)) #[] #[.pointer (some ⟨W.heap.size, 0, none⟩)]) :: R) T n := by
  obtain ⟨G, h1, h2, h3, h4, h5⟩ := h
  have hm : m < W.heap.size := by obtain ⟨es, c, hm, _⟩ := h1.mp; exact blk_lt hm
  have hf := h1.fresh (Nat.le_refl W.heap.size)
  refine ⟨updG G W.heap.size (.box r), h1.addBox h2.size (below_new W o) _ r (Nat.le_refl _) (by simp) hbx hm, Below.next h2 (below_new W o), fun p hp => ?_, fun p hp => ?_, h5⟩
  · obtain ⟨q1, q2, q3⟩ := h3 p hp
    refine ⟨((below_new W o).block p.1 (blk_lt q1)).trans q1, ?_, q3⟩
    unfold updG
    rw [if_neg (fun e => by have := blk_lt q1; omega)]
    exact q2
  · rcases List.mem_cons.1 hp with rfl | hp
    · unfold RdOK
      dsimp only
      rw [hr, if_neg (by simp)]
      exact ⟨_, rfl, by unfold updG; rw [if_pos rfl]⟩
    · exact (h4 p hp).ext (updG_ext hf)
theorem St.bareOf {w W : World} {m : Nat} {K : List (Nat × Obj)} {R : List (Rd × Value)} {T : List (List UInt8 × List Rd)} {n : Nat} (h : St w W m K R T n) (r : Rd) (hr : bare r = true) : St w W m K ((r, .func (.func (fnOf r)) #[] #[]) :: R) T n := by
  obtain ⟨G, h1, h2, h3, h4, h5⟩ := h
  refine ⟨G, h1, h2, h3, fun p hp => ?_, h5⟩
  rcases List.mem_cons.1 hp with rfl | hp
  · unfold RdOK
    dsimp only
    rw [hr, if_pos rfl]
  · exact h4 p hp
theorem St.shc {w W : World} {m : Nat} {K : List (Nat × Obj)} {R : List (Rd × Value)} {T : List (List UInt8 × List Rd)} {n : Nat} (h : St w W m K R T n) {r : Rd} {b : Nat} (hr : bare r = false) (hp : (r, .func (.func (fnOf r)) #[] #[.pointer (some ⟨b, 0, none⟩)]) ∈ R) : BoxAt W b r := by
  obtain ⟨G, h1, h2, h3, h4, h5⟩ := h
  have := h4 _ hp
  unfold RdOK at this
  dsimp only at this
  rw [hr, if_neg (by simp)] at this
  obtain ⟨b', e, hb⟩ := this
  obtain rfl : b = b' := by simpa using e
  exact h1.bx _ _ hb
theorem add_st {w W : World} {m mb : Nat} {K : List (Nat × Obj)} {R : List (Rd × Value)} {T : List (List UInt8 × List Rd)} {n : Nat} (h : St w W m K R T n) (hmb : (mb, Obj.cells #[.map (some m)] 66 (0, 0)) ∈ K) (r : Rd) (f : Value) (hf : (r, f) ∈ R) (s : ByteArray) (hn : n ≤ 99) :
    Calls Tryz.prog 66 #[.string s, f, .pointer (some ⟨mb, 0, none⟩)] W fun e W' => e = .returned (.tuple #[]) ∧ St w W' m K R (addT T s.data.toList r) (n + 1) := by
  obtain ⟨G, h1, h2, h3, h4, h5⟩ := h
  obtain ⟨q1, q2, q3⟩ := h3 _ hmb
  have hc := add66_any w.heap.size mb m G T s.data.toList r f W h1 h2.size (h4 _ hf) q1 q2 q3 (by have := h5 s.data.toList; omega)
  rw [bt_data] at hc
  refine hc.mono ?_
  rintro e W' ⟨rfl, G', g1, g2, g3⟩
  refine ⟨rfl, G', g1, g3.on h2 (fun k hk => ?_), fun p hp => ?_, fun p hp => (h4 p hp).ext (fun b x hb => by rw [g2 b (h1.all b x hb).2]; exact hb), fun wd => Nat.le_trans (lookIn_le _ _ _ _) (by have := h5 wd; omega)⟩
  · rcases hk with rfl | ⟨i, hi⟩
    · exact h1.mlo
    · exact (h1.all k _ hi).1
  · obtain ⟨z1, z2, z3⟩ := h3 p hp
    refine ⟨g3.at z1 (fun e => ?_), by rw [g2 p.1 (blk_lt z1)]; exact z2, z3⟩
    rcases e with e | ⟨i, hi⟩
    · exact z3 e
    · rw [z2] at hi; cases hi
def MkPost (w : World) (m : Nat) (K : List (Nat × Obj)) (R : List (Rd × Value)) (T : List (List UInt8 × List Rd)) (n : Nat) (r : Rd) (e : Ending) (W' : World) : Prop := ∃ f, e = .returned f ∧ St w W' m K ((r, f) :: R) T n
set_option maxRecDepth 100000 in
set_option maxHeartbeats 4000000 in
theorem mk_two (op bn cd : Int) {w W : World} {m : Nat} {K : List (Nat × Obj)} {R : List (Rd × Value)} {T : List (List UInt8 × List Rd)} {n : Nat} (h : St w W m K R T n) :
    Calls Tryz.prog 67 #[.agg #[.int .i64 op, .int .i64 bn, .int .i64 0, .int .i64 cd, .int .i64 0, .int .i64 0, .int .u64 0, .int .i64 0, .int .i64 0, .bool false, .bool false, .int .i64 0, .int .i64 0]] W (MkPost w m K R T n (.two op bn cd)) := by
  have hfin := Lib.hid (h.box (.cells #[.int .i64 op, .int .i64 bn, .int .i64 0, .int .i64 cd, .int .i64 0, .int .i64 0, .int .u64 0, .int .i64 0, .int .i64 0, .bool false, .bool false, .int .i64 0, .int .i64 0] 32) (.two op bn cd) rfl (show BoxAt _ _ (.two op bn cd) from ⟨0, 0, heap_alloc_new _ _⟩))
  go_enter Tryz.func67, Tryz.ntmps67
  go_wp2
  go_ret
  exact ⟨_, rfl, hfin.out⟩
set_option maxRecDepth 100000 in
set_option maxHeartbeats 4000000 in
theorem mk_imm (op bn sh : Int) {w W : World} {m : Nat} {K : List (Nat × Obj)} {R : List (Rd × Value)} {T : List (List UInt8 × List Rd)} {n : Nat} (h : St w W m K R T n) :
    Calls Tryz.prog 70 #[.agg #[.int .i64 op, .int .i64 bn, .int .i64 sh, .int .i64 0, .int .i64 0, .int .i64 0, .int .u64 0, .int .i64 0, .int .i64 0, .bool false, .bool false, .int .i64 0, .int .i64 0]] W (MkPost w m K R T n (.imm op bn sh)) := by
  have hfin := Lib.hid (h.box (.cells #[.int .i64 op, .int .i64 bn, .int .i64 sh, .int .i64 0, .int .i64 0, .int .i64 0, .int .u64 0, .int .i64 0, .int .i64 0, .bool false, .bool false, .int .i64 0, .int .i64 0] 32) (.imm op bn sh) rfl (show BoxAt _ _ (.imm op bn sh) from ⟨0, 0, heap_alloc_new _ _⟩))
  go_enter Tryz.func70, Tryz.ntmps70
  go_wp2
  go_ret
  exact ⟨_, rfl, hfin.out⟩
set_option maxRecDepth 100000 in
set_option maxHeartbeats 4000000 in
theorem mk_one (op : Int) {w W : World} {m : Nat} {K : List (Nat × Obj)} {R : List (Rd × Value)} {T : List (List UInt8 × List Rd)} {n : Nat} (h : St w W m K R T n) :
    Calls Tryz.prog 73 #[.agg #[.int .i64 op, .int .i64 0, .int .i64 0, .int .i64 0, .int .i64 0, .int .i64 0, .int .u64 0, .int .i64 0, .int .i64 0, .bool false, .bool false, .int .i64 0, .int .i64 0]] W (MkPost w m K R T n (.one op)) := by
  have hfin := Lib.hid (h.box (.cells #[.int .i64 op, .int .i64 0, .int .i64 0, .int .i64 0, .int .i64 0, .int .i64 0, .int .u64 0, .int .i64 0, .int .i64 0, .bool false, .bool false, .int .i64 0, .int .i64 0] 32) (.one op) rfl (show BoxAt _ _ (.one op) from ⟨0, heap_alloc_new _ _⟩))
  go_enter Tryz.func73, Tryz.ntmps73
  go_wp2
  go_ret
  exact ⟨_, rfl, hfin.out⟩
set_option maxRecDepth 100000 in
set_option maxHeartbeats 4000000 in
theorem mk_lbl (op cd : Int) {w W : World} {m : Nat} {K : List (Nat × Obj)} {R : List (Rd × Value)} {T : List (List UInt8 × List Rd)} {n : Nat} (h : St w W m K R T n) :
    Calls Tryz.prog 75 #[.agg #[.int .i64 op, .int .i64 0, .int .i64 0, .int .i64 cd, .int .i64 0, .int .i64 0, .int .u64 0, .int .i64 0, .int .i64 0, .bool false, .bool false, .int .i64 0, .int .i64 0]] W (MkPost w m K R T n (.lbl op cd)) := by
  have hfin := Lib.hid (h.box (.cells #[.int .i64 op, .int .i64 0, .int .i64 0, .int .i64 cd, .int .i64 0, .int .i64 0, .int .u64 0, .int .i64 0, .int .i64 0, .bool false, .bool false, .int .i64 0, .int .i64 0] 32) (.lbl op cd) rfl (show BoxAt _ _ (.lbl op cd) from ⟨0, heap_alloc_new _ _⟩))
  go_enter Tryz.func75, Tryz.ntmps75
  go_wp2
  go_ret
  exact ⟨_, rfl, hfin.out⟩
end Go.Proofs.YtmimmnjdgpdjlaaGreatDoor
namespace Go.Proofs.YtmimmnjdgpdjlaaGreatDoor
open Go.RowKit Go.Lib Go.Shelf Go.MapKept

theorem st_start (w : World) : St w ((w.alloc (.map #[] 0)).alloc (.cells #[.map (some w.heap.size)] 66)) w.heap.size [(w.heap.size + 1, .cells #[.map (some w.heap.size)] 66 (0, 0))] [] [] 0 := by
  have h1 : (w.alloc (.map #[] 0)).heap.size = w.heap.size + 1 := by simp
  refine ⟨fun _ => none, ⟨⟨#[], 0, ?_, rfl, fun i e x he => by simp at he⟩, Nat.le_refl _, rfl, fun b r h => (by cases h), fun b x h => (by cases h)⟩, Below.next (below_new w _) (below_new _ _), fun p hp => ?_, fun p hp => by simp at hp, fun wd => by simp [lookIn]⟩
  · rw [heap_alloc_old _ _ (by simp)]; exact heap_alloc_new _ _
  · obtain rfl : p = _ := List.mem_singleton.1 hp
    refine ⟨?_, rfl, by dsimp only; omega⟩
    dsimp only
    rw [← h1]
    exact heap_alloc_new _ _
theorem sub_head {α : Type} {a : α} {L : List α} : ∀ p ∈ [a], p ∈ a :: L := fun p hp => by rw [List.mem_singleton.1 hp]; exact List.Mem.head _
theorem sub_swap {α : Type} {a b : α} : ∀ p ∈ [a, b], p ∈ [b, a] := fun p hp => by
  rcases List.mem_cons.1 hp with h | h
  · rw [h]; exact .tail _ (.head _)
  · rw [List.mem_singleton.1 h]; exact .head _
def ReadsPost (w : World) (e : Ending) (w' : World) : Prop := ∃ m G, e = .returned (.map (some m)) ∧ Table w' w.heap.size m G tableL ∧ Below w.heap.size w w'
theorem St.num {w W : World} {m : Nat} {K : List (Nat × Obj)} {R : List (Rd × Value)} {T T' : List (List UInt8 × List Rd)} {n n' : Nat} (h : St w W m K R T n) (hT : T = T') (hn : n = n') : St w W m K R T' n' := by subst hT hn; exact h
theorem cellShc {W : World} {b : Nat} {h : Int} (hb : BoxAt W b (.shc h)) : W.cell? ⟨b, 0, none⟩ = some (.int .i64 h) := box1 hb
theorem cellSet {W : World} {b : Nat} {h : Int} (hb : BoxAt W b (.setc h)) : W.cell? ⟨b, 0, none⟩ = some (.int .i64 h) := box1 hb

set_option maxRecDepth 100000 in
set_option maxHeartbeats 16000000 in
theorem readings34_any (w : World) (hE : Env w) : Calls Tryz.prog 34 #[] w (ReadsPost w) := by
  have hmm := @run_makeMap Tryz.prog
  have hS := Lib.hid (st_start w)
  have hE' := Lib.hid hE
  clear hE
  go_enter Tryz.func34, Tryz.ntmps34
  go_upto_region 19 with (first
    | (go_at_call 67; refine (mk_two _ _ _ hS.out).mono ?_; rintro e wx ⟨f, rfl, hS'⟩; have hS := Lib.hid hS'; clear hS')
    | (go_at_call 70; refine (mk_imm _ _ _ hS.out).mono ?_; rintro e wx ⟨f, rfl, hS'⟩; have hS := Lib.hid hS'; clear hS')
    | (go_at_call 73; refine (mk_one _ hS.out).mono ?_; rintro e wx ⟨f, rfl, hS'⟩; have hS := Lib.hid hS'; clear hS')
    | (go_at_call 75; refine (mk_lbl _ _ hS.out).mono ?_; rintro e wx ⟨f, rfl, hS'⟩; have hS := Lib.hid hS'; clear hS')
    | (go_at_call 66; (first
        | with_reducible refine (add_st hS.out (List.Mem.head _) _ _ (List.Mem.head _) _ (by omega)).mono ?_
        | with_reducible refine (add_st (hS.out.bareOf .load rfl) (List.Mem.head _) .load (.func (.func 77) #[] #[]) (List.Mem.head _) _ (by omega)).mono ?_
        | with_reducible refine (add_st (hS.out.bareOf .store rfl) (List.Mem.head _) .store (.func (.func 79) #[] #[]) (List.Mem.head _) _ (by omega)).mono ?_
        | with_reducible refine (add_st (hS.out.bareOf .byte rfl) (List.Mem.head _) .byte (.func (.func 80) #[] #[]) (List.Mem.head _) _ (by omega)).mono ?_
        | with_reducible refine (add_st (hS.out.bareOf .ret rfl) (List.Mem.head _) .ret (.func (.func 82) #[] #[]) (List.Mem.head _) _ (by omega)).mono ?_); rintro e wx ⟨rfl, hS'⟩; have hS := Lib.hid hS'; clear hS'))
  have hS0 := Lib.hid (St.num (hS.out.sub (K' := [(w.heap.size + 1, .cells #[.map (some w.heap.size)] 66 (0, 0))]) (R' := []) (fun p hp => hp) (fun p hp => by simp at hp)) (T' := tab1 0) rfl (n' := 12) rfl)
  obtain ⟨w0, hw0⟩ : ∃ w0, wx = w0 := ⟨_, rfl⟩
  rw [hw0] at hS0 ⊢
  clear hw0
  have hl_a := Lib.hid ((bins_any w0 (hE'.out.below hS0.out.bel)).mono (R' := fun e w' => e = .returned (.slice (some ⟨w0.heap.size, 0, none⟩) 8 8) ∧ w' = w0.alloc (.cells (lisC binW) 9)) (fun e w' h => h))
  have hS_a := Lib.hid (((hS0.out.sub (K' := [(w.heap.size + 1, .cells #[.map (some w.heap.size)] 66 (0, 0))]) (R' := []) sub_head (fun p hp => by simp at hp)).keep1 (.cells (lisC binW) 9)).sub (K' := [(w.heap.size + 1, .cells #[.map (some w.heap.size)] 66 (0, 0)), (w0.heap.size, .cells (lisC binW) 9 (0, 0))]) (R' := []) sub_swap (fun p hp => hp))
  go_wp2_with fail
  refine hl_a.out.mono ?_
  rintro e w_a ⟨rfl, hw_a⟩
  rw [← hw_a] at hS_a
  obtain ⟨q_a, hq_a⟩ : ∃ q, w0.heap.size = q := ⟨_, rfl⟩
  rw [hq_a] at hS_a ⊢
  clear hw_a hq_a hl_a
  go_wp2_with fail
  go_loopg [68] 8 (fun g s68 wr => ∃ k : Nat, k + g = 8 ∧ s68 = .int .i64 k ∧ St w wr w.heap.size [(w.heap.size + 1, .cells #[.map (some w.heap.size)] 66 (0, 0)), (q_a, .cells (lisC binW) 9 (0, 0))] [] (tab1 k) (12 + 2 * k))
  case atStart => exact ⟨0, by omega, rfl, hS_a.out⟩
  case round =>
    obtain ⟨k, hkg, rfl, hSk⟩ := hrel
    have hS := Lib.hid hSk
    clear hSk
    cases gk with
    | zero =>
      have e0 : ¬ ((k : Int) < 8) := by omega
      obtain rfl : k = 8 := by omega
      have hl_b := Lib.hid ((shifts_any wr (hE'.out.below hS.out.bel)).mono (R' := fun e w' => e = .returned (.slice (some ⟨wr.heap.size, 0, none⟩) 5 5) ∧ w' = wr.alloc (.cells (lisC shfW) 9)) (fun e w' h => h))
      have hS_b := Lib.hid (((hS.out.sub (K' := [(w.heap.size + 1, .cells #[.map (some w.heap.size)] 66 (0, 0))]) (R' := []) sub_head (fun p hp => by simp at hp)).keep1 (.cells (lisC shfW) 9)).sub (K' := [(w.heap.size + 1, .cells #[.map (some w.heap.size)] 66 (0, 0)), (wr.heap.size, .cells (lisC shfW) 9 (0, 0))]) (R' := []) sub_swap (fun p hp => hp))
      go_wp2_with fail
      refine hl_b.out.mono ?_
      rintro e w_b ⟨rfl, hw_b⟩
      rw [← hw_b] at hS_b
      obtain ⟨q_b, hq_b⟩ : ∃ q, wr.heap.size = q := ⟨_, rfl⟩
      rw [hq_b] at hS_b ⊢
      clear hw_b hq_b hl_b
      go_wp2_with fail
      have hSb := Lib.hid (St.num hS_b.out (T' := tab2 0) rfl rfl)
      clear hS_b
      go_loopg [92] 5 (fun g s92 wr => ∃ k : Nat, k + g = 5 ∧ s92 = .int .i64 k ∧ St w wr w.heap.size [(w.heap.size + 1, .cells #[.map (some w.heap.size)] 66 (0, 0)), (q_b, .cells (lisC shfW) 9 (0, 0))] [] (tab2 k) (28 + 2 * k))
      case atStart => exact ⟨0, by omega, rfl, hSb.out⟩
      case round =>
        clear hS
        obtain ⟨k, hkg, rfl, hSk⟩ := hrel
        have hS := Lib.hid hSk
        clear hSk
        cases gk with
        | zero =>
          have e0 : ¬ ((k : Int) < 5) := by omega
          obtain rfl : k = 5 := by omega
          have hl_c := Lib.hid ((conds_any wr (hE'.out.below hS.out.bel)).mono (R' := fun e w' => e = .returned (.slice (some ⟨wr.heap.size, 0, none⟩) 16 16) ∧ w' = wr.alloc (.cells (lisC cndW) 9)) (fun e w' h => h))
          have hS_c := Lib.hid (((hS.out.sub (K' := [(w.heap.size + 1, .cells #[.map (some w.heap.size)] 66 (0, 0))]) (R' := []) sub_head (fun p hp => by simp at hp)).keep1 (.cells (lisC cndW) 9)).sub (K' := [(w.heap.size + 1, .cells #[.map (some w.heap.size)] 66 (0, 0)), (wr.heap.size, .cells (lisC cndW) 9 (0, 0))]) (R' := []) sub_swap (fun p hp => hp))
          go_wp2_with fail
          refine hl_c.out.mono ?_
          rintro e w_c ⟨rfl, hw_c⟩
          rw [← hw_c] at hS_c
          obtain ⟨q_c, hq_c⟩ : ∃ q, wr.heap.size = q := ⟨_, rfl⟩
          rw [hq_c] at hS_c ⊢
          clear hw_c hq_c hl_c
          go_wp2_with fail
          have hSc := Lib.hid (St.num hS_c.out (T' := tab3 0) rfl rfl)
          clear hS_c
          go_loopg [113] 16 (fun g s113 wr => ∃ k : Nat, k + g = 16 ∧ s113 = .int .i64 k ∧ St w wr w.heap.size [(w.heap.size + 1, .cells #[.map (some w.heap.size)] 66 (0, 0)), (q_c, .cells (lisC cndW) 9 (0, 0))] [] (tab3 k) (38 + 3 * k))
          case atStart => exact ⟨0, by omega, rfl, hSc.out⟩
          case round =>
            clear hS
            obtain ⟨k, hkg, rfl, hSk⟩ := hrel
            have hS := Lib.hid hSk
            clear hSk
            cases gk with
            | zero =>
              have e0 : ¬ ((k : Int) < 16) := by omega
              obtain rfl : k = 16 := by omega
              have hcm := box1 (hS.out.kept (p := (w.heap.size + 1, .cells #[.map (some w.heap.size)] 66 (0, 0))) (List.Mem.head _))
              go_wp2
              go_ret
              obtain ⟨G, g1, g2, _⟩ := hS.out
              rw [tab3_all] at g1
              exact ⟨_, G, rfl, g1, g2⟩
            | succ g =>
              have e0 : (k : Int) < 16 := by omega
              have e1 : (0 : Int) ≤ (k : Int) := by omega
              have hk : k < 16 := by omega
              have hc0 := lisC_cell (hS.out.kept (p := (q_c, .cells (lisC cndW) 9 (0, 0))) (by simp)) (at_get (L := cndW) (k := k) hk)
              have hsz : (bt (atW cndW (k : Int))).size ≤ 10 := by rw [bt_size]; exact cndW_le _
              obtain ⟨x, hx⟩ : ∃ x, bt (atW cndW (k : Int)) = x := ⟨_, rfl⟩
              rw [hx] at hc0 hsz
              have hx' := Lib.hid (show x.data.toList = atW cndW (k : Int) by rw [← hx]; rfl)
              clear hx
              have hS := Lib.hid (hS.out.box (.cells #[.int .i64 (k : Int)] 26) (.setc (k : Int)) rfl (heap_alloc_new _ _))
              have hmem := Lib.hid (List.Mem.head (a := ((Rd.setc (k : Int)), Value.func (.func (fnOf (.setc (k : Int)))) #[] #[.pointer (some ⟨wr.heap.size, 0, none⟩)])) [])
              go_wp2_with (first
                | (go_at_call 67; refine (mk_two _ _ _ hS.out).mono ?_; rintro e wx ⟨f, rfl, hS'⟩; have hS := Lib.hid hS'; clear hS'; have hcx := cellSet (hS.out.shc (r := .setc (k : Int)) rfl (by first | exact .tail _ (.head _) | exact .tail _ (.tail _ (.head _)))))
                | (go_at_call 75; refine (mk_lbl _ _ hS.out).mono ?_; rintro e wx ⟨f, rfl, hS'⟩; have hS := Lib.hid hS'; clear hS')
                | (go_at_call 66; refine (add_st hS.out (List.Mem.head _) _ _ (List.Mem.head _) _ (by omega)).mono ?_; rintro e wx ⟨rfl, hS'⟩; have hS := Lib.hid hS'; clear hS'; (try have hcx := cellSet (hS.out.shc (r := .setc (k : Int)) rfl (by first | exact .head _ | exact .tail _ (.head _) | exact .tail _ (.tail _ (.head _))))))) 
              go_roundg g
              case measure => omega
              case rel =>
                refine ⟨k + 1, by omega, by go_num, St.num (hS.out.sub (fun p hp => hp) (fun p hp => by simp at hp)) ?_ (by omega)⟩
                rw [tab3_next, ← hx'.out]
                rfl
        | succ g =>
          have e0 : (k : Int) < 5 := by omega
          have e1 : (0 : Int) ≤ (k : Int) := by omega
          have hk : k < 5 := by omega
          have hc0 := lisC_cell (hS.out.kept (p := (q_b, .cells (lisC shfW) 9 (0, 0))) (by simp)) (at_get (L := shfW) (k := k) hk)
          obtain ⟨x, hx⟩ : ∃ x, bt (atW shfW (k : Int)) = x := ⟨_, rfl⟩
          rw [hx] at hc0
          have hx' := Lib.hid (show x.data.toList = atW shfW (k : Int) by rw [← hx]; rfl)
          clear hx
          have hS := Lib.hid (hS.out.box (.cells #[.int .i64 ((k : Int) + 1)] 25) (.shc ((k : Int) + 1)) rfl (heap_alloc_new _ _))
          go_wp2_with (first
            | (go_at_call 70; refine (mk_imm _ _ _ hS.out).mono ?_; rintro e wx ⟨f, rfl, hS'⟩; have hS := Lib.hid hS'; clear hS')
            | (go_at_call 66; first
                | (with_reducible refine (add_st hS.out (List.Mem.head _) _ _ (List.Mem.head _) _ (by omega)).mono ?_; rintro e wx ⟨rfl, hS'⟩; have hS := Lib.hid hS'; clear hS')
                | (refine (add_st hS.out (List.Mem.head _) (.shc ((k : Int) + 1)) _ (List.Mem.tail _ (List.Mem.head _)) _ (by omega)).mono ?_; rintro e wx ⟨rfl, hS'⟩; have hS := Lib.hid hS'; clear hS')))
          go_roundg g
          case measure => omega
          case rel =>
            refine ⟨k + 1, by omega, by go_num, St.num (hS.out.sub (fun p hp => hp) (fun p hp => by simp at hp)) ?_ (by omega)⟩
            rw [tab2_next, hx'.out]
    | succ g =>
      have e0 : (k : Int) < 8 := by omega
      have e1 : (0 : Int) ≤ (k : Int) := by omega
      have hk : k < 8 := by omega
      have hc0 := lisC_cell (hS.out.kept (p := (q_a, .cells (lisC binW) 9 (0, 0))) (by simp)) (at_get (L := binW) (k := k) hk)
      obtain ⟨x, hx⟩ : ∃ x, bt (atW binW (k : Int)) = x := ⟨_, rfl⟩
      rw [hx] at hc0
      have hx' := Lib.hid (show x.data.toList = atW binW (k : Int) by rw [← hx]; rfl)
      clear hx
      go_wp2_with (first
        | (go_at_call 67; refine (mk_two _ _ _ hS.out).mono ?_; rintro e wx ⟨f, rfl, hS'⟩; have hS := Lib.hid hS'; clear hS')
        | (go_at_call 70; refine (mk_imm _ _ _ hS.out).mono ?_; rintro e wx ⟨f, rfl, hS'⟩; have hS := Lib.hid hS'; clear hS')
        | (go_at_call 66; refine (add_st hS.out (List.Mem.head _) _ _ (List.Mem.head _) _ (by omega)).mono ?_; rintro e wx ⟨rfl, hS'⟩; have hS := Lib.hid hS'; clear hS'))
      go_roundg g
      case measure => omega
      case rel =>
        refine ⟨k + 1, by omega, by go_num, St.num (hS.out.sub (fun p hp => hp) (fun p hp => by simp at hp)) ?_ (by omega)⟩
        rw [tab1_next, hx'.out]
end Go.Proofs.YtmimmnjdgpdjlaaGreatDoor
