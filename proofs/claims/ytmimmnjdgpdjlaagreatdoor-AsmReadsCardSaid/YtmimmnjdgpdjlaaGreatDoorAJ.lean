/- The iterator over code's lines; a range over them. -/
import Derived.Test.YtmimmnjdgpdjlaaGreatDoorAI
set_option linter.unusedSimpArgs false
set_option linter.unusedVariables false
namespace Go.Proofs.YtmimmnjdgpdjlaaGreatDoor
open Go.RowKit Go.Lib Go.Shelf

theorem lines58_any (A : Option Addr) (n c : Nat) (w : World) : Calls Tryz.prog 58 #[.slice A n c] w fun e w' => e = .returned (.func (.func 109) #[] #[.pointer (some ⟨w.heap.size, 0, none⟩)]) ∧ w' = w.alloc (.cells #[.slice A n c] 42) := by
  go_enter Tryz.func58, Tryz.ntmps58
  go_wp2
  go_ret
  exact ⟨rfl, rfl⟩
/-- how the iterator over lines ends -/
def LinEnd (mv : Bool) (n : Nat) (J : Nat → World → Prop) (Jx : World → Prop) (e : Ending) (W' : World) : Prop := (∃ v, e = .returned v) ∧ ((mv = true ∧ J n W') ∨ (mv = false ∧ J 0 W') ∨ (mv = true ∧ Jx W'))
structure LinOk (w0 : World) (J : Nat → World → Prop) : Prop where
  bel : ∀ {k W}, J k W → Below w0.heap.size w0 W
  grow : ∀ {k W W'}, J k W → Below W.heap.size W W' → J k W'
theorem tell_lab {i : In} (h : i.op = 19) : bt (tellI i) = bt (lineL i) := by unfold tellI tabT; rw [if_pos h]; rfl
theorem tell_no {i : In} (h : i.op ≠ 19) : bt (tellI i) = (⟨#[9]⟩ : ByteArray) ++ bt (lineL i) := by
  unfold tellI tabT
  rw [if_neg h]
  exact (app_one 9 (lineL i)).symm
attribute [local go_sem] Oper.semAt_some
set_option maxRecDepth 100000 in
set_option maxHeartbeats 8000000 in
theorem iter109_any (m : Nat) (hm : 1 ≤ m) (w0 : World) (hE0 : Env w0) (L : List In) (A : Option Addr) (c : Nat) (hL : InsAt w0 L A) (hF : ∀ i ∈ L, Fit i) (hlen : L.length ≤ 2000000) (b : Nat) (W : World) (hbx : W.heap[b]? = some (.cells #[.slice A L.length c] 42 (0, 0))) (l : Nat)
    (J : Nat → World → Prop) (Jx : World → Prop) (hJ : LinOk w0 J) (hY : mayAll L = true → ∀ k i W1, J k W1 → L[k]? = some i → YieldAt Fence.wide (m - 1) Tryz.prog l #[.string (bt (tellI i))] W1 (LabPost J Jx k)) (hJ0 : J 0 W) :
    CallsIn Fence.wide m Tryz.prog 109 #[.func (.yield l) #[] #[], .pointer (some ⟨b, 0, none⟩)] W (LinEnd (mayAll L) L.length J Jx) := by
  obtain ⟨x0, xf⟩ := (⟨by rw [blk_cell hbx]; rfl, fun k => by simp [World.frozen?, hbx]⟩ : W.cell? ⟨b, 0, none⟩ = some (.slice A L.length c) ∧ ∀ k, W.frozen? ⟨b, k, none⟩ = false)
  have hbW := hJ.bel hJ0
  have hLW : InsAt W L A := hL.keep (hbW.mono (Nat.le_refl _))
  have hmy := may41_any L A c W hLW hF (by omega)
  unfold BoolPost at hmy
  have hms : ∀ i, mayAll L = true → i ∈ L → mayB i = true := fun i h hi => ((mayAll_parts h).2.2 i hi).1
  obtain ⟨mv, hmv⟩ : ∃ mv, mayAll L = mv := ⟨_, rfl⟩
  rw [hmv] at hmy hY hms ⊢
  obtain ⟨n, hnn⟩ : ∃ n, L.length = n := ⟨_, rfl⟩
  rw [hnn] at hlen x0 hmy ⊢
  have hmv' := Lib.hid hmv
  have hn' := Lib.hid hnn
  have hL := Lib.hid hL
  have hF := Lib.hid hF
  have hE0 := Lib.hid hE0
  have hJ := Lib.hid hJ
  have hY := Lib.hid hY
  have hJ0 := Lib.hid hJ0
  have hm := Lib.hid hm
  have hmy := Lib.hid hmy
  have hms := Lib.hid hms
  have hbx' := Lib.hid hbx
  clear hnn hbx hmv hbW hLW
  refine callsIn_of_wp Tryz.func109 rfl trivial ?_ rfl
  simp only [Tryz.ntmps109, List.size_toArray, List.length_cons, List.length_nil, Nat.reduceAdd, Nat.reduceSub, Array.replicate_succ, Array.replicate_zero, List.push_toArray, List.append_toArray, List.nil_append, List.cons_append]
  gi_wp2_with fail
  refine ⟨trivial, ?_⟩
  refine (callsIn_wide.2 hmy.out).mono ?_
  rintro e w1 ⟨rfl, hb1⟩
  have hJ1 := Lib.hid (hJ.out.grow hJ0.out hb1)
  have x1 := (hb1.block _ (blk_lt hbx'.out)).trans hbx'.out
  rw [hn'.out] at x1
  obtain ⟨x1, xg⟩ := (⟨by rw [blk_cell x1]; rfl, fun k => by simp [World.frozen?, x1]⟩ : w1.cell? ⟨b, 0, none⟩ = some (.slice A n c) ∧ ∀ k, w1.frozen? ⟨b, k, none⟩ = false)
  clear x0 xf hb1
  cases mv with
  | false =>
    gi_wp2
    refine bodyPost_ret (results_none rfl _ _ _) rfl ?_
    exact ⟨⟨_, rfl⟩, .inr (.inl ⟨rfl, hJ1.out⟩)⟩
  | true =>
    have hY2 := Lib.hid (hY.out rfl)
    have hms2 := Lib.hid (fun i => hms.out i rfl)
    clear hY hms
    gi_wp2_with fail
    clear x1 xg
    gi_loopg [11] n (fun g s11 wr => ∃ k : Nat, k + g = n ∧ s11 = .int .i64 k ∧ J k wr)
    case atStart => exact ⟨0, by omega, rfl, hJ1.out⟩
    case round =>
      obtain ⟨k, hkg, rfl, hJr⟩ := hrel
      have hJr := Lib.hid hJr
      cases gk with
      | zero =>
        have e0 : ¬ (k : Int) < (n : Int) := by omega
        have hfin := Lib.hid (show k = n by omega)
        gi_wp2
        refine Go.bodyPost_end (results_none rfl _ _ _) rfl ?_
        exact ⟨⟨_, rfl⟩, .inl ⟨rfl, by rw [← hfin.out]; exact hJr.out⟩⟩
      | succ g2 =>
        have e0 : (k : Int) < (n : Int) := by omega
        have hbw := Lib.hid (hJ.out.bel hJr.out)
        obtain ⟨blk, off, i, rfl, hx, hcx⟩ := (hL.out).at_ (i := k) (by rw [hn'.out]; omega)
        have hi := List.mem_of_getElem? hx
        have hfm := form_of (hms2.out i hi) (hF.out i hi).1
        have hln := fun W hE => line_any hfm W hE
        have hsz : (bt (lineL i)).size ≤ 140 := by rw [bt_size]; exact line_len hfm
        have hYk := fun W1 h => hY2.out k i W1 h hx
        have hty := (⟨fun h => tell_lab h, fun h => tell_no h⟩ : (i.op = 19 → bt (tellI i) = bt (lineL i)) ∧ (i.op ≠ 19 → bt (tellI i) = (⟨#[9]⟩ : ByteArray) ++ bt (lineL i)))
        unfold StrPost inV inC at hln
        obtain ⟨x, hx'⟩ : ∃ x, bt (lineL i) = x := ⟨_, rfl⟩
        obtain ⟨y, hy'⟩ : ∃ y, bt (tellI i) = y := ⟨_, rfl⟩
        rw [hx'] at hln hsz hty
        rw [hy'] at hYk hty
        clear hx' hy' hfm hi hx
        obtain ⟨op, bn, sh, cd, ds, sr, im, ba, ix, hb, hi, dp, lb⟩ := i
        dsimp only at hYk hty hln
        have v0 : w0.cell? ⟨blk, off + k * 13, none⟩ = some (.int .i64 op) := hcx 0 (by omega)
        have v0 := (hbw.out.cell (p := ⟨blk, off + k * 13, none⟩) (cell_some_lt v0)).trans v0
        have v1 : w0.cell? ⟨blk, off + k * 13 + 1, none⟩ = some (.int .i64 bn) := hcx 1 (by omega)
        have v1 := (hbw.out.cell (p := ⟨blk, off + k * 13 + 1, none⟩) (cell_some_lt v1)).trans v1
        have v2 : w0.cell? ⟨blk, off + k * 13 + 2, none⟩ = some (.int .i64 sh) := hcx 2 (by omega)
        have v2 := (hbw.out.cell (p := ⟨blk, off + k * 13 + 2, none⟩) (cell_some_lt v2)).trans v2
        have v3 : w0.cell? ⟨blk, off + k * 13 + 3, none⟩ = some (.int .i64 cd) := hcx 3 (by omega)
        have v3 := (hbw.out.cell (p := ⟨blk, off + k * 13 + 3, none⟩) (cell_some_lt v3)).trans v3
        have v4 : w0.cell? ⟨blk, off + k * 13 + 4, none⟩ = some (.int .i64 ds) := hcx 4 (by omega)
        have v4 := (hbw.out.cell (p := ⟨blk, off + k * 13 + 4, none⟩) (cell_some_lt v4)).trans v4
        have v5 : w0.cell? ⟨blk, off + k * 13 + 5, none⟩ = some (.int .i64 sr) := hcx 5 (by omega)
        have v5 := (hbw.out.cell (p := ⟨blk, off + k * 13 + 5, none⟩) (cell_some_lt v5)).trans v5
        have v6 : w0.cell? ⟨blk, off + k * 13 + 6, none⟩ = some (.int .u64 (im : Int)) := hcx 6 (by omega)
        have v6 := (hbw.out.cell (p := ⟨blk, off + k * 13 + 6, none⟩) (cell_some_lt v6)).trans v6
        have v7 : w0.cell? ⟨blk, off + k * 13 + 7, none⟩ = some (.int .i64 ba) := hcx 7 (by omega)
        have v7 := (hbw.out.cell (p := ⟨blk, off + k * 13 + 7, none⟩) (cell_some_lt v7)).trans v7
        have v8 : w0.cell? ⟨blk, off + k * 13 + 8, none⟩ = some (.int .i64 ix) := hcx 8 (by omega)
        have v8 := (hbw.out.cell (p := ⟨blk, off + k * 13 + 8, none⟩) (cell_some_lt v8)).trans v8
        have v9 : w0.cell? ⟨blk, off + k * 13 + 9, none⟩ = some (.bool hb) := hcx 9 (by omega)
        have v9 := (hbw.out.cell (p := ⟨blk, off + k * 13 + 9, none⟩) (cell_some_lt v9)).trans v9
        have v10 : w0.cell? ⟨blk, off + k * 13 + 10, none⟩ = some (.bool hi) := hcx 10 (by omega)
        have v10 := (hbw.out.cell (p := ⟨blk, off + k * 13 + 10, none⟩) (cell_some_lt v10)).trans v10
        have v11 : w0.cell? ⟨blk, off + k * 13 + 11, none⟩ = some (.int .i64 dp) := hcx 11 (by omega)
        have v11 := (hbw.out.cell (p := ⟨blk, off + k * 13 + 11, none⟩) (cell_some_lt v11)).trans v11
        have v12 : w0.cell? ⟨blk, off + k * 13 + 12, none⟩ = some (.int .i64 lb) := hcx 12 (by omega)
        have v12 := (hbw.out.cell (p := ⟨blk, off + k * 13 + 12, none⟩) (cell_some_lt v12)).trans v12
        obtain ⟨w2, hw2⟩ : ∃ w2, wr.alloc (.cells #[.int .i64 op, .int .i64 bn, .int .i64 sh, .int .i64 cd, .int .i64 ds, .int .i64 sr, .int .u64 (im : Int), .int .i64 ba, .int .i64 ix, .bool hb, .bool hi, .int .i64 dp, .int .i64 lb] 32) = w2 := ⟨_, rfl⟩
        have hb2 : Below wr.heap.size wr w2 := by rw [← hw2]; exact (Below.refl _ wr).alloc (Nat.le_refl _) _
        have hX : w2.heap[wr.heap.size]? = some (.cells #[.int .i64 op, .int .i64 bn, .int .i64 sh, .int .i64 cd, .int .i64 ds, .int .i64 sr, .int .u64 (im : Int), .int .i64 ba, .int .i64 ix, .bool hb, .bool hi, .int .i64 dp, .int .i64 lb] 32 (0, 0)) := by rw [← hw2]; exact heap_alloc_new _ _
        obtain ⟨q0, q1, q2, q3, q4, q5, q6, q7, q8, q9, q10, q11, q12⟩ := box13 hX
        have hln := Lib.hid (hln _ (hE0.out.below (Below.next hbw.out hb2)))
        have hJ2 := Lib.hid (hJ.out.grow hJr.out hb2)
        have hX := Lib.hid hX
        have hYk := Lib.hid hYk
        have hty := Lib.hid hty
        have hw2' := Lib.hid hw2
        clear hw2 hb2 hcx
        obtain rfl := hw2'.out
        gi_wp2_with fail
        refine ⟨trivial, ?_⟩
        refine (callsIn_wide.2 hln.out).mono ?_
        rintro e w3 ⟨rfl, hb3⟩
        have hJ3 := hJ.out.grow hJ2.out hb3
        have hX := Lib.hid ((hb3.block _ (blk_lt hX.out)).trans hX.out)
        clear hb3 q0 q1 q2 q3 q4 q5 q6 q7 q8 q9 q10 q11 q12
        obtain ⟨q0, q1, q2, q3, q4, q5, q6, q7, q8, q9, q10, q11, q12⟩ := box13 hX.out
        obtain ⟨fn, tmps, assign, body, hy, hRo⟩ := hYk.out _ hJ3
        have hRo := Lib.hid hRo
        clear hJ3
        by_cases e19 : op = 19
        · have e19' : (op != 19) = false := by simp [e19]
          obtain rfl := hty.out.1 e19
          clear e19
          gi_wp2_with fail
          refine hRo.out.mono ?_
          rintro e w4 (⟨rfl, hJ4⟩ | ⟨rfl, hJ4⟩)
          · have hJ4 := Lib.hid hJ4
            gi_wp2
            gi_roundg g2
            case measure => omega
            case rel => exact ⟨k + 1, by omega, by go_num, hJ4.out⟩
          · have hJ4 := Lib.hid hJ4
            gi_wp2
            refine bodyPost_ret (results_none rfl _ _ _) rfl ?_
            exact ⟨⟨_, rfl⟩, .inr (.inr ⟨rfl, hJ4.out⟩)⟩
        · have e19' : (op != 19) = true := by simp [e19]
          obtain rfl := hty.out.2 e19
          clear e19
          gi_wp2_with fail
          refine hRo.out.mono ?_
          rintro e w4 (⟨rfl, hJ4⟩ | ⟨rfl, hJ4⟩)
          · have hJ4 := Lib.hid hJ4
            gi_wp2
            gi_roundg g2
            case measure => omega
            case rel => exact ⟨k + 1, by omega, by go_num, hJ4.out⟩
          · have hJ4 := Lib.hid hJ4
            gi_wp2
            refine bodyPost_ret (results_none rfl _ _ _) rfl ?_
            exact ⟨⟨_, rfl⟩, .inr (.inr ⟨rfl, hJ4.out⟩)⟩
end Go.Proofs.YtmimmnjdgpdjlaaGreatDoor
