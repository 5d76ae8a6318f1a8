/- Registers' names and addresses, there and back: AsmOperands. -/
import Derived.Test.YtmimmnjdgpdjlaaGreatDoorAE
set_option linter.unusedSimpArgs false
set_option linter.unusedVariables false
namespace Go.Proofs.YtmimmnjdgpdjlaaGreatDoor
open Go.RowKit Go.Lib Go.Shelf Go.MapKept

theorem reg_idx16 : ∀ k : Fin 16, idxW regW (atW regW ((k.val : Nat) : Int)) = some k.val := by decide +kernel
theorem mayB_load9 (ba ix : Int) (hb hi : Bool) (dp : Int) : mayB ⟨3, 0, 0, 0, 9, 0, 0, ba, ix, hb, hi, dp, 0⟩ = addrB ba ix hb hi dp := by
  rw [mayB_ref]
  generalize addrB ba ix hb hi dp = ad
  have h : rq8 (has (maskP 3) 8) (has (maskP 3) 128) ad ba ix hb hi dp 0 = !ad := by
    unfold rq8
    rw [show has (maskP 3) 8 = true from rfl, show has (maskP 3) 128 = false from rfl]
    cases ad <;> simp [noN]
  rw [h]
  cases ad <;> rfl
theorem line_load9 (ba ix : Int) (hb hi : Bool) (dp : Int) : bt (lineL ⟨3, 0, 0, 0, 9, 0, 0, ba, ix, hb, hi, dp, 0⟩) = (⟨#[109, 111, 118, 113, 32]⟩ : ByteArray) ++ bt (addrT ba ix hb hi dp) ++ ⟨#[44, 32, 37, 114, 57]⟩ := by
  refine ext_bytes ?_
  have e : lineL ⟨3, 0, 0, 0, 9, 0, 0, ba, ix, hb, hi, dp, 0⟩ = [109, 111, 118, 113, 32] ++ (addrT ba ix hb hi dp ++ [44, 32, 37, 114, 57]) := rfl
  rw [e]
  simp [bt]
/-- a register's name and the register of that name -/
theorem reg_there (r : Int) : ∃ (x : ByteArray) (t : Int) (is : Bool), (∀ W, Env W → Calls Tryz.prog 20 #[.int .i64 r] W fun e w' => e = .returned (.tuple #[.string x, .bool is]) ∧ Below W.heap.size W w') ∧
    (∀ W, Env W → Calls Tryz.prog 13 #[.string x] W fun e w' => e = .returned (.tuple #[.int .i64 t, .bool is]) ∧ Below W.heap.size W w') ∧
    ((is = true ∧ t = r ∧ 0 ≤ r ∧ r ≤ 15) ∨ (is = false ∧ ¬ 0 ≤ r) ∨ (is = false ∧ 0 ≤ r ∧ ¬ r ≤ 15)) := by
  by_cases h : 0 ≤ r ∧ r ≤ 15
  · obtain ⟨k, rfl⟩ := fin16 h
    have hB : regB ((k.val : Nat) : Int) = true := by unfold regB; simp; omega
    refine ⟨bt (atW regW ((k.val : Nat) : Int)), ((k.val : Nat) : Int), true, fun W hE => ?_, fun W hE => ?_, .inl ⟨rfl, rfl, h⟩⟩
    · have := reg20_any ((k.val : Nat) : Int) W hE
      unfold RegPost at this
      rw [hB] at this
      exact this
    · have := unreg13_any (bt (atW regW ((k.val : Nat) : Int))) W hE
      unfold UnregPost at this
      rw [bt_list, reg_idx16 k] at this
      exact this
  · have hB : regB r = false := by
      unfold regB
      by_cases h0 : 0 ≤ r
      · have : ¬ r ≤ 15 := fun e => h ⟨h0, e⟩
        simp [h0, this]
      · simp [h0]
    refine ⟨⟨#[]⟩, 0, false, fun W hE => ?_, fun W hE => ?_, ?_⟩
    · have := reg20_any r W hE
      unfold RegPost at this
      rw [hB] at this
      exact this
    · have := unreg13_any ⟨#[]⟩ W hE
      unfold UnregPost at this
      rw [show (⟨#[]⟩ : ByteArray).data.toList = [] from rfl, show idxW regW [] = none by decide +kernel] at this
      exact this
    · by_cases h0 : 0 ≤ r
      · exact .inr (.inr ⟨rfl, h0, fun e => h ⟨h0, e⟩⟩)
      · exact .inr (.inl ⟨rfl, h0⟩)
/-- what the load's line says -/
theorem load_there (ba ix : Int) (hb hi : Bool) (dp : Int) (h0 : -9223372036854775808 ≤ dp) (h1 : dp ≤ 9223372036854775807) :
    ((∀ W, Env W → Calls Tryz.prog 19 #[.agg #[.int .i64 3, .int .i64 0, .int .i64 0, .int .i64 0, .int .i64 9, .int .i64 0, .int .u64 0, .int .i64 ba, .int .i64 ix, .bool hb, .bool hi, .int .i64 dp, .int .i64 0]] W fun e w' => e = .returned (.tuple #[.string ⟨#[]⟩, .int .i64 2]) ∧ Below W.heap.size W w') ∧
      (∀ W, Env W → Calls Tryz.prog 22 #[.agg #[.int .i64 ba, .int .i64 ix, .bool hb, .bool hi, .int .i64 dp]] W fun e w' => e = .returned (.string ⟨#[]⟩) ∧ Below W.heap.size W w')) ∨
    ∃ y : ByteArray, y.size ≤ 60 ∧ (∀ W, Env W → Calls Tryz.prog 19 #[.agg #[.int .i64 3, .int .i64 0, .int .i64 0, .int .i64 0, .int .i64 9, .int .i64 0, .int .u64 0, .int .i64 ba, .int .i64 ix, .bool hb, .bool hi, .int .i64 dp, .int .i64 0]] W fun e w' => e = .returned (.tuple #[.string ((⟨#[109, 111, 118, 113, 32]⟩ : ByteArray) ++ y ++ ⟨#[44, 32, 37, 114, 57]⟩), .int .i64 0]) ∧ Below W.heap.size W w') ∧
      (∀ W, Env W → Calls Tryz.prog 22 #[.agg #[.int .i64 ba, .int .i64 ix, .bool hb, .bool hi, .int .i64 dp]] W fun e w' => e = .returned (.string y) ∧ Below W.heap.size W w') ∧
      (∀ W, Env W → Calls Tryz.prog 11 #[.string ((⟨#[109, 111, 118, 113, 32]⟩ : ByteArray) ++ y ++ ⟨#[44, 32, 37, 114, 57]⟩)] W fun e w' => e = .returned (.tuple #[.agg #[.int .i64 3, .int .i64 0, .int .i64 0, .int .i64 0, .int .i64 9, .int .i64 0, .int .u64 0, .int .i64 ba, .int .i64 ix, .bool hb, .bool hi, .int .i64 dp, .int .i64 0], .int .i64 0]) ∧ Below W.heap.size W w') := by
  have hL := fun W hE => line19_any ⟨3, 0, 0, 0, 9, 0, 0, ba, ix, hb, hi, dp, 0⟩ (fit_k _ ⟨by dsimp only; omega, h0, h1⟩) W hE
  have hA := fun W hE => addr22_any ba ix hb hi dp h0 h1 W hE
  unfold LinePost at hL
  unfold StrPost addrS adV at hA
  rw [mayB_load9, line_load9] at hL
  cases hab : addrB ba ix hb hi dp with
  | false =>
    rw [hab] at hL hA
    exact .inl ⟨hL, hA⟩
  | true =>
    rw [hab] at hL hA
    refine .inr ⟨bt (addrT ba ix hb hi dp), by rw [bt_size]; exact addrT_le _ _ _ _ _ h0 h1, hL, hA, fun W hE => ?_⟩
    have hu := unline11_any (lineL ⟨3, 0, 0, 0, 9, 0, 0, ba, ix, hb, hi, dp, 0⟩) W hE (by
      have := line_len (form_of (i := ⟨3, 0, 0, 0, 9, 0, 0, ba, ix, hb, hi, dp, 0⟩) (by rw [mayB_load9]; exact hab) (by dsimp only; omega))
      omega)
    unfold UnlinePost at hu
    rw [line_load9, unl_iff.2 (show IsLine (lineL ⟨3, 0, 0, 0, 9, 0, 0, ba, ix, hb, hi, dp, 0⟩) ⟨3, 0, 0, 0, 9, 0, 0, ba, ix, hb, hi, dp, 0⟩ from ⟨by rw [mayB_load9]; exact hab, by dsimp only; omega, rfl⟩)] at hu
    exact hu
set_option maxRecDepth 100000 in
set_option maxHeartbeats 16000000 in
theorem asmOperands_any (r ba ix : Int) (hb hi : Bool) (dp : Int) (h0 : -9223372036854775808 ≤ dp) (h1 : dp ≤ 9223372036854775807) (w : World) (hE : Env w) : Calls Tryz.prog 6 #[.int .i64 r, adV ba ix hb hi dp] w (BoolPost true w) := by
  obtain ⟨x, t, is, hR, hU, hc⟩ := reg_there r
  have hld := load_there ba ix hb hi dp h0 h1
  have hK := Lib.hid (fun W (hE : Env W) => known_any W hE)
  have heq : ∀ W, (binOp BinOp.eql 32 (.agg #[.int .i64 3, .int .i64 0, .int .i64 0, .int .i64 0, .int .i64 9, .int .i64 0, .int .u64 0, .int .i64 ba, .int .i64 ix, .bool hb, .bool hi, .int .i64 dp, .int .i64 0]) (.agg #[.int .i64 3, .int .i64 0, .int .i64 0, .int .i64 0, .int .i64 9, .int .i64 0, .int .u64 0, .int .i64 ba, .int .i64 ix, .bool hb, .bool hi, .int .i64 dp, .int .i64 0])).run Tryz.prog W = .ok (.bool true) W := fun W => by
    have h := run_eq13 ⟨3, 0, 0, 0, 9, 0, 0, ba, ix, hb, hi, dp, 0⟩ ⟨3, 0, 0, 0, 9, 0, 0, ba, ix, hb, hi, dp, 0⟩ W
    rw [decide_eq_true rfl] at h
    exact h
  have hg := guard32
  have hR := Lib.hid hR
  have hU := Lib.hid hU
  have hE' := Lib.hid (fun W (h : Below w.heap.size w W) => hE.below h)
  obtain ⟨W1, hW1⟩ : ∃ W1, w.alloc (.cells #[.int .i64 ba, .int .i64 ix, .bool hb, .bool hi, .int .i64 dp] 30) = W1 := ⟨_, rfl⟩
  have hb1 : Below w.heap.size w W1 := by rw [← hW1]; exact below_new w _
  have hx := Lib.hid (show W1.heap[w.heap.size]? = some (.cells #[.int .i64 ba, .int .i64 ix, .bool hb, .bool hi, .int .i64 dp] 30 (0, 0)) from by rw [← hW1]; exact heap_alloc_new _ _)
  have hbw := Lib.hid hb1
  have hW1' := Lib.hid hW1
  unfold adV
  clear hE h0 h1 hb1 hW1
  obtain ⟨g0, g1, g2, g3, g4⟩ := box5 hx.out
  rcases hld with ⟨hL, hA⟩ | ⟨y, hysz, hL, hA, hUn⟩
  · have hL := Lib.hid hL
    have hA := Lib.hid hA
    clear heq
    rcases hc with ⟨rfl, rfl, e1, e2⟩ | ⟨rfl, e1⟩ | ⟨rfl, e1, e2⟩
    all_goals (
      go_enter Tryz.func6, Tryz.ntmps6
      go_wp2_with fail
      rw [hW1'.out]
      refine (hR.out _ (hE'.out _ hbw.out)).mono ?_
      rintro e w2 ⟨rfl, hb2⟩
      have hx := Lib.hid ((hb2.block _ (blk_lt hx.out)).trans hx.out)
      have hbw := Lib.hid (Below.next hbw.out hb2)
      clear hb2 g0 g1 g2 g3 g4
      obtain ⟨g0, g1, g2, g3, g4⟩ := box5 hx.out
      go_wp2_with fail
      refine (hU.out _ (hE'.out _ hbw.out)).mono ?_
      rintro e w3 ⟨rfl, hb3⟩
      have hx := Lib.hid ((hb3.block _ (blk_lt hx.out)).trans hx.out)
      have hbw := Lib.hid (Below.next hbw.out hb3)
      clear hb3 g0 g1 g2 g3 g4
      obtain ⟨g0, g1, g2, g3, g4⟩ := box5 hx.out
      obtain ⟨w4, hw4⟩ : ∃ W, w3.alloc (.cells #[.int .i64 3, .int .i64 0, .int .i64 0, .int .i64 0, .int .i64 9, .int .i64 0, .int .u64 0, .int .i64 ba, .int .i64 ix, .bool hb, .bool hi, .int .i64 dp, .int .i64 0] 32) = W := ⟨_, rfl⟩
      have hb4 : Below w3.heap.size w3 w4 := by rw [← hw4]; exact below_new w3 _
      have hy := Lib.hid (show w4.heap[w3.heap.size]? = some (.cells #[.int .i64 3, .int .i64 0, .int .i64 0, .int .i64 0, .int .i64 9, .int .i64 0, .int .u64 0, .int .i64 ba, .int .i64 ix, .bool hb, .bool hi, .int .i64 dp, .int .i64 0] 32 (0, 0)) from by rw [← hw4]; exact heap_alloc_new _ _)
      have hbw := Lib.hid (Below.next hbw.out hb4)
      have hx := Lib.hid ((hb4.block _ (blk_lt hx.out)).trans hx.out)
      have hw4' := Lib.hid hw4
      clear hb4 hw4
      go_wp2_with fail
      rw [hw4'.out]
      refine (hL.out _ (hE'.out _ hbw.out)).mono ?_
      rintro e w5 ⟨rfl, hb5⟩
      have hx := Lib.hid ((hb5.block _ (blk_lt hx.out)).trans hx.out)
      have hy := Lib.hid ((hb5.block _ (blk_lt hy.out)).trans hy.out)
      have hbw := Lib.hid (Below.next hbw.out hb5)
      clear hb5 g0 g1 g2 g3 g4
      obtain ⟨g0, g1, g2, g3, g4⟩ := box5 hx.out
      go_wp2_with fail
      refine (num_any _ _).mono ?_
      rintro e w6 ⟨rfl, rfl⟩
      go_wp2_with fail
      refine (hA.out _ (hE'.out _ hbw.out)).mono ?_
      rintro e w7 ⟨rfl, hb7⟩
      have hbw := Lib.hid (Below.next hbw.out hb7)
      clear hb7 g0 g1 g2 g3 g4
      go_wp2_with fail
      refine (hK.out _ (hE'.out _ hbw.out)).mono ?_
      rintro e w8 ⟨rfl, hb8⟩
      have hbw := Lib.hid (Below.next hbw.out hb8)
      clear hb8
      go_wp2
      go_ret
      exact ⟨rfl, hbw.out⟩)
  · have hL := Lib.hid hL
    have hA := Lib.hid hA
    have hUn := Lib.hid hUn
    rcases hc with ⟨rfl, rfl, e1, e2⟩ | ⟨rfl, e1⟩ | ⟨rfl, e1, e2⟩
    all_goals (
      go_enter Tryz.func6, Tryz.ntmps6
      go_wp2_with fail
      rw [hW1'.out]
      refine (hR.out _ (hE'.out _ hbw.out)).mono ?_
      rintro e w2 ⟨rfl, hb2⟩
      have hx := Lib.hid ((hb2.block _ (blk_lt hx.out)).trans hx.out)
      have hbw := Lib.hid (Below.next hbw.out hb2)
      clear hb2 g0 g1 g2 g3 g4
      obtain ⟨g0, g1, g2, g3, g4⟩ := box5 hx.out
      go_wp2_with fail
      refine (hU.out _ (hE'.out _ hbw.out)).mono ?_
      rintro e w3 ⟨rfl, hb3⟩
      have hx := Lib.hid ((hb3.block _ (blk_lt hx.out)).trans hx.out)
      have hbw := Lib.hid (Below.next hbw.out hb3)
      clear hb3 g0 g1 g2 g3 g4
      obtain ⟨g0, g1, g2, g3, g4⟩ := box5 hx.out
      obtain ⟨w4, hw4⟩ : ∃ W, w3.alloc (.cells #[.int .i64 3, .int .i64 0, .int .i64 0, .int .i64 0, .int .i64 9, .int .i64 0, .int .u64 0, .int .i64 ba, .int .i64 ix, .bool hb, .bool hi, .int .i64 dp, .int .i64 0] 32) = W := ⟨_, rfl⟩
      have hb4 : Below w3.heap.size w3 w4 := by rw [← hw4]; exact below_new w3 _
      have hy := Lib.hid (show w4.heap[w3.heap.size]? = some (.cells #[.int .i64 3, .int .i64 0, .int .i64 0, .int .i64 0, .int .i64 9, .int .i64 0, .int .u64 0, .int .i64 ba, .int .i64 ix, .bool hb, .bool hi, .int .i64 dp, .int .i64 0] 32 (0, 0)) from by rw [← hw4]; exact heap_alloc_new _ _)
      have hbw := Lib.hid (Below.next hbw.out hb4)
      have hx := Lib.hid ((hb4.block _ (blk_lt hx.out)).trans hx.out)
      have hw4' := Lib.hid hw4
      clear hb4 hw4
      go_wp2_with fail
      rw [hw4'.out]
      refine (hL.out _ (hE'.out _ hbw.out)).mono ?_
      rintro e w5 ⟨rfl, hb5⟩
      have hx := Lib.hid ((hb5.block _ (blk_lt hx.out)).trans hx.out)
      have hy := Lib.hid ((hb5.block _ (blk_lt hy.out)).trans hy.out)
      have hbw := Lib.hid (Below.next hbw.out hb5)
      clear hb5 g0 g1 g2 g3 g4
      obtain ⟨g0, g1, g2, g3, g4⟩ := box5 hx.out
      go_wp2_with fail
      refine (num_any _ _).mono ?_
      rintro e w6 ⟨rfl, rfl⟩
      go_wp2_with fail
      refine (hUn.out _ (hE'.out _ hbw.out)).mono ?_
      rintro e w7 ⟨rfl, hb7⟩
      have hx := Lib.hid ((hb7.block _ (blk_lt hx.out)).trans hx.out)
      have hy := Lib.hid ((hb7.block _ (blk_lt hy.out)).trans hy.out)
      have hbw := Lib.hid (Below.next hbw.out hb7)
      obtain ⟨w8, hw8⟩ : ∃ W, w7.alloc (.cells #[.int .i64 3, .int .i64 0, .int .i64 0, .int .i64 0, .int .i64 9, .int .i64 0, .int .u64 0, .int .i64 ba, .int .i64 ix, .bool hb, .bool hi, .int .i64 dp, .int .i64 0] 32) = W := ⟨_, rfl⟩
      have hb8 : Below w7.heap.size w7 w8 := by rw [← hw8]; exact below_new w7 _
      have hz := Lib.hid (show w8.heap[w7.heap.size]? = some (.cells #[.int .i64 3, .int .i64 0, .int .i64 0, .int .i64 0, .int .i64 9, .int .i64 0, .int .u64 0, .int .i64 ba, .int .i64 ix, .bool hb, .bool hi, .int .i64 dp, .int .i64 0] 32 (0, 0)) from by rw [← hw8]; exact heap_alloc_new _ _)
      have hbw := Lib.hid (Below.next hbw.out hb8)
      have hx := Lib.hid ((hb8.block _ (blk_lt hx.out)).trans hx.out)
      have hy := Lib.hid ((hb8.block _ (blk_lt hy.out)).trans hy.out)
      have hw8' := Lib.hid hw8
      have hx8 := hx.out
      rw [← hw8] at hx8
      clear hb7 hb8 hw8 g0 g1 g2 g3 g4
      obtain ⟨g0, g1, g2, g3, g4⟩ := box5 hx8
      clear hx8
      go_wp2_with fail
      rw [hw8'.out]
      refine (hA.out _ (hE'.out _ hbw.out)).mono ?_
      rintro e w9 ⟨rfl, hb9⟩
      have hy := Lib.hid ((hb9.block _ (blk_lt hy.out)).trans hy.out)
      have hz := Lib.hid ((hb9.block _ (blk_lt hz.out)).trans hz.out)
      have hbw := Lib.hid (Below.next hbw.out hb9)
      clear hb9 g0 g1 g2 g3 g4
      obtain ⟨p0, p1, p2, p3, p4, p5, p6, p7, p8, p9, p10, p11, p12⟩ := box13 hy.out
      obtain ⟨q0, q1, q2, q3, q4, q5, q6, q7, q8, q9, q10, q11, q12⟩ := box13 hz.out
      go_wp2_with fail
      refine (num_any _ _).mono ?_
      rintro e w10 ⟨rfl, rfl⟩
      go_wp2_with fail
      refine (hK.out _ (hE'.out _ hbw.out)).mono ?_
      rintro e w11 ⟨rfl, hb11⟩
      have hbw := Lib.hid (Below.next hbw.out hb11)
      clear hb11
      go_wp2
      go_ret
      exact ⟨rfl, hbw.out⟩)
end Go.Proofs.YtmimmnjdgpdjlaaGreatDoor
