/- Lines read, the program and the reference: AsmUnlines. -/
import Derived.Test.YtmimmnjdgpdjlaaGreatDoorDG
import Derived.Test.YtmimmnjdgpdjlaaGreatDoorAE
set_option linter.unusedSimpArgs false
set_option linter.unusedVariables false
namespace Go.Proofs.YtmimmnjdgpdjlaaGreatDoor
open Go.RowKit Go.Lib Go.Shelf Go.MapKept

set_option maxRecDepth 100000 in
set_option maxHeartbeats 16000000 in
theorem asmUnlines_any (s : ByteArray) (w : World) (hE : Env w) : Calls Tryz.prog 3 #[.string s] w (BoolPost true w) := by
  have hK := Lib.hid (fun W (hE : Env W) => known_any W hE)
  by_cases hs : 9000 < s.size
  · have e0 : (9000 : Int) < (s.size : Int) := by omega
    have hE' := Lib.hid hE
    clear hs hE
    go_enter Tryz.func3, Tryz.ntmps3
    go_wp2_with fail
    refine (hK.out _ hE'.out).mono ?_
    rintro e w2 ⟨rfl, hb2⟩
    go_wp2
    go_ret
    exact ⟨rfl, hb2⟩
  have e0 : ¬ (9000 : Int) < (s.size : Int) := by omega
  have hl : s.data.toList.length ≤ 2000000 := by rw [size_list]; omega
  have h11 := fun W hE => unline11_any s.data.toList W hE hl
  have h12 := fun W hE => unline12_any s.data.toList W hE hl
  unfold UnlinePost at h11
  unfold Unl12Post at h12
  rw [bt_data] at h11 h12
  have h13 := Lib.hid (fun W hE => unreg13_any s W hE)
  have h14 := Lib.hid (fun W => runreg14_any s W)
  unfold UnregPost at h13 h14
  obtain ⟨i, hi⟩ : ∃ i, (unlL s.data.toList).getD (inZ 0) = i := ⟨_, rfl⟩
  obtain ⟨q, hq⟩ : ∃ i, (unlL s.data.toList).isSome = i := ⟨_, rfl⟩
  obtain ⟨r, hr⟩ : ∃ r, idxW regW s.data.toList = r := ⟨_, rfl⟩
  rw [hi, hq] at h11 h12
  rw [hr] at h13 h14
  obtain ⟨x, hx⟩ : ∃ x : Int, ((r.getD 0 : Nat) : Int) = x := ⟨_, rfl⟩
  obtain ⟨y, hy⟩ : ∃ y, r.isSome = y := ⟨_, rfl⟩
  rw [hx, hy] at h13 h14
  have heq : ∀ W, (binOp BinOp.eql 32 (.agg #[.int .i64 i.op, .int .i64 i.bn, .int .i64 i.sh, .int .i64 i.cd, .int .i64 i.ds, .int .i64 i.sr, .int .u64 (i.im : Int), .int .i64 i.ba, .int .i64 i.ix, .bool i.hb, .bool i.hi, .int .i64 i.dp, .int .i64 i.lb]) (.agg #[.int .i64 i.op, .int .i64 i.bn, .int .i64 i.sh, .int .i64 i.cd, .int .i64 i.ds, .int .i64 i.sr, .int .u64 (i.im : Int), .int .i64 i.ba, .int .i64 i.ix, .bool i.hb, .bool i.hi, .int .i64 i.dp, .int .i64 i.lb])).run Tryz.prog W = .ok (.bool true) W := fun W => by
    have h := run_eq13 i i W
    rw [decide_eq_true rfl] at h
    exact h
  have hg := guard32
  have hE' := Lib.hid (fun W (h : Below w.heap.size w W) => hE.below h)
  have hbw := Lib.hid (Below.refl w.heap.size w)
  unfold inV inC at h11 h12
  clear hE hs hl hi hq hr hx hy
  cases q with
  | true =>
    have h11 := Lib.hid h11
    have h12 := Lib.hid h12
    go_enter Tryz.func3, Tryz.ntmps3
    go_wp2_with fail
    refine (h11.out _ (hE'.out _ hbw.out)).mono ?_
    rintro e w2 ⟨rfl, hb2⟩
    have hbw := Lib.hid (Below.next hbw.out hb2)
    obtain ⟨w3, hw3⟩ : ∃ W, w2.alloc (.cells #[.int .i64 i.op, .int .i64 i.bn, .int .i64 i.sh, .int .i64 i.cd, .int .i64 i.ds, .int .i64 i.sr, .int .u64 (i.im : Int), .int .i64 i.ba, .int .i64 i.ix, .bool i.hb, .bool i.hi, .int .i64 i.dp, .int .i64 i.lb] 32) = W := ⟨_, rfl⟩
    have hb3 : Below w2.heap.size w2 w3 := by rw [← hw3]; exact below_new w2 _
    have hy := Lib.hid (show w3.heap[w2.heap.size]? = some (.cells #[.int .i64 i.op, .int .i64 i.bn, .int .i64 i.sh, .int .i64 i.cd, .int .i64 i.ds, .int .i64 i.sr, .int .u64 (i.im : Int), .int .i64 i.ba, .int .i64 i.ix, .bool i.hb, .bool i.hi, .int .i64 i.dp, .int .i64 i.lb] 32 (0, 0)) from by rw [← hw3]; exact heap_alloc_new _ _)
    have hbw := Lib.hid (Below.next hbw.out hb3)
    have hw3' := Lib.hid hw3
    clear hb2 hb3 hw3
    go_wp2_with fail
    rw [hw3'.out]
    refine (h12.out _ (hE'.out _ hbw.out)).mono ?_
    rintro e w4 ⟨rfl, hb4⟩
    have hy := Lib.hid ((hb4.block _ (blk_lt hy.out)).trans hy.out)
    have hbw := Lib.hid (Below.next hbw.out hb4)
    obtain ⟨w5, hw5⟩ : ∃ W, w4.alloc (.cells #[.int .i64 i.op, .int .i64 i.bn, .int .i64 i.sh, .int .i64 i.cd, .int .i64 i.ds, .int .i64 i.sr, .int .u64 (i.im : Int), .int .i64 i.ba, .int .i64 i.ix, .bool i.hb, .bool i.hi, .int .i64 i.dp, .int .i64 i.lb] 32) = W := ⟨_, rfl⟩
    have hb5 : Below w4.heap.size w4 w5 := by rw [← hw5]; exact below_new w4 _
    have hz := Lib.hid (show w5.heap[w4.heap.size]? = some (.cells #[.int .i64 i.op, .int .i64 i.bn, .int .i64 i.sh, .int .i64 i.cd, .int .i64 i.ds, .int .i64 i.sr, .int .u64 (i.im : Int), .int .i64 i.ba, .int .i64 i.ix, .bool i.hb, .bool i.hi, .int .i64 i.dp, .int .i64 i.lb] 32 (0, 0)) from by rw [← hw5]; exact heap_alloc_new _ _)
    have hy := Lib.hid ((hb5.block _ (blk_lt hy.out)).trans hy.out)
    have hbw := Lib.hid (Below.next hbw.out hb5)
    have hw5' := Lib.hid hw5
    clear hb4 hb5 hw5
    go_wp2_with fail
    rw [hw5'.out]
    refine (h13.out _ (hE'.out _ hbw.out)).mono ?_
    rintro e w6 ⟨rfl, hb6⟩
    have hy := Lib.hid ((hb6.block _ (blk_lt hy.out)).trans hy.out)
    have hz := Lib.hid ((hb6.block _ (blk_lt hz.out)).trans hz.out)
    have hbw := Lib.hid (Below.next hbw.out hb6)
    clear hb6
    go_wp2_with fail
    refine (h14.out _).mono ?_
    rintro e w7 ⟨rfl, hb7⟩
    have hy := Lib.hid ((hb7.block _ (blk_lt hy.out)).trans hy.out)
    have hz := Lib.hid ((hb7.block _ (blk_lt hz.out)).trans hz.out)
    have hbw := Lib.hid (Below.next hbw.out hb7)
    clear hb7
    obtain ⟨p0, p1, p2, p3, p4, p5, p6, p7, p8, p9, p10, p11, p12⟩ := box13 hy.out
    obtain ⟨q0, q1, q2, q3, q4, q5, q6, q7, q8, q9, q10, q11, q12⟩ := box13 hz.out
    go_wp2_with fail
    refine (num_any _ _).mono ?_
    rintro e w8 ⟨rfl, rfl⟩
    go_wp2_with fail
    refine (hK.out _ (hE'.out _ hbw.out)).mono ?_
    rintro e w11 ⟨rfl, hb11⟩
    have hbw := Lib.hid (Below.next hbw.out hb11)
    clear hb11
    go_wp2
    go_ret
    exact ⟨rfl, hbw.out⟩
  | false =>
    have h11 := Lib.hid h11
    have h12 := Lib.hid h12
    go_enter Tryz.func3, Tryz.ntmps3
    go_wp2_with fail
    refine (h11.out _ (hE'.out _ hbw.out)).mono ?_
    rintro e w2 ⟨rfl, hb2⟩
    have hbw := Lib.hid (Below.next hbw.out hb2)
    obtain ⟨w3, hw3⟩ : ∃ W, w2.alloc (.cells #[.int .i64 i.op, .int .i64 i.bn, .int .i64 i.sh, .int .i64 i.cd, .int .i64 i.ds, .int .i64 i.sr, .int .u64 (i.im : Int), .int .i64 i.ba, .int .i64 i.ix, .bool i.hb, .bool i.hi, .int .i64 i.dp, .int .i64 i.lb] 32) = W := ⟨_, rfl⟩
    have hb3 : Below w2.heap.size w2 w3 := by rw [← hw3]; exact below_new w2 _
    have hy := Lib.hid (show w3.heap[w2.heap.size]? = some (.cells #[.int .i64 i.op, .int .i64 i.bn, .int .i64 i.sh, .int .i64 i.cd, .int .i64 i.ds, .int .i64 i.sr, .int .u64 (i.im : Int), .int .i64 i.ba, .int .i64 i.ix, .bool i.hb, .bool i.hi, .int .i64 i.dp, .int .i64 i.lb] 32 (0, 0)) from by rw [← hw3]; exact heap_alloc_new _ _)
    have hbw := Lib.hid (Below.next hbw.out hb3)
    have hw3' := Lib.hid hw3
    clear hb2 hb3 hw3
    go_wp2_with fail
    rw [hw3'.out]
    refine (h12.out _ (hE'.out _ hbw.out)).mono ?_
    rintro e w4 ⟨rfl, hb4⟩
    have hy := Lib.hid ((hb4.block _ (blk_lt hy.out)).trans hy.out)
    have hbw := Lib.hid (Below.next hbw.out hb4)
    obtain ⟨w5, hw5⟩ : ∃ W, w4.alloc (.cells #[.int .i64 i.op, .int .i64 i.bn, .int .i64 i.sh, .int .i64 i.cd, .int .i64 i.ds, .int .i64 i.sr, .int .u64 (i.im : Int), .int .i64 i.ba, .int .i64 i.ix, .bool i.hb, .bool i.hi, .int .i64 i.dp, .int .i64 i.lb] 32) = W := ⟨_, rfl⟩
    have hb5 : Below w4.heap.size w4 w5 := by rw [← hw5]; exact below_new w4 _
    have hz := Lib.hid (show w5.heap[w4.heap.size]? = some (.cells #[.int .i64 i.op, .int .i64 i.bn, .int .i64 i.sh, .int .i64 i.cd, .int .i64 i.ds, .int .i64 i.sr, .int .u64 (i.im : Int), .int .i64 i.ba, .int .i64 i.ix, .bool i.hb, .bool i.hi, .int .i64 i.dp, .int .i64 i.lb] 32 (0, 0)) from by rw [← hw5]; exact heap_alloc_new _ _)
    have hy := Lib.hid ((hb5.block _ (blk_lt hy.out)).trans hy.out)
    have hbw := Lib.hid (Below.next hbw.out hb5)
    have hw5' := Lib.hid hw5
    clear hb4 hb5 hw5
    go_wp2_with fail
    rw [hw5'.out]
    refine (h13.out _ (hE'.out _ hbw.out)).mono ?_
    rintro e w6 ⟨rfl, hb6⟩
    have hy := Lib.hid ((hb6.block _ (blk_lt hy.out)).trans hy.out)
    have hz := Lib.hid ((hb6.block _ (blk_lt hz.out)).trans hz.out)
    have hbw := Lib.hid (Below.next hbw.out hb6)
    clear hb6
    go_wp2_with fail
    refine (h14.out _).mono ?_
    rintro e w7 ⟨rfl, hb7⟩
    have hy := Lib.hid ((hb7.block _ (blk_lt hy.out)).trans hy.out)
    have hz := Lib.hid ((hb7.block _ (blk_lt hz.out)).trans hz.out)
    have hbw := Lib.hid (Below.next hbw.out hb7)
    clear hb7
    obtain ⟨p0, p1, p2, p3, p4, p5, p6, p7, p8, p9, p10, p11, p12⟩ := box13 hy.out
    obtain ⟨q0, q1, q2, q3, q4, q5, q6, q7, q8, q9, q10, q11, q12⟩ := box13 hz.out
    go_wp2_with fail
    refine (num_any _ _).mono ?_
    rintro e w8 ⟨rfl, rfl⟩
    go_wp2_with fail
    refine (num_any _ _).mono ?_
    rintro e w9 ⟨rfl, rfl⟩
    go_wp2_with fail
    refine (hK.out _ (hE'.out _ hbw.out)).mono ?_
    rintro e w11 ⟨rfl, hb11⟩
    have hbw := Lib.hid (Below.next hbw.out hb11)
    clear hb11
    go_wp2
    go_ret
    exact ⟨rfl, hbw.out⟩
end Go.Proofs.YtmimmnjdgpdjlaaGreatDoor
