/- The reference's MayOne, mask by mask. -/
import Derived.Test.YtmimmnjdgpdjlaaGreatDoorH4
set_option linter.unusedSimpArgs false
set_option linter.unusedVariables false
namespace Go.Proofs.YtmimmnjdgpdjlaaGreatDoor
open Go.RowKit Go.Lib Go.Shelf

set_option maxRecDepth 100000 in
set_option maxHeartbeats 8000000 in
theorem rmayOne9 (i : In) (hf : Fit i) (hop : maskP i.op = 9) (w : World) : Calls Tryz.prog 24 #[inV i] w (BoolPost (mayB i) w) := by
  have him := hf.1
  rw [show mayB i = _ from mayB_ref i.op i.bn i.sh i.cd i.ds i.sr i.im i.ba i.ix i.hb i.hi i.dp i.lb]
  have hof := of48_any i.op
  rw [hop] at hof ⊢
  unfold OfPost nmC at hof
  rw [show has 9 16 = false from rfl] at hof ⊢
  rw [show has 9 32 = false from rfl] at hof ⊢
  rw [show has 9 64 = false from rfl] at hof ⊢
  rw [show has 9 1 = true from rfl] at hof ⊢
  rw [show has 9 2 = false from rfl] at hof ⊢
  rw [show has 9 4 = false from rfl] at hof ⊢
  rw [show has 9 8 = true from rfl] at hof ⊢
  rw [show has 9 128 = false from rfl] at hof ⊢
  have hof' := Lib.hid hof
  clear hof
  have hma := Lib.hid (fun (W : World) => rmayAddr_any i.ba i.ix i.hb i.hi i.dp W)
  have hsh := Lib.hid (fun (W : World) => rshort50_any i.im him W)
  have hma0 := Lib.hid (fun (W : World) => rmayAddr_any 0 0 false false 0 W)
  rw [show addrB 0 0 false false 0 = true from rfl] at hma0
  obtain ⟨ad, had⟩ : ∃ ad, addrB i.ba i.ix i.hb i.hi i.dp = ad := ⟨_, rfl⟩
  rw [had] at hma ⊢
  have had' := Lib.hid had
  clear had
  obtain ⟨r, hr⟩ : ∃ r, (!rq2 i.op i.ds i.sr && !rq4 false false i.bn i.sh && !rq6 false true false false i.cd i.ds i.sr (i.im : Int) && !rq8 true false ad i.ba i.ix i.hb i.hi i.dp i.lb && rq9 i.op i.im) = r := ⟨_, rfl⟩
  rw [hr]
  have hr' := Lib.hid hr
  clear hr
  clear hf him
  unfold inV inC
  have hb1 := Lib.hid (below_new w (.cells #[.int .i64 i.op, .int .i64 i.bn, .int .i64 i.sh, .int .i64 i.cd, .int .i64 i.ds, .int .i64 i.sr, .int .u64 (i.im : Int), .int .i64 i.ba, .int .i64 i.ix, .bool i.hb, .bool i.hi, .int .i64 i.dp, .int .i64 i.lb] 32))
  have hx1 := Lib.hid (heap_alloc_new w (.cells #[.int .i64 i.op, .int .i64 i.bn, .int .i64 i.sh, .int .i64 i.cd, .int .i64 i.ds, .int .i64 i.sr, .int .u64 (i.im : Int), .int .i64 i.ba, .int .i64 i.ix, .bool i.hb, .bool i.hi, .int .i64 i.dp, .int .i64 i.lb] 32))
  go_enter Tryz.func24, Tryz.ntmps24
  go_wp2_with fail
  refine (hof'.out _).mono ?_
  rintro e w2 ⟨rfl, hb2⟩
  have hx2 := Lib.hid ((hb2.block w.heap.size (by simp)).trans hx1.out)
  have hb2' := Lib.hid (Below.next hb1.out hb2)
  clear hb2
  go_upto_region 2 with fail
  obtain ⟨W3, hW3⟩ : ∃ W3, w2.alloc (.cells #[.bool false, .bool false, .bool false, .bool true, .bool false, .bool false, .bool true, .bool false] 81) = W3 := ⟨_, rfl⟩
  rw [hW3]
  have hfin := Lib.hid (show Below w.heap.size w W3 from by rw [← hW3]; exact (hb2'.out).alloc hb2'.out.size _)
  have hxi := Lib.hid (show W3.heap[w.heap.size]? = some (.cells #[.int .i64 i.op, .int .i64 i.bn, .int .i64 i.sh, .int .i64 i.cd, .int .i64 i.ds, .int .i64 i.sr, .int .u64 (i.im : Int), .int .i64 i.ba, .int .i64 i.ix, .bool i.hb, .bool i.hi, .int .i64 i.dp, .int .i64 i.lb] 32 (0, 0)) from by rw [← hW3, heap_alloc_old _ _ (blk_lt hx2.out)]; exact hx2.out)
  have hxn := Lib.hid (show W3.heap[w2.heap.size]? = some (.cells #[.bool false, .bool false, .bool false, .bool true, .bool false, .bool false, .bool true, .bool false] 81 (0, 0)) from by rw [← hW3]; exact heap_alloc_new _ _)
  obtain ⟨g0, g1, g2, g3, g4, g5, g6, g7, g8, g9, g10, g11, g12⟩ := box13 hxi.out
  obtain ⟨n0, n1, n2, n3, n4, n5, n6, n7⟩ := box8 hxn.out
  clear hW3 hb1 hx1 hx2 hof'
  unfold adV at hma hma0
  go_wp2_with fail
  all_goals first
    | (with_reducible refine (hma.out _).mono ?_
       rintro e w4 ⟨rfl, hb4⟩
       have hfin4 := Lib.hid (Below.next hfin.out hb4)
       have hxi4 := Lib.hid ((hb4.block w.heap.size (blk_lt hxi.out)).trans hxi.out)
       have hxn4 := Lib.hid ((hb4.block w2.heap.size (blk_lt hxn.out)).trans hxn.out)
       clear hb4 g0 g1 g2 g3 g4 g5 g6 g7 g8 g9 g10 g11 g12 n0 n1 n2 n3 n4 n5 n6 n7
       obtain ⟨g0, g1, g2, g3, g4, g5, g6, g7, g8, g9, g10, g11, g12⟩ := box13 hxi4.out
       obtain ⟨n0, n1, n2, n3, n4, n5, n6, n7⟩ := box8 hxn4.out
       go_wp2_with fail
       all_goals first
         | (with_reducible refine (hsh.out _).mono ?_
            rintro e w5 ⟨rfl, rfl⟩
            go_wp2
            go_ret
            refine ⟨ret_bool ?_, hfin4.out⟩
            rw [← hr'.out]
            unfold rq2 rq4 rq6 rq8 rq9 noN badN zeroA
            first | (rw [Bool.eq_iff_iff]; simp; omega) | (rw [Bool.eq_iff_iff]; simp; grind) | grind)
         | (go_ret
            refine ⟨ret_bool ?_, hfin4.out⟩
            rw [← hr'.out]
            unfold rq2 rq4 rq6 rq8 rq9 noN badN zeroA
            first | (rw [Bool.eq_iff_iff]; simp; omega) | (rw [Bool.eq_iff_iff]; simp; grind) | grind))
    | (with_reducible refine (hma0.out _).mono ?_
       have hz : ad = true := by rw [← had'.out, (show i.ba = 0 by assumption), (show i.ix = 0 by assumption), (show i.hb = false by first | assumption | simpa using (show ¬ i.hb = true by assumption)), (show i.hi = false by first | assumption | simpa using (show ¬ i.hi = true by assumption)), (show i.dp = 0 by assumption)]; rfl
       subst hz
       rintro e w4 ⟨rfl, hb4⟩
       have hfin4 := Lib.hid (Below.next hfin.out hb4)
       have hxi4 := Lib.hid ((hb4.block w.heap.size (blk_lt hxi.out)).trans hxi.out)
       have hxn4 := Lib.hid ((hb4.block w2.heap.size (blk_lt hxn.out)).trans hxn.out)
       clear hb4 g0 g1 g2 g3 g4 g5 g6 g7 g8 g9 g10 g11 g12 n0 n1 n2 n3 n4 n5 n6 n7
       obtain ⟨g0, g1, g2, g3, g4, g5, g6, g7, g8, g9, g10, g11, g12⟩ := box13 hxi4.out
       obtain ⟨n0, n1, n2, n3, n4, n5, n6, n7⟩ := box8 hxn4.out
       go_wp2_with fail
       all_goals first
         | (with_reducible refine (hsh.out _).mono ?_
            rintro e w5 ⟨rfl, rfl⟩
            go_wp2
            go_ret
            refine ⟨ret_bool ?_, hfin4.out⟩
            rw [← hr'.out]
            unfold rq2 rq4 rq6 rq8 rq9 noN badN zeroA
            first | (rw [Bool.eq_iff_iff]; simp; omega) | (rw [Bool.eq_iff_iff]; simp; grind) | grind)
         | (go_ret
            refine ⟨ret_bool ?_, hfin4.out⟩
            rw [← hr'.out]
            unfold rq2 rq4 rq6 rq8 rq9 noN badN zeroA
            first | (rw [Bool.eq_iff_iff]; simp; omega) | (rw [Bool.eq_iff_iff]; simp; grind) | grind))
    | (go_ret
       refine ⟨ret_bool ?_, hfin.out⟩
       rw [← hr'.out]
       unfold rq2 rq4 rq6 rq8 rq9 noN badN zeroA
       first | (rw [Bool.eq_iff_iff]; simp; omega) | (rw [Bool.eq_iff_iff]; simp; grind) | grind)
set_option maxRecDepth 100000 in
set_option maxHeartbeats 8000000 in
theorem rmayOne10 (i : In) (hf : Fit i) (hop : maskP i.op = 10) (w : World) : Calls Tryz.prog 24 #[inV i] w (BoolPost (mayB i) w) := by
  have him := hf.1
  rw [show mayB i = _ from mayB_ref i.op i.bn i.sh i.cd i.ds i.sr i.im i.ba i.ix i.hb i.hi i.dp i.lb]
  have hof := of48_any i.op
  rw [hop] at hof ⊢
  unfold OfPost nmC at hof
  rw [show has 10 16 = false from rfl] at hof ⊢
  rw [show has 10 32 = false from rfl] at hof ⊢
  rw [show has 10 64 = false from rfl] at hof ⊢
  rw [show has 10 1 = false from rfl] at hof ⊢
  rw [show has 10 2 = true from rfl] at hof ⊢
  rw [show has 10 4 = false from rfl] at hof ⊢
  rw [show has 10 8 = true from rfl] at hof ⊢
  rw [show has 10 128 = false from rfl] at hof ⊢
  have hof' := Lib.hid hof
  clear hof
  have hma := Lib.hid (fun (W : World) => rmayAddr_any i.ba i.ix i.hb i.hi i.dp W)
  have hsh := Lib.hid (fun (W : World) => rshort50_any i.im him W)
  have hma0 := Lib.hid (fun (W : World) => rmayAddr_any 0 0 false false 0 W)
  rw [show addrB 0 0 false false 0 = true from rfl] at hma0
  obtain ⟨ad, had⟩ : ∃ ad, addrB i.ba i.ix i.hb i.hi i.dp = ad := ⟨_, rfl⟩
  rw [had] at hma ⊢
  have had' := Lib.hid had
  clear had
  obtain ⟨r, hr⟩ : ∃ r, (!rq2 i.op i.ds i.sr && !rq4 false false i.bn i.sh && !rq6 false false true false i.cd i.ds i.sr (i.im : Int) && !rq8 true false ad i.ba i.ix i.hb i.hi i.dp i.lb && rq9 i.op i.im) = r := ⟨_, rfl⟩
  rw [hr]
  have hr' := Lib.hid hr
  clear hr
  clear hf him
  unfold inV inC
  have hb1 := Lib.hid (below_new w (.cells #[.int .i64 i.op, .int .i64 i.bn, .int .i64 i.sh, .int .i64 i.cd, .int .i64 i.ds, .int .i64 i.sr, .int .u64 (i.im : Int), .int .i64 i.ba, .int .i64 i.ix, .bool i.hb, .bool i.hi, .int .i64 i.dp, .int .i64 i.lb] 32))
  have hx1 := Lib.hid (heap_alloc_new w (.cells #[.int .i64 i.op, .int .i64 i.bn, .int .i64 i.sh, .int .i64 i.cd, .int .i64 i.ds, .int .i64 i.sr, .int .u64 (i.im : Int), .int .i64 i.ba, .int .i64 i.ix, .bool i.hb, .bool i.hi, .int .i64 i.dp, .int .i64 i.lb] 32))
  go_enter Tryz.func24, Tryz.ntmps24
  go_wp2_with fail
  refine (hof'.out _).mono ?_
  rintro e w2 ⟨rfl, hb2⟩
  have hx2 := Lib.hid ((hb2.block w.heap.size (by simp)).trans hx1.out)
  have hb2' := Lib.hid (Below.next hb1.out hb2)
  clear hb2
  go_upto_region 2 with fail
  obtain ⟨W3, hW3⟩ : ∃ W3, w2.alloc (.cells #[.bool false, .bool false, .bool false, .bool false, .bool true, .bool false, .bool true, .bool false] 81) = W3 := ⟨_, rfl⟩
  rw [hW3]
  have hfin := Lib.hid (show Below w.heap.size w W3 from by rw [← hW3]; exact (hb2'.out).alloc hb2'.out.size _)
  have hxi := Lib.hid (show W3.heap[w.heap.size]? = some (.cells #[.int .i64 i.op, .int .i64 i.bn, .int .i64 i.sh, .int .i64 i.cd, .int .i64 i.ds, .int .i64 i.sr, .int .u64 (i.im : Int), .int .i64 i.ba, .int .i64 i.ix, .bool i.hb, .bool i.hi, .int .i64 i.dp, .int .i64 i.lb] 32 (0, 0)) from by rw [← hW3, heap_alloc_old _ _ (blk_lt hx2.out)]; exact hx2.out)
  have hxn := Lib.hid (show W3.heap[w2.heap.size]? = some (.cells #[.bool false, .bool false, .bool false, .bool false, .bool true, .bool false, .bool true, .bool false] 81 (0, 0)) from by rw [← hW3]; exact heap_alloc_new _ _)
  obtain ⟨g0, g1, g2, g3, g4, g5, g6, g7, g8, g9, g10, g11, g12⟩ := box13 hxi.out
  obtain ⟨n0, n1, n2, n3, n4, n5, n6, n7⟩ := box8 hxn.out
  clear hW3 hb1 hx1 hx2 hof'
  unfold adV at hma hma0
  go_wp2_with fail
  all_goals first
    | (with_reducible refine (hma.out _).mono ?_
       rintro e w4 ⟨rfl, hb4⟩
       have hfin4 := Lib.hid (Below.next hfin.out hb4)
       have hxi4 := Lib.hid ((hb4.block w.heap.size (blk_lt hxi.out)).trans hxi.out)
       have hxn4 := Lib.hid ((hb4.block w2.heap.size (blk_lt hxn.out)).trans hxn.out)
       clear hb4 g0 g1 g2 g3 g4 g5 g6 g7 g8 g9 g10 g11 g12 n0 n1 n2 n3 n4 n5 n6 n7
       obtain ⟨g0, g1, g2, g3, g4, g5, g6, g7, g8, g9, g10, g11, g12⟩ := box13 hxi4.out
       obtain ⟨n0, n1, n2, n3, n4, n5, n6, n7⟩ := box8 hxn4.out
       go_wp2_with fail
       all_goals first
         | (with_reducible refine (hsh.out _).mono ?_
            rintro e w5 ⟨rfl, rfl⟩
            go_wp2
            go_ret
            refine ⟨ret_bool ?_, hfin4.out⟩
            rw [← hr'.out]
            unfold rq2 rq4 rq6 rq8 rq9 noN badN zeroA
            first | (rw [Bool.eq_iff_iff]; simp; omega) | (rw [Bool.eq_iff_iff]; simp; grind) | grind)
         | (go_ret
            refine ⟨ret_bool ?_, hfin4.out⟩
            rw [← hr'.out]
            unfold rq2 rq4 rq6 rq8 rq9 noN badN zeroA
            first | (rw [Bool.eq_iff_iff]; simp; omega) | (rw [Bool.eq_iff_iff]; simp; grind) | grind))
    | (with_reducible refine (hma0.out _).mono ?_
       have hz : ad = true := by rw [← had'.out, (show i.ba = 0 by assumption), (show i.ix = 0 by assumption), (show i.hb = false by first | assumption | simpa using (show ¬ i.hb = true by assumption)), (show i.hi = false by first | assumption | simpa using (show ¬ i.hi = true by assumption)), (show i.dp = 0 by assumption)]; rfl
       subst hz
       rintro e w4 ⟨rfl, hb4⟩
       have hfin4 := Lib.hid (Below.next hfin.out hb4)
       have hxi4 := Lib.hid ((hb4.block w.heap.size (blk_lt hxi.out)).trans hxi.out)
       have hxn4 := Lib.hid ((hb4.block w2.heap.size (blk_lt hxn.out)).trans hxn.out)
       clear hb4 g0 g1 g2 g3 g4 g5 g6 g7 g8 g9 g10 g11 g12 n0 n1 n2 n3 n4 n5 n6 n7
       obtain ⟨g0, g1, g2, g3, g4, g5, g6, g7, g8, g9, g10, g11, g12⟩ := box13 hxi4.out
       obtain ⟨n0, n1, n2, n3, n4, n5, n6, n7⟩ := box8 hxn4.out
       go_wp2_with fail
       all_goals first
         | (with_reducible refine (hsh.out _).mono ?_
            rintro e w5 ⟨rfl, rfl⟩
            go_wp2
            go_ret
            refine ⟨ret_bool ?_, hfin4.out⟩
            rw [← hr'.out]
            unfold rq2 rq4 rq6 rq8 rq9 noN badN zeroA
            first | (rw [Bool.eq_iff_iff]; simp; omega) | (rw [Bool.eq_iff_iff]; simp; grind) | grind)
         | (go_ret
            refine ⟨ret_bool ?_, hfin4.out⟩
            rw [← hr'.out]
            unfold rq2 rq4 rq6 rq8 rq9 noN badN zeroA
            first | (rw [Bool.eq_iff_iff]; simp; omega) | (rw [Bool.eq_iff_iff]; simp; grind) | grind))
    | (go_ret
       refine ⟨ret_bool ?_, hfin.out⟩
       rw [← hr'.out]
       unfold rq2 rq4 rq6 rq8 rq9 noN badN zeroA
       first | (rw [Bool.eq_iff_iff]; simp; omega) | (rw [Bool.eq_iff_iff]; simp; grind) | grind)
set_option maxRecDepth 100000 in
set_option maxHeartbeats 8000000 in
theorem rmayOne19 (i : In) (hf : Fit i) (hop : maskP i.op = 19) (w : World) : Calls Tryz.prog 24 #[inV i] w (BoolPost (mayB i) w) := by
  have him := hf.1
  rw [show mayB i = _ from mayB_ref i.op i.bn i.sh i.cd i.ds i.sr i.im i.ba i.ix i.hb i.hi i.dp i.lb]
  have hof := of48_any i.op
  rw [hop] at hof ⊢
  unfold OfPost nmC at hof
  rw [show has 19 16 = true from rfl] at hof ⊢
  rw [show has 19 32 = false from rfl] at hof ⊢
  rw [show has 19 64 = false from rfl] at hof ⊢
  rw [show has 19 1 = true from rfl] at hof ⊢
  rw [show has 19 2 = true from rfl] at hof ⊢
  rw [show has 19 4 = false from rfl] at hof ⊢
  rw [show has 19 8 = false from rfl] at hof ⊢
  rw [show has 19 128 = false from rfl] at hof ⊢
  have hof' := Lib.hid hof
  clear hof
  have hma := Lib.hid (fun (W : World) => rmayAddr_any i.ba i.ix i.hb i.hi i.dp W)
  have hsh := Lib.hid (fun (W : World) => rshort50_any i.im him W)
  have hma0 := Lib.hid (fun (W : World) => rmayAddr_any 0 0 false false 0 W)
  rw [show addrB 0 0 false false 0 = true from rfl] at hma0
  obtain ⟨ad, had⟩ : ∃ ad, addrB i.ba i.ix i.hb i.hi i.dp = ad := ⟨_, rfl⟩
  rw [had] at hma ⊢
  have had' := Lib.hid had
  clear had
  obtain ⟨r, hr⟩ : ∃ r, (!rq2 i.op i.ds i.sr && !rq4 true false i.bn i.sh && !rq6 false true true false i.cd i.ds i.sr (i.im : Int) && !rq8 false false ad i.ba i.ix i.hb i.hi i.dp i.lb && rq9 i.op i.im) = r := ⟨_, rfl⟩
  rw [hr]
  have hr' := Lib.hid hr
  clear hr
  clear hf him
  unfold inV inC
  have hb1 := Lib.hid (below_new w (.cells #[.int .i64 i.op, .int .i64 i.bn, .int .i64 i.sh, .int .i64 i.cd, .int .i64 i.ds, .int .i64 i.sr, .int .u64 (i.im : Int), .int .i64 i.ba, .int .i64 i.ix, .bool i.hb, .bool i.hi, .int .i64 i.dp, .int .i64 i.lb] 32))
  have hx1 := Lib.hid (heap_alloc_new w (.cells #[.int .i64 i.op, .int .i64 i.bn, .int .i64 i.sh, .int .i64 i.cd, .int .i64 i.ds, .int .i64 i.sr, .int .u64 (i.im : Int), .int .i64 i.ba, .int .i64 i.ix, .bool i.hb, .bool i.hi, .int .i64 i.dp, .int .i64 i.lb] 32))
  go_enter Tryz.func24, Tryz.ntmps24
  go_wp2_with fail
  refine (hof'.out _).mono ?_
  rintro e w2 ⟨rfl, hb2⟩
  have hx2 := Lib.hid ((hb2.block w.heap.size (by simp)).trans hx1.out)
  have hb2' := Lib.hid (Below.next hb1.out hb2)
  clear hb2
  go_upto_region 2 with fail
  obtain ⟨W3, hW3⟩ : ∃ W3, w2.alloc (.cells #[.bool true, .bool false, .bool false, .bool true, .bool true, .bool false, .bool false, .bool false] 81) = W3 := ⟨_, rfl⟩
  rw [hW3]
  have hfin := Lib.hid (show Below w.heap.size w W3 from by rw [← hW3]; exact (hb2'.out).alloc hb2'.out.size _)
  have hxi := Lib.hid (show W3.heap[w.heap.size]? = some (.cells #[.int .i64 i.op, .int .i64 i.bn, .int .i64 i.sh, .int .i64 i.cd, .int .i64 i.ds, .int .i64 i.sr, .int .u64 (i.im : Int), .int .i64 i.ba, .int .i64 i.ix, .bool i.hb, .bool i.hi, .int .i64 i.dp, .int .i64 i.lb] 32 (0, 0)) from by rw [← hW3, heap_alloc_old _ _ (blk_lt hx2.out)]; exact hx2.out)
  have hxn := Lib.hid (show W3.heap[w2.heap.size]? = some (.cells #[.bool true, .bool false, .bool false, .bool true, .bool true, .bool false, .bool false, .bool false] 81 (0, 0)) from by rw [← hW3]; exact heap_alloc_new _ _)
  obtain ⟨g0, g1, g2, g3, g4, g5, g6, g7, g8, g9, g10, g11, g12⟩ := box13 hxi.out
  obtain ⟨n0, n1, n2, n3, n4, n5, n6, n7⟩ := box8 hxn.out
  clear hW3 hb1 hx1 hx2 hof'
  unfold adV at hma hma0
  go_wp2_with fail
  all_goals first
    | (with_reducible refine (hma.out _).mono ?_
       rintro e w4 ⟨rfl, hb4⟩
       have hfin4 := Lib.hid (Below.next hfin.out hb4)
       have hxi4 := Lib.hid ((hb4.block w.heap.size (blk_lt hxi.out)).trans hxi.out)
       have hxn4 := Lib.hid ((hb4.block w2.heap.size (blk_lt hxn.out)).trans hxn.out)
       clear hb4 g0 g1 g2 g3 g4 g5 g6 g7 g8 g9 g10 g11 g12 n0 n1 n2 n3 n4 n5 n6 n7
       obtain ⟨g0, g1, g2, g3, g4, g5, g6, g7, g8, g9, g10, g11, g12⟩ := box13 hxi4.out
       obtain ⟨n0, n1, n2, n3, n4, n5, n6, n7⟩ := box8 hxn4.out
       go_wp2_with fail
       all_goals first
         | (with_reducible refine (hsh.out _).mono ?_
            rintro e w5 ⟨rfl, rfl⟩
            go_wp2
            go_ret
            refine ⟨ret_bool ?_, hfin4.out⟩
            rw [← hr'.out]
            unfold rq2 rq4 rq6 rq8 rq9 noN badN zeroA
            first | (rw [Bool.eq_iff_iff]; simp; omega) | (rw [Bool.eq_iff_iff]; simp; grind) | grind)
         | (go_ret
            refine ⟨ret_bool ?_, hfin4.out⟩
            rw [← hr'.out]
            unfold rq2 rq4 rq6 rq8 rq9 noN badN zeroA
            first | (rw [Bool.eq_iff_iff]; simp; omega) | (rw [Bool.eq_iff_iff]; simp; grind) | grind))
    | (with_reducible refine (hma0.out _).mono ?_
       have hz : ad = true := by rw [← had'.out, (show i.ba = 0 by assumption), (show i.ix = 0 by assumption), (show i.hb = false by first | assumption | simpa using (show ¬ i.hb = true by assumption)), (show i.hi = false by first | assumption | simpa using (show ¬ i.hi = true by assumption)), (show i.dp = 0 by assumption)]; rfl
       subst hz
       rintro e w4 ⟨rfl, hb4⟩
       have hfin4 := Lib.hid (Below.next hfin.out hb4)
       have hxi4 := Lib.hid ((hb4.block w.heap.size (blk_lt hxi.out)).trans hxi.out)
       have hxn4 := Lib.hid ((hb4.block w2.heap.size (blk_lt hxn.out)).trans hxn.out)
       clear hb4 g0 g1 g2 g3 g4 g5 g6 g7 g8 g9 g10 g11 g12 n0 n1 n2 n3 n4 n5 n6 n7
       obtain ⟨g0, g1, g2, g3, g4, g5, g6, g7, g8, g9, g10, g11, g12⟩ := box13 hxi4.out
       obtain ⟨n0, n1, n2, n3, n4, n5, n6, n7⟩ := box8 hxn4.out
       go_wp2_with fail
       all_goals first
         | (with_reducible refine (hsh.out _).mono ?_
            rintro e w5 ⟨rfl, rfl⟩
            go_wp2
            go_ret
            refine ⟨ret_bool ?_, hfin4.out⟩
            rw [← hr'.out]
            unfold rq2 rq4 rq6 rq8 rq9 noN badN zeroA
            first | (rw [Bool.eq_iff_iff]; simp; omega) | (rw [Bool.eq_iff_iff]; simp; grind) | grind)
         | (go_ret
            refine ⟨ret_bool ?_, hfin4.out⟩
            rw [← hr'.out]
            unfold rq2 rq4 rq6 rq8 rq9 noN badN zeroA
            first | (rw [Bool.eq_iff_iff]; simp; omega) | (rw [Bool.eq_iff_iff]; simp; grind) | grind))
    | (go_ret
       refine ⟨ret_bool ?_, hfin.out⟩
       rw [← hr'.out]
       unfold rq2 rq4 rq6 rq8 rq9 noN badN zeroA
       first | (rw [Bool.eq_iff_iff]; simp; omega) | (rw [Bool.eq_iff_iff]; simp; grind) | grind)
set_option maxRecDepth 100000 in
set_option maxHeartbeats 8000000 in
theorem rmayOne21 (i : In) (hf : Fit i) (hop : maskP i.op = 21) (w : World) : Calls Tryz.prog 24 #[inV i] w (BoolPost (mayB i) w) := by
  have him := hf.1
  rw [show mayB i = _ from mayB_ref i.op i.bn i.sh i.cd i.ds i.sr i.im i.ba i.ix i.hb i.hi i.dp i.lb]
  have hof := of48_any i.op
  rw [hop] at hof ⊢
  unfold OfPost nmC at hof
  rw [show has 21 16 = true from rfl] at hof ⊢
  rw [show has 21 32 = false from rfl] at hof ⊢
  rw [show has 21 64 = false from rfl] at hof ⊢
  rw [show has 21 1 = true from rfl] at hof ⊢
  rw [show has 21 2 = false from rfl] at hof ⊢
  rw [show has 21 4 = true from rfl] at hof ⊢
  rw [show has 21 8 = false from rfl] at hof ⊢
  rw [show has 21 128 = false from rfl] at hof ⊢
  have hof' := Lib.hid hof
  clear hof
  have hma := Lib.hid (fun (W : World) => rmayAddr_any i.ba i.ix i.hb i.hi i.dp W)
  have hsh := Lib.hid (fun (W : World) => rshort50_any i.im him W)
  have hma0 := Lib.hid (fun (W : World) => rmayAddr_any 0 0 false false 0 W)
  rw [show addrB 0 0 false false 0 = true from rfl] at hma0
  obtain ⟨ad, had⟩ : ∃ ad, addrB i.ba i.ix i.hb i.hi i.dp = ad := ⟨_, rfl⟩
  rw [had] at hma ⊢
  have had' := Lib.hid had
  clear had
  obtain ⟨r, hr⟩ : ∃ r, (!rq2 i.op i.ds i.sr && !rq4 true false i.bn i.sh && !rq6 false true false true i.cd i.ds i.sr (i.im : Int) && !rq8 false false ad i.ba i.ix i.hb i.hi i.dp i.lb && rq9 i.op i.im) = r := ⟨_, rfl⟩
  rw [hr]
  have hr' := Lib.hid hr
  clear hr
  clear hf him
  unfold inV inC
  have hb1 := Lib.hid (below_new w (.cells #[.int .i64 i.op, .int .i64 i.bn, .int .i64 i.sh, .int .i64 i.cd, .int .i64 i.ds, .int .i64 i.sr, .int .u64 (i.im : Int), .int .i64 i.ba, .int .i64 i.ix, .bool i.hb, .bool i.hi, .int .i64 i.dp, .int .i64 i.lb] 32))
  have hx1 := Lib.hid (heap_alloc_new w (.cells #[.int .i64 i.op, .int .i64 i.bn, .int .i64 i.sh, .int .i64 i.cd, .int .i64 i.ds, .int .i64 i.sr, .int .u64 (i.im : Int), .int .i64 i.ba, .int .i64 i.ix, .bool i.hb, .bool i.hi, .int .i64 i.dp, .int .i64 i.lb] 32))
  go_enter Tryz.func24, Tryz.ntmps24
  go_wp2_with fail
  refine (hof'.out _).mono ?_
  rintro e w2 ⟨rfl, hb2⟩
  have hx2 := Lib.hid ((hb2.block w.heap.size (by simp)).trans hx1.out)
  have hb2' := Lib.hid (Below.next hb1.out hb2)
  clear hb2
  go_upto_region 2 with fail
  obtain ⟨W3, hW3⟩ : ∃ W3, w2.alloc (.cells #[.bool true, .bool false, .bool false, .bool true, .bool false, .bool true, .bool false, .bool false] 81) = W3 := ⟨_, rfl⟩
  rw [hW3]
  have hfin := Lib.hid (show Below w.heap.size w W3 from by rw [← hW3]; exact (hb2'.out).alloc hb2'.out.size _)
  have hxi := Lib.hid (show W3.heap[w.heap.size]? = some (.cells #[.int .i64 i.op, .int .i64 i.bn, .int .i64 i.sh, .int .i64 i.cd, .int .i64 i.ds, .int .i64 i.sr, .int .u64 (i.im : Int), .int .i64 i.ba, .int .i64 i.ix, .bool i.hb, .bool i.hi, .int .i64 i.dp, .int .i64 i.lb] 32 (0, 0)) from by rw [← hW3, heap_alloc_old _ _ (blk_lt hx2.out)]; exact hx2.out)
  have hxn := Lib.hid (show W3.heap[w2.heap.size]? = some (.cells #[.bool true, .bool false, .bool false, .bool true, .bool false, .bool true, .bool false, .bool false] 81 (0, 0)) from by rw [← hW3]; exact heap_alloc_new _ _)
  obtain ⟨g0, g1, g2, g3, g4, g5, g6, g7, g8, g9, g10, g11, g12⟩ := box13 hxi.out
  obtain ⟨n0, n1, n2, n3, n4, n5, n6, n7⟩ := box8 hxn.out
  clear hW3 hb1 hx1 hx2 hof'
  unfold adV at hma hma0
  go_wp2_with fail
  all_goals first
    | (with_reducible refine (hma.out _).mono ?_
       rintro e w4 ⟨rfl, hb4⟩
       have hfin4 := Lib.hid (Below.next hfin.out hb4)
       have hxi4 := Lib.hid ((hb4.block w.heap.size (blk_lt hxi.out)).trans hxi.out)
       have hxn4 := Lib.hid ((hb4.block w2.heap.size (blk_lt hxn.out)).trans hxn.out)
       clear hb4 g0 g1 g2 g3 g4 g5 g6 g7 g8 g9 g10 g11 g12 n0 n1 n2 n3 n4 n5 n6 n7
       obtain ⟨g0, g1, g2, g3, g4, g5, g6, g7, g8, g9, g10, g11, g12⟩ := box13 hxi4.out
       obtain ⟨n0, n1, n2, n3, n4, n5, n6, n7⟩ := box8 hxn4.out
       go_wp2_with fail
       all_goals first
         | (with_reducible refine (hsh.out _).mono ?_
            rintro e w5 ⟨rfl, rfl⟩
            go_wp2
            go_ret
            refine ⟨ret_bool ?_, hfin4.out⟩
            rw [← hr'.out]
            unfold rq2 rq4 rq6 rq8 rq9 noN badN zeroA
            first | (rw [Bool.eq_iff_iff]; simp; omega) | (rw [Bool.eq_iff_iff]; simp; grind) | grind)
         | (go_ret
            refine ⟨ret_bool ?_, hfin4.out⟩
            rw [← hr'.out]
            unfold rq2 rq4 rq6 rq8 rq9 noN badN zeroA
            first | (rw [Bool.eq_iff_iff]; simp; omega) | (rw [Bool.eq_iff_iff]; simp; grind) | grind))
    | (with_reducible refine (hma0.out _).mono ?_
       have hz : ad = true := by rw [← had'.out, (show i.ba = 0 by assumption), (show i.ix = 0 by assumption), (show i.hb = false by first | assumption | simpa using (show ¬ i.hb = true by assumption)), (show i.hi = false by first | assumption | simpa using (show ¬ i.hi = true by assumption)), (show i.dp = 0 by assumption)]; rfl
       subst hz
       rintro e w4 ⟨rfl, hb4⟩
       have hfin4 := Lib.hid (Below.next hfin.out hb4)
       have hxi4 := Lib.hid ((hb4.block w.heap.size (blk_lt hxi.out)).trans hxi.out)
       have hxn4 := Lib.hid ((hb4.block w2.heap.size (blk_lt hxn.out)).trans hxn.out)
       clear hb4 g0 g1 g2 g3 g4 g5 g6 g7 g8 g9 g10 g11 g12 n0 n1 n2 n3 n4 n5 n6 n7
       obtain ⟨g0, g1, g2, g3, g4, g5, g6, g7, g8, g9, g10, g11, g12⟩ := box13 hxi4.out
       obtain ⟨n0, n1, n2, n3, n4, n5, n6, n7⟩ := box8 hxn4.out
       go_wp2_with fail
       all_goals first
         | (with_reducible refine (hsh.out _).mono ?_
            rintro e w5 ⟨rfl, rfl⟩
            go_wp2
            go_ret
            refine ⟨ret_bool ?_, hfin4.out⟩
            rw [← hr'.out]
            unfold rq2 rq4 rq6 rq8 rq9 noN badN zeroA
            first | (rw [Bool.eq_iff_iff]; simp; omega) | (rw [Bool.eq_iff_iff]; simp; grind) | grind)
         | (go_ret
            refine ⟨ret_bool ?_, hfin4.out⟩
            rw [← hr'.out]
            unfold rq2 rq4 rq6 rq8 rq9 noN badN zeroA
            first | (rw [Bool.eq_iff_iff]; simp; omega) | (rw [Bool.eq_iff_iff]; simp; grind) | grind))
    | (go_ret
       refine ⟨ret_bool ?_, hfin.out⟩
       rw [← hr'.out]
       unfold rq2 rq4 rq6 rq8 rq9 noN badN zeroA
       first | (rw [Bool.eq_iff_iff]; simp; omega) | (rw [Bool.eq_iff_iff]; simp; grind) | grind)
end Go.Proofs.YtmimmnjdgpdjlaaGreatDoor
