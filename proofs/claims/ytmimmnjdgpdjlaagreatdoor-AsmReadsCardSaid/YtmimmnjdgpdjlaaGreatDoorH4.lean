/- The reference's names of an operation: of. The reference's MayOne says the same (plain). -/
import Derived.Test.YtmimmnjdgpdjlaaGreatDoorH2
set_option linter.unusedSimpArgs false
set_option linter.unusedVariables false
namespace Go.Proofs.YtmimmnjdgpdjlaaGreatDoor
open Go.RowKit Go.Lib Go.Shelf

def maskP (op : Int) : Nat := (maskO op).getD 0
def nmC (p : Nat) : Array Value := #[.bool (has p 16), .bool (has p 32), .bool (has p 64), .bool (has p 1), .bool (has p 2), .bool (has p 4), .bool (has p 8), .bool (has p 128)]
def OfPost (p : Nat) (w : World) (e : Ending) (w' : World) : Prop := e = .returned (.agg (nmC p)) ∧ Below w.heap.size w w'
theorem box8 {W : World} {b : Nat} {t : TypeId} {c0 c1 c2 c3 c4 c5 c6 c7 : Value} (h : W.heap[b]? = some (.cells #[c0, c1, c2, c3, c4, c5, c6, c7] t (0, 0))) : W.cell? ⟨b, 0, none⟩ = some c0 ∧ W.cell? ⟨b, 1, none⟩ = some c1 ∧ W.cell? ⟨b, 2, none⟩ = some c2 ∧ W.cell? ⟨b, 3, none⟩ = some c3 ∧ W.cell? ⟨b, 4, none⟩ = some c4 ∧ W.cell? ⟨b, 5, none⟩ = some c5 ∧ W.cell? ⟨b, 6, none⟩ = some c6 ∧ W.cell? ⟨b, 7, none⟩ = some c7 := by
  refine ⟨?_, ?_, ?_, ?_, ?_, ?_, ?_, ?_⟩ <;> (rw [blk_cell h]; rfl)
set_option maxRecDepth 100000 in
set_option maxHeartbeats 4000000 in
theorem of1_any (w : World) : Calls Tryz.prog 48 #[.int .i64 1] w (OfPost 3 w) := by
  go_enter Tryz.func48, Tryz.ntmps48
  go_wp2
  refine bodyPost_ret (v := .agg #[.bool false, .bool false, .bool false, .bool true, .bool true, .bool false, .bool false, .bool false]) ?_ rfl ⟨by rfl, below_new w _⟩
  obtain ⟨q0, q1, q2, q3, q4, q5, q6, q7⟩ := box8 (heap_alloc_new w (.cells #[.bool false, .bool false, .bool false, .bool true, .bool true, .bool false, .bool false, .bool false] 81))
  simp [results, Tryz.f48, go_sem, q0, q1, q2, q3, q4, q5, q6, q7]
set_option maxRecDepth 100000 in
set_option maxHeartbeats 4000000 in
theorem of2_any (w : World) : Calls Tryz.prog 48 #[.int .i64 2] w (OfPost 5 w) := by
  go_enter Tryz.func48, Tryz.ntmps48
  go_wp2
  refine bodyPost_ret (v := .agg #[.bool false, .bool false, .bool false, .bool true, .bool false, .bool true, .bool false, .bool false]) ?_ rfl ⟨by rfl, below_new w _⟩
  obtain ⟨q0, q1, q2, q3, q4, q5, q6, q7⟩ := box8 (heap_alloc_new w (.cells #[.bool false, .bool false, .bool false, .bool true, .bool false, .bool true, .bool false, .bool false] 81))
  simp [results, Tryz.f48, go_sem, q0, q1, q2, q3, q4, q5, q6, q7]
set_option maxRecDepth 100000 in
set_option maxHeartbeats 4000000 in
theorem of3_any (w : World) : Calls Tryz.prog 48 #[.int .i64 3] w (OfPost 9 w) := by
  go_enter Tryz.func48, Tryz.ntmps48
  go_wp2
  refine bodyPost_ret (v := .agg #[.bool false, .bool false, .bool false, .bool true, .bool false, .bool false, .bool true, .bool false]) ?_ rfl ⟨by rfl, below_new w _⟩
  obtain ⟨q0, q1, q2, q3, q4, q5, q6, q7⟩ := box8 (heap_alloc_new w (.cells #[.bool false, .bool false, .bool false, .bool true, .bool false, .bool false, .bool true, .bool false] 81))
  simp [results, Tryz.f48, go_sem, q0, q1, q2, q3, q4, q5, q6, q7]
set_option maxRecDepth 100000 in
set_option maxHeartbeats 4000000 in
theorem of4_any (w : World) : Calls Tryz.prog 48 #[.int .i64 4] w (OfPost 10 w) := by
  go_enter Tryz.func48, Tryz.ntmps48
  go_wp2
  refine bodyPost_ret (v := .agg #[.bool false, .bool false, .bool false, .bool false, .bool true, .bool false, .bool true, .bool false]) ?_ rfl ⟨by rfl, below_new w _⟩
  obtain ⟨q0, q1, q2, q3, q4, q5, q6, q7⟩ := box8 (heap_alloc_new w (.cells #[.bool false, .bool false, .bool false, .bool false, .bool true, .bool false, .bool true, .bool false] 81))
  simp [results, Tryz.f48, go_sem, q0, q1, q2, q3, q4, q5, q6, q7]
set_option maxRecDepth 100000 in
set_option maxHeartbeats 4000000 in
theorem of5_any (w : World) : Calls Tryz.prog 48 #[.int .i64 5] w (OfPost 19 w) := by
  go_enter Tryz.func48, Tryz.ntmps48
  go_wp2
  refine bodyPost_ret (v := .agg #[.bool true, .bool false, .bool false, .bool true, .bool true, .bool false, .bool false, .bool false]) ?_ rfl ⟨by rfl, below_new w _⟩
  obtain ⟨q0, q1, q2, q3, q4, q5, q6, q7⟩ := box8 (heap_alloc_new w (.cells #[.bool true, .bool false, .bool false, .bool true, .bool true, .bool false, .bool false, .bool false] 81))
  simp [results, Tryz.f48, go_sem, q0, q1, q2, q3, q4, q5, q6, q7]
set_option maxRecDepth 100000 in
set_option maxHeartbeats 4000000 in
theorem of6_any (w : World) : Calls Tryz.prog 48 #[.int .i64 6] w (OfPost 21 w) := by
  go_enter Tryz.func48, Tryz.ntmps48
  go_wp2
  refine bodyPost_ret (v := .agg #[.bool true, .bool false, .bool false, .bool true, .bool false, .bool true, .bool false, .bool false]) ?_ rfl ⟨by rfl, below_new w _⟩
  obtain ⟨q0, q1, q2, q3, q4, q5, q6, q7⟩ := box8 (heap_alloc_new w (.cells #[.bool true, .bool false, .bool false, .bool true, .bool false, .bool true, .bool false, .bool false] 81))
  simp [results, Tryz.f48, go_sem, q0, q1, q2, q3, q4, q5, q6, q7]
set_option maxRecDepth 100000 in
set_option maxHeartbeats 4000000 in
theorem of7_any (w : World) : Calls Tryz.prog 48 #[.int .i64 7] w (OfPost 33 w) := by
  go_enter Tryz.func48, Tryz.ntmps48
  go_wp2
  refine bodyPost_ret (v := .agg #[.bool false, .bool true, .bool false, .bool true, .bool false, .bool false, .bool false, .bool false]) ?_ rfl ⟨by rfl, below_new w _⟩
  obtain ⟨q0, q1, q2, q3, q4, q5, q6, q7⟩ := box8 (heap_alloc_new w (.cells #[.bool false, .bool true, .bool false, .bool true, .bool false, .bool false, .bool false, .bool false] 81))
  simp [results, Tryz.f48, go_sem, q0, q1, q2, q3, q4, q5, q6, q7]
set_option maxRecDepth 100000 in
set_option maxHeartbeats 4000000 in
theorem of8_any (w : World) : Calls Tryz.prog 48 #[.int .i64 8] w (OfPost 37 w) := by
  go_enter Tryz.func48, Tryz.ntmps48
  go_wp2
  refine bodyPost_ret (v := .agg #[.bool false, .bool true, .bool false, .bool true, .bool false, .bool true, .bool false, .bool false]) ?_ rfl ⟨by rfl, below_new w _⟩
  obtain ⟨q0, q1, q2, q3, q4, q5, q6, q7⟩ := box8 (heap_alloc_new w (.cells #[.bool false, .bool true, .bool false, .bool true, .bool false, .bool true, .bool false, .bool false] 81))
  simp [results, Tryz.f48, go_sem, q0, q1, q2, q3, q4, q5, q6, q7]
set_option maxRecDepth 100000 in
set_option maxHeartbeats 4000000 in
theorem of9_any (w : World) : Calls Tryz.prog 48 #[.int .i64 9] w (OfPost 1 w) := by
  go_enter Tryz.func48, Tryz.ntmps48
  go_wp2
  refine bodyPost_ret (v := .agg #[.bool false, .bool false, .bool false, .bool true, .bool false, .bool false, .bool false, .bool false]) ?_ rfl ⟨by rfl, below_new w _⟩
  obtain ⟨q0, q1, q2, q3, q4, q5, q6, q7⟩ := box8 (heap_alloc_new w (.cells #[.bool false, .bool false, .bool false, .bool true, .bool false, .bool false, .bool false, .bool false] 81))
  simp [results, Tryz.f48, go_sem, q0, q1, q2, q3, q4, q5, q6, q7]
set_option maxRecDepth 100000 in
set_option maxHeartbeats 4000000 in
theorem of10_any (w : World) : Calls Tryz.prog 48 #[.int .i64 10] w (OfPost 1 w) := by
  go_enter Tryz.func48, Tryz.ntmps48
  go_wp2
  refine bodyPost_ret (v := .agg #[.bool false, .bool false, .bool false, .bool true, .bool false, .bool false, .bool false, .bool false]) ?_ rfl ⟨by rfl, below_new w _⟩
  obtain ⟨q0, q1, q2, q3, q4, q5, q6, q7⟩ := box8 (heap_alloc_new w (.cells #[.bool false, .bool false, .bool false, .bool true, .bool false, .bool false, .bool false, .bool false] 81))
  simp [results, Tryz.f48, go_sem, q0, q1, q2, q3, q4, q5, q6, q7]
set_option maxRecDepth 100000 in
set_option maxHeartbeats 4000000 in
theorem of11_any (w : World) : Calls Tryz.prog 48 #[.int .i64 11] w (OfPost 3 w) := by
  go_enter Tryz.func48, Tryz.ntmps48
  go_wp2
  refine bodyPost_ret (v := .agg #[.bool false, .bool false, .bool false, .bool true, .bool true, .bool false, .bool false, .bool false]) ?_ rfl ⟨by rfl, below_new w _⟩
  obtain ⟨q0, q1, q2, q3, q4, q5, q6, q7⟩ := box8 (heap_alloc_new w (.cells #[.bool false, .bool false, .bool false, .bool true, .bool true, .bool false, .bool false, .bool false] 81))
  simp [results, Tryz.f48, go_sem, q0, q1, q2, q3, q4, q5, q6, q7]
set_option maxRecDepth 100000 in
set_option maxHeartbeats 4000000 in
theorem of12_any (w : World) : Calls Tryz.prog 48 #[.int .i64 12] w (OfPost 3 w) := by
  go_enter Tryz.func48, Tryz.ntmps48
  go_wp2
  refine bodyPost_ret (v := .agg #[.bool false, .bool false, .bool false, .bool true, .bool true, .bool false, .bool false, .bool false]) ?_ rfl ⟨by rfl, below_new w _⟩
  obtain ⟨q0, q1, q2, q3, q4, q5, q6, q7⟩ := box8 (heap_alloc_new w (.cells #[.bool false, .bool false, .bool false, .bool true, .bool true, .bool false, .bool false, .bool false] 81))
  simp [results, Tryz.f48, go_sem, q0, q1, q2, q3, q4, q5, q6, q7]
set_option maxRecDepth 100000 in
set_option maxHeartbeats 4000000 in
theorem of13_any (w : World) : Calls Tryz.prog 48 #[.int .i64 13] w (OfPost 5 w) := by
  go_enter Tryz.func48, Tryz.ntmps48
  go_wp2
  refine bodyPost_ret (v := .agg #[.bool false, .bool false, .bool false, .bool true, .bool false, .bool true, .bool false, .bool false]) ?_ rfl ⟨by rfl, below_new w _⟩
  obtain ⟨q0, q1, q2, q3, q4, q5, q6, q7⟩ := box8 (heap_alloc_new w (.cells #[.bool false, .bool false, .bool false, .bool true, .bool false, .bool true, .bool false, .bool false] 81))
  simp [results, Tryz.f48, go_sem, q0, q1, q2, q3, q4, q5, q6, q7]
set_option maxRecDepth 100000 in
set_option maxHeartbeats 4000000 in
theorem of14_any (w : World) : Calls Tryz.prog 48 #[.int .i64 14] w (OfPost 65 w) := by
  go_enter Tryz.func48, Tryz.ntmps48
  go_wp2
  refine bodyPost_ret (v := .agg #[.bool false, .bool false, .bool true, .bool true, .bool false, .bool false, .bool false, .bool false]) ?_ rfl ⟨by rfl, below_new w _⟩
  obtain ⟨q0, q1, q2, q3, q4, q5, q6, q7⟩ := box8 (heap_alloc_new w (.cells #[.bool false, .bool false, .bool true, .bool true, .bool false, .bool false, .bool false, .bool false] 81))
  simp [results, Tryz.f48, go_sem, q0, q1, q2, q3, q4, q5, q6, q7]
set_option maxRecDepth 100000 in
set_option maxHeartbeats 4000000 in
theorem of15_any (w : World) : Calls Tryz.prog 48 #[.int .i64 15] w (OfPost 3 w) := by
  go_enter Tryz.func48, Tryz.ntmps48
  go_wp2
  refine bodyPost_ret (v := .agg #[.bool false, .bool false, .bool false, .bool true, .bool true, .bool false, .bool false, .bool false]) ?_ rfl ⟨by rfl, below_new w _⟩
  obtain ⟨q0, q1, q2, q3, q4, q5, q6, q7⟩ := box8 (heap_alloc_new w (.cells #[.bool false, .bool false, .bool false, .bool true, .bool true, .bool false, .bool false, .bool false] 81))
  simp [results, Tryz.f48, go_sem, q0, q1, q2, q3, q4, q5, q6, q7]
set_option maxRecDepth 100000 in
set_option maxHeartbeats 4000000 in
theorem of16_any (w : World) : Calls Tryz.prog 48 #[.int .i64 16] w (OfPost 67 w) := by
  go_enter Tryz.func48, Tryz.ntmps48
  go_wp2
  refine bodyPost_ret (v := .agg #[.bool false, .bool false, .bool true, .bool true, .bool true, .bool false, .bool false, .bool false]) ?_ rfl ⟨by rfl, below_new w _⟩
  obtain ⟨q0, q1, q2, q3, q4, q5, q6, q7⟩ := box8 (heap_alloc_new w (.cells #[.bool false, .bool false, .bool true, .bool true, .bool true, .bool false, .bool false, .bool false] 81))
  simp [results, Tryz.f48, go_sem, q0, q1, q2, q3, q4, q5, q6, q7]
set_option maxRecDepth 100000 in
set_option maxHeartbeats 4000000 in
theorem of17_any (w : World) : Calls Tryz.prog 48 #[.int .i64 17] w (OfPost 128 w) := by
  go_enter Tryz.func48, Tryz.ntmps48
  go_wp2
  refine bodyPost_ret (v := .agg #[.bool false, .bool false, .bool false, .bool false, .bool false, .bool false, .bool false, .bool true]) ?_ rfl ⟨by rfl, below_new w _⟩
  obtain ⟨q0, q1, q2, q3, q4, q5, q6, q7⟩ := box8 (heap_alloc_new w (.cells #[.bool false, .bool false, .bool false, .bool false, .bool false, .bool false, .bool false, .bool true] 81))
  simp [results, Tryz.f48, go_sem, q0, q1, q2, q3, q4, q5, q6, q7]
set_option maxRecDepth 100000 in
set_option maxHeartbeats 4000000 in
theorem of18_any (w : World) : Calls Tryz.prog 48 #[.int .i64 18] w (OfPost 192 w) := by
  go_enter Tryz.func48, Tryz.ntmps48
  go_wp2
  refine bodyPost_ret (v := .agg #[.bool false, .bool false, .bool true, .bool false, .bool false, .bool false, .bool false, .bool true]) ?_ rfl ⟨by rfl, below_new w _⟩
  obtain ⟨q0, q1, q2, q3, q4, q5, q6, q7⟩ := box8 (heap_alloc_new w (.cells #[.bool false, .bool false, .bool true, .bool false, .bool false, .bool false, .bool false, .bool true] 81))
  simp [results, Tryz.f48, go_sem, q0, q1, q2, q3, q4, q5, q6, q7]
set_option maxRecDepth 100000 in
set_option maxHeartbeats 4000000 in
theorem of19_any (w : World) : Calls Tryz.prog 48 #[.int .i64 19] w (OfPost 128 w) := by
  go_enter Tryz.func48, Tryz.ntmps48
  go_wp2
  refine bodyPost_ret (v := .agg #[.bool false, .bool false, .bool false, .bool false, .bool false, .bool false, .bool false, .bool true]) ?_ rfl ⟨by rfl, below_new w _⟩
  obtain ⟨q0, q1, q2, q3, q4, q5, q6, q7⟩ := box8 (heap_alloc_new w (.cells #[.bool false, .bool false, .bool false, .bool false, .bool false, .bool false, .bool false, .bool true] 81))
  simp [results, Tryz.f48, go_sem, q0, q1, q2, q3, q4, q5, q6, q7]
set_option maxRecDepth 100000 in
set_option maxHeartbeats 4000000 in
theorem of20_any (w : World) : Calls Tryz.prog 48 #[.int .i64 20] w (OfPost 0 w) := by
  go_enter Tryz.func48, Tryz.ntmps48
  go_wp2
  refine bodyPost_ret (v := .agg #[.bool false, .bool false, .bool false, .bool false, .bool false, .bool false, .bool false, .bool false]) ?_ rfl ⟨by rfl, below_new w _⟩
  obtain ⟨q0, q1, q2, q3, q4, q5, q6, q7⟩ := box8 (heap_alloc_new w (.cells #[.bool false, .bool false, .bool false, .bool false, .bool false, .bool false, .bool false, .bool false] 81))
  simp [results, Tryz.f48, go_sem, q0, q1, q2, q3, q4, q5, q6, q7]
set_option maxRecDepth 100000 in
set_option maxHeartbeats 4000000 in
theorem ofNo_any (op : Int) (h : ¬ (1 ≤ op ∧ op ≤ 20)) (w : World) : Calls Tryz.prog 48 #[.int .i64 op] w (OfPost 0 w) := by
  have n1 : (op == 1) = false := beq_no (by omega)
  have n2 : (op == 2) = false := beq_no (by omega)
  have n3 : (op == 3) = false := beq_no (by omega)
  have n4 : (op == 4) = false := beq_no (by omega)
  have n5 : (op == 5) = false := beq_no (by omega)
  have n6 : (op == 6) = false := beq_no (by omega)
  have n7 : (op == 7) = false := beq_no (by omega)
  have n8 : (op == 8) = false := beq_no (by omega)
  have n9 : (op == 9) = false := beq_no (by omega)
  have n10 : (op == 10) = false := beq_no (by omega)
  have n11 : (op == 11) = false := beq_no (by omega)
  have n12 : (op == 12) = false := beq_no (by omega)
  have n13 : (op == 13) = false := beq_no (by omega)
  have n14 : (op == 14) = false := beq_no (by omega)
  have n15 : (op == 15) = false := beq_no (by omega)
  have n16 : (op == 16) = false := beq_no (by omega)
  have n17 : (op == 17) = false := beq_no (by omega)
  have n18 : (op == 18) = false := beq_no (by omega)
  have n19 : (op == 19) = false := beq_no (by omega)
  have n20 : (op == 20) = false := beq_no (by omega)
  clear h
  go_enter Tryz.func48, Tryz.ntmps48
  go_wp2
  refine bodyPost_ret (v := .agg #[.bool false, .bool false, .bool false, .bool false, .bool false, .bool false, .bool false, .bool false]) ?_ rfl ⟨by rfl, below_new w _⟩
  obtain ⟨q0, q1, q2, q3, q4, q5, q6, q7⟩ := box8 (heap_alloc_new w (.cells #[.bool false, .bool false, .bool false, .bool false, .bool false, .bool false, .bool false, .bool false] 81))
  simp [results, Tryz.f48, go_sem, q0, q1, q2, q3, q4, q5, q6, q7]
theorem of48_any (op : Int) (w : World) : Calls Tryz.prog 48 #[.int .i64 op] w (OfPost (maskP op) w) := by
  by_cases ho : 1 ≤ op ∧ op ≤ 20
  · rcases op_cases ho with rfl | rfl | rfl | rfl | rfl | rfl | rfl | rfl | rfl | rfl | rfl | rfl | rfl | rfl | rfl | rfl | rfl | rfl | rfl | rfl
    · exact of1_any w
    · exact of2_any w
    · exact of3_any w
    · exact of4_any w
    · exact of5_any w
    · exact of6_any w
    · exact of7_any w
    · exact of8_any w
    · exact of9_any w
    · exact of10_any w
    · exact of11_any w
    · exact of12_any w
    · exact of13_any w
    · exact of14_any w
    · exact of15_any w
    · exact of16_any w
    · exact of17_any w
    · exact of18_any w
    · exact of19_any w
    · exact of20_any w
  · rw [show maskP op = 0 from by unfold maskP maskO; rw [if_neg ho]; rfl]
    exact ofNo_any op ho w
end Go.Proofs.YtmimmnjdgpdjlaaGreatDoor
namespace Go.Proofs.YtmimmnjdgpdjlaaGreatDoor
open Go.RowKit Go.Lib Go.Shelf

def badN (b : Bool) (x lo hi : Int) : Bool := if b then decide (x < lo ∨ hi < x) else decide (x ≠ 0)
def rq2 (op ds sr : Int) : Bool := decide (op < 1 ∨ 20 < op ∨ ds < 0 ∨ 15 < ds ∨ sr < 0 ∨ 15 < sr)
def rq4 (b16 b32 : Bool) (bn sh : Int) : Bool := badN b16 bn 1 8 || badN b32 sh 1 5
def noN (b : Bool) (x : Int) : Bool := !b && decide (x ≠ 0)
def rq6 (b64 b1 b2 b4 : Bool) (cd ds sr im : Int) : Bool := (noN b64 cd || decide (cd < 0 ∨ 15 < cd)) || noN b1 ds || noN b2 sr || noN b4 im
def zeroA (ba ix : Int) (hb hi : Bool) (dp : Int) : Bool := decide (ba = 0 ∧ ix = 0 ∧ hb = false ∧ hi = false ∧ dp = 0)
def rq8 (b8 b128 ad : Bool) (ba ix : Int) (hb hi : Bool) (dp lb : Int) : Bool := (!b8 && !zeroA ba ix hb hi dp) || !ad || noN b128 lb || decide (lb < 0 ∨ 1048576 < lb)
def rq9 (op : Int) (im : Nat) : Bool := if op = 6 ∨ op = 13 then shortN im else if op = 8 then decide (im < 64) else true
theorem mayB_ref (op bn sh cd ds sr : Int) (im : Nat) (ba ix : Int) (hb hi : Bool) (dp lb : Int) : mayB ⟨op, bn, sh, cd, ds, sr, im, ba, ix, hb, hi, dp, lb⟩ =
    (!rq2 op ds sr && !rq4 (has (maskP op) 16) (has (maskP op) 32) bn sh && !rq6 (has (maskP op) 64) (has (maskP op) 1) (has (maskP op) 2) (has (maskP op) 4) cd ds sr (im : Int) &&
      !rq8 (has (maskP op) 8) (has (maskP op) 128) (addrB ba ix hb hi dp) ba ix hb hi dp lb && rq9 op im) := by
  obtain ⟨ad, had⟩ : ∃ ad, addrB ba ix hb hi dp = ad := ⟨_, rfl⟩
  obtain ⟨sn, hsn⟩ : ∃ x, rq9 op im = x := ⟨_, rfl⟩
  unfold mayB
  by_cases ho : 1 ≤ op ∧ op ≤ 20
  · have key : ∀ p : Nat, mayP ⟨op, bn, sh, cd, ds, sr, im, ba, ix, hb, hi, dp, lb⟩ p = (!rq2 op ds sr && !rq4 (has p 16) (has p 32) bn sh && !rq6 (has p 64) (has p 1) (has p 2) (has p 4) cd ds sr (im : Int) &&
      !rq8 (has p 8) (has p 128) ad ba ix hb hi dp lb && sn) := by
      intro p
      rw [mayP_eq]
      unfold mayX
      dsimp only
      rw [had, show (if op = 6 ∨ op = 13 then shortN im else if op = 8 then decide (im < 64) else true) = sn from hsn]
      unfold strip
      dsimp only
      unfold rq2 rq4 rq6 rq8 noN badN regB zeroA
      clear had hsn
      generalize has p 16 = b16
      generalize has p 32 = b32
      generalize has p 64 = b64
      generalize has p 1 = b1
      generalize has p 2 = b2
      generalize has p 4 = b4
      generalize has p 8 = b8
      generalize has p 128 = b128
      rw [Bool.eq_iff_iff]
      simp only [In.mk.injEq, Bool.and_eq_true, Bool.or_eq_true, decide_eq_true_eq, Bool.not_eq_true', decide_eq_false_iff_not, Bool.or_eq_false_iff, Bool.and_eq_false_iff, Bool.not_eq_false', true_and]
      have z := ho
      cases b16 <;> cases b32 <;> simp <;> grind
    have hm : ∃ p, maskO op = some p ∧ maskP op = p := by
      rcases op_cases ho with rfl | rfl | rfl | rfl | rfl | rfl | rfl | rfl | rfl | rfl | rfl | rfl | rfl | rfl | rfl | rfl | rfl | rfl | rfl | rfl <;> exact ⟨_, rfl, rfl⟩
    obtain ⟨p, h1, h2⟩ := hm
    dsimp only
    rw [h1, h2, had, hsn]
    exact key p
  · have h1 : maskO op = none := by unfold maskO; rw [if_neg ho]
    dsimp only
    rw [h1]
    have h2 : rq2 op ds sr = true := decide_eq_true (by omega)
    rw [h2]
    rfl

end Go.Proofs.YtmimmnjdgpdjlaaGreatDoor
