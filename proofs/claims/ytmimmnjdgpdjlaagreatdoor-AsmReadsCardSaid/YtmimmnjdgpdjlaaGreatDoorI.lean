/- An instruction's word. -/
import Derived.Test.YtmimmnjdgpdjlaaGreatDoorH2
import Derived.Deep.RegionHeld3
set_option linter.unusedSimpArgs false
set_option linter.unusedVariables false
namespace Go.Proofs.YtmimmnjdgpdjlaaGreatDoor
open Go.RowKit Go.Lib Go.Shelf

def plainEs : Array MapEntry := #[⟨.int .i64 1, .agg #[.string ⟨#[109, 111, 118, 113]⟩], 0⟩, ⟨.int .i64 2, .agg #[.string ⟨#[109, 111, 118, 97, 98, 115, 113]⟩], 1⟩, ⟨.int .i64 3, .agg #[.string ⟨#[109, 111, 118, 113]⟩], 2⟩, ⟨.int .i64 4, .agg #[.string ⟨#[109, 111, 118, 113]⟩], 3⟩, ⟨.int .i64 9, .agg #[.string ⟨#[110, 111, 116, 113]⟩], 4⟩, ⟨.int .i64 10, .agg #[.string ⟨#[110, 101, 103, 113]⟩], 5⟩, ⟨.int .i64 11, .agg #[.string ⟨#[99, 109, 112, 113]⟩], 6⟩, ⟨.int .i64 12, .agg #[.string ⟨#[116, 101, 115, 116, 113]⟩], 7⟩, ⟨.int .i64 13, .agg #[.string ⟨#[99, 109, 112, 113]⟩], 8⟩, ⟨.int .i64 15, .agg #[.string ⟨#[109, 111, 118, 122, 98, 113]⟩], 9⟩, ⟨.int .i64 17, .agg #[.string ⟨#[106, 109, 112]⟩], 10⟩, ⟨.int .i64 20, .agg #[.string ⟨#[114, 101, 116]⟩], 11⟩]
theorem empty_app {x : ByteArray} : (bt []) ++ x = x := ext_bytes (by simp [bt])
def PlainAt (w : World) (b : Nat) : Prop := w.heap[b]? = some (.map plainEs 12)
theorem PlainAt.below {w w' : World} {b : Nat} (h : PlainAt w b) (hb : Below w.heap.size w w') : PlainAt w' b := (hb.block b (blk_lt h)).trans h
def PlainPost (w : World) (e : Ending) (w' : World) : Prop := ∃ b, e = .returned (.map (some b)) ∧ PlainAt w' b ∧ Below w.heap.size w w'
set_option maxRecDepth 100000 in
set_option maxHeartbeats 4000000 in
theorem plain127_any (w : World) : Calls Tryz.prog 127 #[] w (PlainPost w) := by
  have hmm := @run_makeMap Tryz.prog
  have hbm : BM w (w.alloc (.map #[] 0)) w.heap.size #[] 0 [] := BM.made (Below.refl _ _)
  go_enter Tryz.func127, Tryz.ntmps127
  go_wp2_with (refine wpList_insert_new (w0 := w) _ rfl _ _ _ _ rfl _ _ Tryz.underlying147 Tryz.underlying23 _ _ _ _ _ _ rfl rfl rfl hbm rfl ?_; clear hbm; intro w1 hbm; simp [Act.eval, Act.put] at hbm)
  go_ret
  exact ⟨_, rfl, hbm.1, hbm.2.1⟩
theorem run_field146 (s : ByteArray) (w : World) : (Instr.field 146 (.agg #[.string s]) 0).run Tryz.prog w = .ok (.string s) w := by kernel_rfl
theorem plain_look1 {w : World} {b : Nat} (hp : PlainAt w b) : (Instr.lookup 147 (.map (some b)) (.int .i64 1) false).run Tryz.prog w = .ok (.agg #[.string ⟨#[109, 111, 118, 113]⟩]) w :=
  run_lookup_lit Tryz.underlying147 Tryz.underlying23 hp _ _ 0 rfl
theorem plain_look2 {w : World} {b : Nat} (hp : PlainAt w b) : (Instr.lookup 147 (.map (some b)) (.int .i64 2) false).run Tryz.prog w = .ok (.agg #[.string ⟨#[109, 111, 118, 97, 98, 115, 113]⟩]) w :=
  run_lookup_lit Tryz.underlying147 Tryz.underlying23 hp _ _ 1 rfl
theorem plain_look3 {w : World} {b : Nat} (hp : PlainAt w b) : (Instr.lookup 147 (.map (some b)) (.int .i64 3) false).run Tryz.prog w = .ok (.agg #[.string ⟨#[109, 111, 118, 113]⟩]) w :=
  run_lookup_lit Tryz.underlying147 Tryz.underlying23 hp _ _ 2 rfl
theorem plain_look4 {w : World} {b : Nat} (hp : PlainAt w b) : (Instr.lookup 147 (.map (some b)) (.int .i64 4) false).run Tryz.prog w = .ok (.agg #[.string ⟨#[109, 111, 118, 113]⟩]) w :=
  run_lookup_lit Tryz.underlying147 Tryz.underlying23 hp _ _ 3 rfl
theorem plain_look9 {w : World} {b : Nat} (hp : PlainAt w b) : (Instr.lookup 147 (.map (some b)) (.int .i64 9) false).run Tryz.prog w = .ok (.agg #[.string ⟨#[110, 111, 116, 113]⟩]) w :=
  run_lookup_lit Tryz.underlying147 Tryz.underlying23 hp _ _ 4 rfl
theorem plain_look10 {w : World} {b : Nat} (hp : PlainAt w b) : (Instr.lookup 147 (.map (some b)) (.int .i64 10) false).run Tryz.prog w = .ok (.agg #[.string ⟨#[110, 101, 103, 113]⟩]) w :=
  run_lookup_lit Tryz.underlying147 Tryz.underlying23 hp _ _ 5 rfl
theorem plain_look11 {w : World} {b : Nat} (hp : PlainAt w b) : (Instr.lookup 147 (.map (some b)) (.int .i64 11) false).run Tryz.prog w = .ok (.agg #[.string ⟨#[99, 109, 112, 113]⟩]) w :=
  run_lookup_lit Tryz.underlying147 Tryz.underlying23 hp _ _ 6 rfl
theorem plain_look12 {w : World} {b : Nat} (hp : PlainAt w b) : (Instr.lookup 147 (.map (some b)) (.int .i64 12) false).run Tryz.prog w = .ok (.agg #[.string ⟨#[116, 101, 115, 116, 113]⟩]) w :=
  run_lookup_lit Tryz.underlying147 Tryz.underlying23 hp _ _ 7 rfl
theorem plain_look13 {w : World} {b : Nat} (hp : PlainAt w b) : (Instr.lookup 147 (.map (some b)) (.int .i64 13) false).run Tryz.prog w = .ok (.agg #[.string ⟨#[99, 109, 112, 113]⟩]) w :=
  run_lookup_lit Tryz.underlying147 Tryz.underlying23 hp _ _ 8 rfl
theorem plain_look15 {w : World} {b : Nat} (hp : PlainAt w b) : (Instr.lookup 147 (.map (some b)) (.int .i64 15) false).run Tryz.prog w = .ok (.agg #[.string ⟨#[109, 111, 118, 122, 98, 113]⟩]) w :=
  run_lookup_lit Tryz.underlying147 Tryz.underlying23 hp _ _ 9 rfl
theorem plain_look17 {w : World} {b : Nat} (hp : PlainAt w b) : (Instr.lookup 147 (.map (some b)) (.int .i64 17) false).run Tryz.prog w = .ok (.agg #[.string ⟨#[106, 109, 112]⟩]) w :=
  run_lookup_lit Tryz.underlying147 Tryz.underlying23 hp _ _ 10 rfl
theorem plain_look20 {w : World} {b : Nat} (hp : PlainAt w b) : (Instr.lookup 147 (.map (some b)) (.int .i64 20) false).run Tryz.prog w = .ok (.agg #[.string ⟨#[114, 101, 116]⟩]) w :=
  run_lookup_lit Tryz.underlying147 Tryz.underlying23 hp _ _ 11 rfl
set_option maxRecDepth 100000 in
set_option maxHeartbeats 4000000 in
theorem word1_any (bn sh cd ds sr : Int) (im : Nat) (ba ix : Int) (hb hi : Bool) (dp lb : Int) (w : World) : Calls Tryz.prog 102 #[inV ⟨1, bn, sh, cd, ds, sr, im, ba, ix, hb, hi, dp, lb⟩] w (StrPost (bt [109, 111, 118, 113]) w) := by
  obtain ⟨W1, hW1⟩ : ∃ W1, w.alloc (.cells #[.int .i64 1, .int .i64 bn, .int .i64 sh, .int .i64 cd, .int .i64 ds, .int .i64 sr, .int .u64 (im : Int), .int .i64 ba, .int .i64 ix, .bool hb, .bool hi, .int .i64 dp, .int .i64 lb] 32) = W1 := ⟨_, rfl⟩
  have hb1 : Below w.heap.size w W1 := by rw [← hW1]; exact below_new w _
  have hx1 : W1.heap[w.heap.size]? = some (.cells #[.int .i64 1, .int .i64 bn, .int .i64 sh, .int .i64 cd, .int .i64 ds, .int .i64 sr, .int .u64 (im : Int), .int .i64 ba, .int .i64 ix, .bool hb, .bool hi, .int .i64 dp, .int .i64 lb] 32 (0, 0)) := by rw [← hW1]; exact heap_alloc_new _ _
  have hb1 := Lib.hid hb1
  have hx1 := Lib.hid hx1
  have hW1' := Lib.hid hW1
  clear hW1
  unfold inV inC
  go_enter Tryz.func102, Tryz.ntmps102
  go_upto_region 14 with fail
  rw [hW1'.out]
  obtain ⟨g0, g1, g2, g3, g4, g5, g6, g7, g8, g9, g10, g11, g12⟩ := box13 hx1.out
  have hfld := run_field146 ⟨#[109, 111, 118, 113]⟩
  have hlk := Lib.hid (fun (W : World) (b : Nat) (h : PlainAt W b) => plain_look1 h)
  go_region_with (go_at_call 127; refine (plain127_any _).mono ?_; rintro e w2 ⟨b, rfl, hpt, hb2⟩; have hlk2 := hlk.out _ _ hpt; obtain ⟨q0, q1, q2, q3, q4, q5, q6, q7, q8, q9, q10, q11, q12⟩ := box13 ((hb2.block w.heap.size (blk_lt hx1.out)).trans hx1.out); have hb2' := Lib.hid (show Below W1.heap.size W1 w2 from ⟨hb2.os, hb2.tape, hb2.output, hb2.size, hb2.block⟩); clear hb2 hpt)
  all_goals (
    go_wp2
    go_ret
    exact ⟨rfl, Below.next hb1.out hb2'.out⟩)
set_option maxRecDepth 100000 in
set_option maxHeartbeats 4000000 in
theorem word2_any (bn sh cd ds sr : Int) (im : Nat) (ba ix : Int) (hb hi : Bool) (dp lb : Int) (w : World) : Calls Tryz.prog 102 #[inV ⟨2, bn, sh, cd, ds, sr, im, ba, ix, hb, hi, dp, lb⟩] w (StrPost (bt [109, 111, 118, 97, 98, 115, 113]) w) := by
  obtain ⟨W1, hW1⟩ : ∃ W1, w.alloc (.cells #[.int .i64 2, .int .i64 bn, .int .i64 sh, .int .i64 cd, .int .i64 ds, .int .i64 sr, .int .u64 (im : Int), .int .i64 ba, .int .i64 ix, .bool hb, .bool hi, .int .i64 dp, .int .i64 lb] 32) = W1 := ⟨_, rfl⟩
  have hb1 : Below w.heap.size w W1 := by rw [← hW1]; exact below_new w _
  have hx1 : W1.heap[w.heap.size]? = some (.cells #[.int .i64 2, .int .i64 bn, .int .i64 sh, .int .i64 cd, .int .i64 ds, .int .i64 sr, .int .u64 (im : Int), .int .i64 ba, .int .i64 ix, .bool hb, .bool hi, .int .i64 dp, .int .i64 lb] 32 (0, 0)) := by rw [← hW1]; exact heap_alloc_new _ _
  have hb1 := Lib.hid hb1
  have hx1 := Lib.hid hx1
  have hW1' := Lib.hid hW1
  clear hW1
  unfold inV inC
  go_enter Tryz.func102, Tryz.ntmps102
  go_upto_region 14 with fail
  rw [hW1'.out]
  obtain ⟨g0, g1, g2, g3, g4, g5, g6, g7, g8, g9, g10, g11, g12⟩ := box13 hx1.out
  have hfld := run_field146 ⟨#[109, 111, 118, 97, 98, 115, 113]⟩
  have hlk := Lib.hid (fun (W : World) (b : Nat) (h : PlainAt W b) => plain_look2 h)
  go_region_with (go_at_call 127; refine (plain127_any _).mono ?_; rintro e w2 ⟨b, rfl, hpt, hb2⟩; have hlk2 := hlk.out _ _ hpt; obtain ⟨q0, q1, q2, q3, q4, q5, q6, q7, q8, q9, q10, q11, q12⟩ := box13 ((hb2.block w.heap.size (blk_lt hx1.out)).trans hx1.out); have hb2' := Lib.hid (show Below W1.heap.size W1 w2 from ⟨hb2.os, hb2.tape, hb2.output, hb2.size, hb2.block⟩); clear hb2 hpt)
  all_goals (
    go_wp2
    go_ret
    exact ⟨rfl, Below.next hb1.out hb2'.out⟩)
set_option maxRecDepth 100000 in
set_option maxHeartbeats 4000000 in
theorem word3_any (bn sh cd ds sr : Int) (im : Nat) (ba ix : Int) (hb hi : Bool) (dp lb : Int) (w : World) : Calls Tryz.prog 102 #[inV ⟨3, bn, sh, cd, ds, sr, im, ba, ix, hb, hi, dp, lb⟩] w (StrPost (bt [109, 111, 118, 113]) w) := by
  obtain ⟨W1, hW1⟩ : ∃ W1, w.alloc (.cells #[.int .i64 3, .int .i64 bn, .int .i64 sh, .int .i64 cd, .int .i64 ds, .int .i64 sr, .int .u64 (im : Int), .int .i64 ba, .int .i64 ix, .bool hb, .bool hi, .int .i64 dp, .int .i64 lb] 32) = W1 := ⟨_, rfl⟩
  have hb1 : Below w.heap.size w W1 := by rw [← hW1]; exact below_new w _
  have hx1 : W1.heap[w.heap.size]? = some (.cells #[.int .i64 3, .int .i64 bn, .int .i64 sh, .int .i64 cd, .int .i64 ds, .int .i64 sr, .int .u64 (im : Int), .int .i64 ba, .int .i64 ix, .bool hb, .bool hi, .int .i64 dp, .int .i64 lb] 32 (0, 0)) := by rw [← hW1]; exact heap_alloc_new _ _
  have hb1 := Lib.hid hb1
  have hx1 := Lib.hid hx1
  have hW1' := Lib.hid hW1
  clear hW1
  unfold inV inC
  go_enter Tryz.func102, Tryz.ntmps102
  go_upto_region 14 with fail
  rw [hW1'.out]
  obtain ⟨g0, g1, g2, g3, g4, g5, g6, g7, g8, g9, g10, g11, g12⟩ := box13 hx1.out
  have hfld := run_field146 ⟨#[109, 111, 118, 113]⟩
  have hlk := Lib.hid (fun (W : World) (b : Nat) (h : PlainAt W b) => plain_look3 h)
  go_region_with (go_at_call 127; refine (plain127_any _).mono ?_; rintro e w2 ⟨b, rfl, hpt, hb2⟩; have hlk2 := hlk.out _ _ hpt; obtain ⟨q0, q1, q2, q3, q4, q5, q6, q7, q8, q9, q10, q11, q12⟩ := box13 ((hb2.block w.heap.size (blk_lt hx1.out)).trans hx1.out); have hb2' := Lib.hid (show Below W1.heap.size W1 w2 from ⟨hb2.os, hb2.tape, hb2.output, hb2.size, hb2.block⟩); clear hb2 hpt)
  all_goals (
    go_wp2
    go_ret
    exact ⟨rfl, Below.next hb1.out hb2'.out⟩)
set_option maxRecDepth 100000 in
set_option maxHeartbeats 4000000 in
theorem word4_any (bn sh cd ds sr : Int) (im : Nat) (ba ix : Int) (hb hi : Bool) (dp lb : Int) (w : World) : Calls Tryz.prog 102 #[inV ⟨4, bn, sh, cd, ds, sr, im, ba, ix, hb, hi, dp, lb⟩] w (StrPost (bt [109, 111, 118, 113]) w) := by
  obtain ⟨W1, hW1⟩ : ∃ W1, w.alloc (.cells #[.int .i64 4, .int .i64 bn, .int .i64 sh, .int .i64 cd, .int .i64 ds, .int .i64 sr, .int .u64 (im : Int), .int .i64 ba, .int .i64 ix, .bool hb, .bool hi, .int .i64 dp, .int .i64 lb] 32) = W1 := ⟨_, rfl⟩
  have hb1 : Below w.heap.size w W1 := by rw [← hW1]; exact below_new w _
  have hx1 : W1.heap[w.heap.size]? = some (.cells #[.int .i64 4, .int .i64 bn, .int .i64 sh, .int .i64 cd, .int .i64 ds, .int .i64 sr, .int .u64 (im : Int), .int .i64 ba, .int .i64 ix, .bool hb, .bool hi, .int .i64 dp, .int .i64 lb] 32 (0, 0)) := by rw [← hW1]; exact heap_alloc_new _ _
  have hb1 := Lib.hid hb1
  have hx1 := Lib.hid hx1
  have hW1' := Lib.hid hW1
  clear hW1
  unfold inV inC
  go_enter Tryz.func102, Tryz.ntmps102
  go_upto_region 14 with fail
  rw [hW1'.out]
  obtain ⟨g0, g1, g2, g3, g4, g5, g6, g7, g8, g9, g10, g11, g12⟩ := box13 hx1.out
  have hfld := run_field146 ⟨#[109, 111, 118, 113]⟩
  have hlk := Lib.hid (fun (W : World) (b : Nat) (h : PlainAt W b) => plain_look4 h)
  go_region_with (go_at_call 127; refine (plain127_any _).mono ?_; rintro e w2 ⟨b, rfl, hpt, hb2⟩; have hlk2 := hlk.out _ _ hpt; obtain ⟨q0, q1, q2, q3, q4, q5, q6, q7, q8, q9, q10, q11, q12⟩ := box13 ((hb2.block w.heap.size (blk_lt hx1.out)).trans hx1.out); have hb2' := Lib.hid (show Below W1.heap.size W1 w2 from ⟨hb2.os, hb2.tape, hb2.output, hb2.size, hb2.block⟩); clear hb2 hpt)
  all_goals (
    go_wp2
    go_ret
    exact ⟨rfl, Below.next hb1.out hb2'.out⟩)
set_option maxRecDepth 100000 in
set_option maxHeartbeats 4000000 in
theorem word9_any (bn sh cd ds sr : Int) (im : Nat) (ba ix : Int) (hb hi : Bool) (dp lb : Int) (w : World) : Calls Tryz.prog 102 #[inV ⟨9, bn, sh, cd, ds, sr, im, ba, ix, hb, hi, dp, lb⟩] w (StrPost (bt [110, 111, 116, 113]) w) := by
  obtain ⟨W1, hW1⟩ : ∃ W1, w.alloc (.cells #[.int .i64 9, .int .i64 bn, .int .i64 sh, .int .i64 cd, .int .i64 ds, .int .i64 sr, .int .u64 (im : Int), .int .i64 ba, .int .i64 ix, .bool hb, .bool hi, .int .i64 dp, .int .i64 lb] 32) = W1 := ⟨_, rfl⟩
  have hb1 : Below w.heap.size w W1 := by rw [← hW1]; exact below_new w _
  have hx1 : W1.heap[w.heap.size]? = some (.cells #[.int .i64 9, .int .i64 bn, .int .i64 sh, .int .i64 cd, .int .i64 ds, .int .i64 sr, .int .u64 (im : Int), .int .i64 ba, .int .i64 ix, .bool hb, .bool hi, .int .i64 dp, .int .i64 lb] 32 (0, 0)) := by rw [← hW1]; exact heap_alloc_new _ _
  have hb1 := Lib.hid hb1
  have hx1 := Lib.hid hx1
  have hW1' := Lib.hid hW1
  clear hW1
  unfold inV inC
  go_enter Tryz.func102, Tryz.ntmps102
  go_upto_region 14 with fail
  rw [hW1'.out]
  obtain ⟨g0, g1, g2, g3, g4, g5, g6, g7, g8, g9, g10, g11, g12⟩ := box13 hx1.out
  have hfld := run_field146 ⟨#[110, 111, 116, 113]⟩
  have hlk := Lib.hid (fun (W : World) (b : Nat) (h : PlainAt W b) => plain_look9 h)
  go_region_with (go_at_call 127; refine (plain127_any _).mono ?_; rintro e w2 ⟨b, rfl, hpt, hb2⟩; have hlk2 := hlk.out _ _ hpt; obtain ⟨q0, q1, q2, q3, q4, q5, q6, q7, q8, q9, q10, q11, q12⟩ := box13 ((hb2.block w.heap.size (blk_lt hx1.out)).trans hx1.out); have hb2' := Lib.hid (show Below W1.heap.size W1 w2 from ⟨hb2.os, hb2.tape, hb2.output, hb2.size, hb2.block⟩); clear hb2 hpt)
  all_goals (
    go_wp2
    go_ret
    exact ⟨rfl, Below.next hb1.out hb2'.out⟩)
set_option maxRecDepth 100000 in
set_option maxHeartbeats 4000000 in
theorem word10_any (bn sh cd ds sr : Int) (im : Nat) (ba ix : Int) (hb hi : Bool) (dp lb : Int) (w : World) : Calls Tryz.prog 102 #[inV ⟨10, bn, sh, cd, ds, sr, im, ba, ix, hb, hi, dp, lb⟩] w (StrPost (bt [110, 101, 103, 113]) w) := by
  obtain ⟨W1, hW1⟩ : ∃ W1, w.alloc (.cells #[.int .i64 10, .int .i64 bn, .int .i64 sh, .int .i64 cd, .int .i64 ds, .int .i64 sr, .int .u64 (im : Int), .int .i64 ba, .int .i64 ix, .bool hb, .bool hi, .int .i64 dp, .int .i64 lb] 32) = W1 := ⟨_, rfl⟩
  have hb1 : Below w.heap.size w W1 := by rw [← hW1]; exact below_new w _
  have hx1 : W1.heap[w.heap.size]? = some (.cells #[.int .i64 10, .int .i64 bn, .int .i64 sh, .int .i64 cd, .int .i64 ds, .int .i64 sr, .int .u64 (im : Int), .int .i64 ba, .int .i64 ix, .bool hb, .bool hi, .int .i64 dp, .int .i64 lb] 32 (0, 0)) := by rw [← hW1]; exact heap_alloc_new _ _
  have hb1 := Lib.hid hb1
  have hx1 := Lib.hid hx1
  have hW1' := Lib.hid hW1
  clear hW1
  unfold inV inC
  go_enter Tryz.func102, Tryz.ntmps102
  go_upto_region 14 with fail
  rw [hW1'.out]
  obtain ⟨g0, g1, g2, g3, g4, g5, g6, g7, g8, g9, g10, g11, g12⟩ := box13 hx1.out
  have hfld := run_field146 ⟨#[110, 101, 103, 113]⟩
  have hlk := Lib.hid (fun (W : World) (b : Nat) (h : PlainAt W b) => plain_look10 h)
  go_region_with (go_at_call 127; refine (plain127_any _).mono ?_; rintro e w2 ⟨b, rfl, hpt, hb2⟩; have hlk2 := hlk.out _ _ hpt; obtain ⟨q0, q1, q2, q3, q4, q5, q6, q7, q8, q9, q10, q11, q12⟩ := box13 ((hb2.block w.heap.size (blk_lt hx1.out)).trans hx1.out); have hb2' := Lib.hid (show Below W1.heap.size W1 w2 from ⟨hb2.os, hb2.tape, hb2.output, hb2.size, hb2.block⟩); clear hb2 hpt)
  all_goals (
    go_wp2
    go_ret
    exact ⟨rfl, Below.next hb1.out hb2'.out⟩)
set_option maxRecDepth 100000 in
set_option maxHeartbeats 4000000 in
theorem word11_any (bn sh cd ds sr : Int) (im : Nat) (ba ix : Int) (hb hi : Bool) (dp lb : Int) (w : World) : Calls Tryz.prog 102 #[inV ⟨11, bn, sh, cd, ds, sr, im, ba, ix, hb, hi, dp, lb⟩] w (StrPost (bt [99, 109, 112, 113]) w) := by
  obtain ⟨W1, hW1⟩ : ∃ W1, w.alloc (.cells #[.int .i64 11, .int .i64 bn, .int .i64 sh, .int .i64 cd, .int .i64 ds, .int .i64 sr, .int .u64 (im : Int), .int .i64 ba, .int .i64 ix, .bool hb, .bool hi, .int .i64 dp, .int .i64 lb] 32) = W1 := ⟨_, rfl⟩
  have hb1 : Below w.heap.size w W1 := by rw [← hW1]; exact below_new w _
  have hx1 : W1.heap[w.heap.size]? = some (.cells #[.int .i64 11, .int .i64 bn, .int .i64 sh, .int .i64 cd, .int .i64 ds, .int .i64 sr, .int .u64 (im : Int), .int .i64 ba, .int .i64 ix, .bool hb, .bool hi, .int .i64 dp, .int .i64 lb] 32 (0, 0)) := by rw [← hW1]; exact heap_alloc_new _ _
  have hb1 := Lib.hid hb1
  have hx1 := Lib.hid hx1
  have hW1' := Lib.hid hW1
  clear hW1
  unfold inV inC
  go_enter Tryz.func102, Tryz.ntmps102
  go_upto_region 14 with fail
  rw [hW1'.out]
  obtain ⟨g0, g1, g2, g3, g4, g5, g6, g7, g8, g9, g10, g11, g12⟩ := box13 hx1.out
  have hfld := run_field146 ⟨#[99, 109, 112, 113]⟩
  have hlk := Lib.hid (fun (W : World) (b : Nat) (h : PlainAt W b) => plain_look11 h)
  go_region_with (go_at_call 127; refine (plain127_any _).mono ?_; rintro e w2 ⟨b, rfl, hpt, hb2⟩; have hlk2 := hlk.out _ _ hpt; obtain ⟨q0, q1, q2, q3, q4, q5, q6, q7, q8, q9, q10, q11, q12⟩ := box13 ((hb2.block w.heap.size (blk_lt hx1.out)).trans hx1.out); have hb2' := Lib.hid (show Below W1.heap.size W1 w2 from ⟨hb2.os, hb2.tape, hb2.output, hb2.size, hb2.block⟩); clear hb2 hpt)
  all_goals (
    go_wp2
    go_ret
    exact ⟨rfl, Below.next hb1.out hb2'.out⟩)
set_option maxRecDepth 100000 in
set_option maxHeartbeats 4000000 in
theorem word12_any (bn sh cd ds sr : Int) (im : Nat) (ba ix : Int) (hb hi : Bool) (dp lb : Int) (w : World) : Calls Tryz.prog 102 #[inV ⟨12, bn, sh, cd, ds, sr, im, ba, ix, hb, hi, dp, lb⟩] w (StrPost (bt [116, 101, 115, 116, 113]) w) := by
  obtain ⟨W1, hW1⟩ : ∃ W1, w.alloc (.cells #[.int .i64 12, .int .i64 bn, .int .i64 sh, .int .i64 cd, .int .i64 ds, .int .i64 sr, .int .u64 (im : Int), .int .i64 ba, .int .i64 ix, .bool hb, .bool hi, .int .i64 dp, .int .i64 lb] 32) = W1 := ⟨_, rfl⟩
  have hb1 : Below w.heap.size w W1 := by rw [← hW1]; exact below_new w _
  have hx1 : W1.heap[w.heap.size]? = some (.cells #[.int .i64 12, .int .i64 bn, .int .i64 sh, .int .i64 cd, .int .i64 ds, .int .i64 sr, .int .u64 (im : Int), .int .i64 ba, .int .i64 ix, .bool hb, .bool hi, .int .i64 dp, .int .i64 lb] 32 (0, 0)) := by rw [← hW1]; exact heap_alloc_new _ _
  have hb1 := Lib.hid hb1
  have hx1 := Lib.hid hx1
  have hW1' := Lib.hid hW1
  clear hW1
  unfold inV inC
  go_enter Tryz.func102, Tryz.ntmps102
  go_upto_region 14 with fail
  rw [hW1'.out]
  obtain ⟨g0, g1, g2, g3, g4, g5, g6, g7, g8, g9, g10, g11, g12⟩ := box13 hx1.out
  have hfld := run_field146 ⟨#[116, 101, 115, 116, 113]⟩
  have hlk := Lib.hid (fun (W : World) (b : Nat) (h : PlainAt W b) => plain_look12 h)
  go_region_with (go_at_call 127; refine (plain127_any _).mono ?_; rintro e w2 ⟨b, rfl, hpt, hb2⟩; have hlk2 := hlk.out _ _ hpt; obtain ⟨q0, q1, q2, q3, q4, q5, q6, q7, q8, q9, q10, q11, q12⟩ := box13 ((hb2.block w.heap.size (blk_lt hx1.out)).trans hx1.out); have hb2' := Lib.hid (show Below W1.heap.size W1 w2 from ⟨hb2.os, hb2.tape, hb2.output, hb2.size, hb2.block⟩); clear hb2 hpt)
  all_goals (
    go_wp2
    go_ret
    exact ⟨rfl, Below.next hb1.out hb2'.out⟩)
set_option maxRecDepth 100000 in
set_option maxHeartbeats 4000000 in
theorem word13_any (bn sh cd ds sr : Int) (im : Nat) (ba ix : Int) (hb hi : Bool) (dp lb : Int) (w : World) : Calls Tryz.prog 102 #[inV ⟨13, bn, sh, cd, ds, sr, im, ba, ix, hb, hi, dp, lb⟩] w (StrPost (bt [99, 109, 112, 113]) w) := by
  obtain ⟨W1, hW1⟩ : ∃ W1, w.alloc (.cells #[.int .i64 13, .int .i64 bn, .int .i64 sh, .int .i64 cd, .int .i64 ds, .int .i64 sr, .int .u64 (im : Int), .int .i64 ba, .int .i64 ix, .bool hb, .bool hi, .int .i64 dp, .int .i64 lb] 32) = W1 := ⟨_, rfl⟩
  have hb1 : Below w.heap.size w W1 := by rw [← hW1]; exact below_new w _
  have hx1 : W1.heap[w.heap.size]? = some (.cells #[.int .i64 13, .int .i64 bn, .int .i64 sh, .int .i64 cd, .int .i64 ds, .int .i64 sr, .int .u64 (im : Int), .int .i64 ba, .int .i64 ix, .bool hb, .bool hi, .int .i64 dp, .int .i64 lb] 32 (0, 0)) := by rw [← hW1]; exact heap_alloc_new _ _
  have hb1 := Lib.hid hb1
  have hx1 := Lib.hid hx1
  have hW1' := Lib.hid hW1
  clear hW1
  unfold inV inC
  go_enter Tryz.func102, Tryz.ntmps102
  go_upto_region 14 with fail
  rw [hW1'.out]
  obtain ⟨g0, g1, g2, g3, g4, g5, g6, g7, g8, g9, g10, g11, g12⟩ := box13 hx1.out
  have hfld := run_field146 ⟨#[99, 109, 112, 113]⟩
  have hlk := Lib.hid (fun (W : World) (b : Nat) (h : PlainAt W b) => plain_look13 h)
  go_region_with (go_at_call 127; refine (plain127_any _).mono ?_; rintro e w2 ⟨b, rfl, hpt, hb2⟩; have hlk2 := hlk.out _ _ hpt; obtain ⟨q0, q1, q2, q3, q4, q5, q6, q7, q8, q9, q10, q11, q12⟩ := box13 ((hb2.block w.heap.size (blk_lt hx1.out)).trans hx1.out); have hb2' := Lib.hid (show Below W1.heap.size W1 w2 from ⟨hb2.os, hb2.tape, hb2.output, hb2.size, hb2.block⟩); clear hb2 hpt)
  all_goals (
    go_wp2
    go_ret
    exact ⟨rfl, Below.next hb1.out hb2'.out⟩)
set_option maxRecDepth 100000 in
set_option maxHeartbeats 4000000 in
theorem word15_any (bn sh cd ds sr : Int) (im : Nat) (ba ix : Int) (hb hi : Bool) (dp lb : Int) (w : World) : Calls Tryz.prog 102 #[inV ⟨15, bn, sh, cd, ds, sr, im, ba, ix, hb, hi, dp, lb⟩] w (StrPost (bt [109, 111, 118, 122, 98, 113]) w) := by
  obtain ⟨W1, hW1⟩ : ∃ W1, w.alloc (.cells #[.int .i64 15, .int .i64 bn, .int .i64 sh, .int .i64 cd, .int .i64 ds, .int .i64 sr, .int .u64 (im : Int), .int .i64 ba, .int .i64 ix, .bool hb, .bool hi, .int .i64 dp, .int .i64 lb] 32) = W1 := ⟨_, rfl⟩
  have hb1 : Below w.heap.size w W1 := by rw [← hW1]; exact below_new w _
  have hx1 : W1.heap[w.heap.size]? = some (.cells #[.int .i64 15, .int .i64 bn, .int .i64 sh, .int .i64 cd, .int .i64 ds, .int .i64 sr, .int .u64 (im : Int), .int .i64 ba, .int .i64 ix, .bool hb, .bool hi, .int .i64 dp, .int .i64 lb] 32 (0, 0)) := by rw [← hW1]; exact heap_alloc_new _ _
  have hb1 := Lib.hid hb1
  have hx1 := Lib.hid hx1
  have hW1' := Lib.hid hW1
  clear hW1
  unfold inV inC
  go_enter Tryz.func102, Tryz.ntmps102
  go_upto_region 14 with fail
  rw [hW1'.out]
  obtain ⟨g0, g1, g2, g3, g4, g5, g6, g7, g8, g9, g10, g11, g12⟩ := box13 hx1.out
  have hfld := run_field146 ⟨#[109, 111, 118, 122, 98, 113]⟩
  have hlk := Lib.hid (fun (W : World) (b : Nat) (h : PlainAt W b) => plain_look15 h)
  go_region_with (go_at_call 127; refine (plain127_any _).mono ?_; rintro e w2 ⟨b, rfl, hpt, hb2⟩; have hlk2 := hlk.out _ _ hpt; obtain ⟨q0, q1, q2, q3, q4, q5, q6, q7, q8, q9, q10, q11, q12⟩ := box13 ((hb2.block w.heap.size (blk_lt hx1.out)).trans hx1.out); have hb2' := Lib.hid (show Below W1.heap.size W1 w2 from ⟨hb2.os, hb2.tape, hb2.output, hb2.size, hb2.block⟩); clear hb2 hpt)
  all_goals (
    go_wp2
    go_ret
    exact ⟨rfl, Below.next hb1.out hb2'.out⟩)
set_option maxRecDepth 100000 in
set_option maxHeartbeats 4000000 in
theorem word17_any (bn sh cd ds sr : Int) (im : Nat) (ba ix : Int) (hb hi : Bool) (dp lb : Int) (w : World) : Calls Tryz.prog 102 #[inV ⟨17, bn, sh, cd, ds, sr, im, ba, ix, hb, hi, dp, lb⟩] w (StrPost (bt [106, 109, 112]) w) := by
  obtain ⟨W1, hW1⟩ : ∃ W1, w.alloc (.cells #[.int .i64 17, .int .i64 bn, .int .i64 sh, .int .i64 cd, .int .i64 ds, .int .i64 sr, .int .u64 (im : Int), .int .i64 ba, .int .i64 ix, .bool hb, .bool hi, .int .i64 dp, .int .i64 lb] 32) = W1 := ⟨_, rfl⟩
  have hb1 : Below w.heap.size w W1 := by rw [← hW1]; exact below_new w _
  have hx1 : W1.heap[w.heap.size]? = some (.cells #[.int .i64 17, .int .i64 bn, .int .i64 sh, .int .i64 cd, .int .i64 ds, .int .i64 sr, .int .u64 (im : Int), .int .i64 ba, .int .i64 ix, .bool hb, .bool hi, .int .i64 dp, .int .i64 lb] 32 (0, 0)) := by rw [← hW1]; exact heap_alloc_new _ _
  have hb1 := Lib.hid hb1
  have hx1 := Lib.hid hx1
  have hW1' := Lib.hid hW1
  clear hW1
  unfold inV inC
  go_enter Tryz.func102, Tryz.ntmps102
  go_upto_region 14 with fail
  rw [hW1'.out]
  obtain ⟨g0, g1, g2, g3, g4, g5, g6, g7, g8, g9, g10, g11, g12⟩ := box13 hx1.out
  have hfld := run_field146 ⟨#[106, 109, 112]⟩
  have hlk := Lib.hid (fun (W : World) (b : Nat) (h : PlainAt W b) => plain_look17 h)
  go_region_with (go_at_call 127; refine (plain127_any _).mono ?_; rintro e w2 ⟨b, rfl, hpt, hb2⟩; have hlk2 := hlk.out _ _ hpt; obtain ⟨q0, q1, q2, q3, q4, q5, q6, q7, q8, q9, q10, q11, q12⟩ := box13 ((hb2.block w.heap.size (blk_lt hx1.out)).trans hx1.out); have hb2' := Lib.hid (show Below W1.heap.size W1 w2 from ⟨hb2.os, hb2.tape, hb2.output, hb2.size, hb2.block⟩); clear hb2 hpt)
  all_goals (
    go_wp2
    go_ret
    exact ⟨rfl, Below.next hb1.out hb2'.out⟩)
set_option maxRecDepth 100000 in
set_option maxHeartbeats 4000000 in
theorem word20_any (bn sh cd ds sr : Int) (im : Nat) (ba ix : Int) (hb hi : Bool) (dp lb : Int) (w : World) : Calls Tryz.prog 102 #[inV ⟨20, bn, sh, cd, ds, sr, im, ba, ix, hb, hi, dp, lb⟩] w (StrPost (bt [114, 101, 116]) w) := by
  obtain ⟨W1, hW1⟩ : ∃ W1, w.alloc (.cells #[.int .i64 20, .int .i64 bn, .int .i64 sh, .int .i64 cd, .int .i64 ds, .int .i64 sr, .int .u64 (im : Int), .int .i64 ba, .int .i64 ix, .bool hb, .bool hi, .int .i64 dp, .int .i64 lb] 32) = W1 := ⟨_, rfl⟩
  have hb1 : Below w.heap.size w W1 := by rw [← hW1]; exact below_new w _
  have hx1 : W1.heap[w.heap.size]? = some (.cells #[.int .i64 20, .int .i64 bn, .int .i64 sh, .int .i64 cd, .int .i64 ds, .int .i64 sr, .int .u64 (im : Int), .int .i64 ba, .int .i64 ix, .bool hb, .bool hi, .int .i64 dp, .int .i64 lb] 32 (0, 0)) := by rw [← hW1]; exact heap_alloc_new _ _
  have hb1 := Lib.hid hb1
  have hx1 := Lib.hid hx1
  have hW1' := Lib.hid hW1
  clear hW1
  unfold inV inC
  go_enter Tryz.func102, Tryz.ntmps102
  go_upto_region 14 with fail
  rw [hW1'.out]
  obtain ⟨g0, g1, g2, g3, g4, g5, g6, g7, g8, g9, g10, g11, g12⟩ := box13 hx1.out
  have hfld := run_field146 ⟨#[114, 101, 116]⟩
  have hlk := Lib.hid (fun (W : World) (b : Nat) (h : PlainAt W b) => plain_look20 h)
  go_region_with (go_at_call 127; refine (plain127_any _).mono ?_; rintro e w2 ⟨b, rfl, hpt, hb2⟩; have hlk2 := hlk.out _ _ hpt; obtain ⟨q0, q1, q2, q3, q4, q5, q6, q7, q8, q9, q10, q11, q12⟩ := box13 ((hb2.block w.heap.size (blk_lt hx1.out)).trans hx1.out); have hb2' := Lib.hid (show Below W1.heap.size W1 w2 from ⟨hb2.os, hb2.tape, hb2.output, hb2.size, hb2.block⟩); clear hb2 hpt)
  all_goals (
    go_wp2
    go_ret
    exact ⟨rfl, Below.next hb1.out hb2'.out⟩)
set_option maxRecDepth 100000 in
set_option maxHeartbeats 4000000 in
theorem word5_any (sh cd ds sr : Int) (im : Nat) (ba ix : Int) (hb hi : Bool) (dp lb : Int) (bn : Int) (k : Nat) (hk : k < 8) (hbk : bn = (k : Int) + 1) (w : World) (hE : Env w) : Calls Tryz.prog 102 #[inV ⟨5, bn, sh, cd, ds, sr, im, ba, ix, hb, hi, dp, lb⟩] w (StrPost (bt (([] : List UInt8) ++ atW binW (k : Int))) w) := by
  have hl : binW.length = 8 := rfl
  have hcell := Lib.hid (fun (W : World) => lis_cell (w := W) (at_get (L := binW) (k := k) (by rw [hl]; exact hk)))
  have hsz : (bt (atW binW (k : Int))).size ≤ 10 := by rw [bt_size]; exact binW_le (k : Int)
  have ht := bt_app ([] : List UInt8) (atW binW (k : Int))
  obtain ⟨x, hx⟩ : ∃ x, bt (atW binW (k : Int)) = x := ⟨_, rfl⟩
  rw [hx] at hcell ht hsz
  clear hx
  have ht' := Lib.hid ht
  clear ht
  have e1 : (0 : Int) ≤ (k : Int) := by omega
  have hwr : IntKind.i64.wrap (bn - 1) = (k : Int) := by rw [hbk, wrap_i64]; split <;> omega
  have hwr2 : RowKit.wrap64 (bn - 1) = (k : Int) := by rw [hbk]; unfold RowKit.wrap64; omega
  clear hbk
  have e2 : (k : Int) < 8 := by omega
  have hE' := Lib.hid hE
  clear hE hl
  obtain ⟨W1, hW1⟩ : ∃ W1, w.alloc (.cells #[.int .i64 5, .int .i64 bn, .int .i64 sh, .int .i64 cd, .int .i64 ds, .int .i64 sr, .int .u64 (im : Int), .int .i64 ba, .int .i64 ix, .bool hb, .bool hi, .int .i64 dp, .int .i64 lb] 32) = W1 := ⟨_, rfl⟩
  have hb1 : Below w.heap.size w W1 := by rw [← hW1]; exact below_new w _
  have hx1 : W1.heap[w.heap.size]? = some (.cells #[.int .i64 5, .int .i64 bn, .int .i64 sh, .int .i64 cd, .int .i64 ds, .int .i64 sr, .int .u64 (im : Int), .int .i64 ba, .int .i64 ix, .bool hb, .bool hi, .int .i64 dp, .int .i64 lb] 32 (0, 0)) := by rw [← hW1]; exact heap_alloc_new _ _
  have hb1 := Lib.hid hb1
  have hx1 := Lib.hid hx1
  have hW1' := Lib.hid hW1
  clear hW1
  unfold inV inC
  go_enter Tryz.func102, Tryz.ntmps102
  go_upto_region 4 with fail
  rw [hW1'.out]
  obtain ⟨g0, g1, g2, g3, g4, g5, g6, g7, g8, g9, g10, g11, g12⟩ := box13 hx1.out
  have hcl := Lib.hid ((bins_any W1.drew ((hE'.out.below hb1.out).below (Below.refl _ _).drew)).mono (R' := fun e w' => e = .returned (.slice (some ⟨W1.drew.heap.size, 0, none⟩) 8 8) ∧ w' = W1.drew.alloc (.cells (lisC binW) 9)) (fun e w' h => h))
  go_region_with (go_at_call 83; refine hcl.out.mono ?_; rintro e w2 ⟨rfl, hw2⟩; have hc2 := hcell.out W1.drew; have hx2 := Lib.hid (show w2.heap[w.heap.size]? = some (.cells #[.int .i64 5, .int .i64 bn, .int .i64 sh, .int .i64 cd, .int .i64 ds, .int .i64 sr, .int .u64 (im : Int), .int .i64 ba, .int .i64 ix, .bool hb, .bool hi, .int .i64 dp, .int .i64 lb] 32 (0, 0)) from by rw [hw2]; exact (heap_alloc_old _ _ (blk_lt hx1.out)).trans hx1.out); have hb2' := Lib.hid (show Below W1.heap.size W1 w2 from by rw [hw2]; exact (Below.refl _ _).drew.alloc (Nat.le_refl _) _); rw [← hw2] at hc2; have hc2 : w2.cell? ⟨W1.heap.size, k, none⟩ = some (.string x) := hc2; obtain ⟨q0, q1, q2, q3, q4, q5, q6, q7, q8, q9, q10, q11, q12⟩ := box13 hx2.out; clear hw2; skip)
  all_goals (
    go_wp2
    go_ret
    exact ⟨congrArg (fun s => Ending.returned (Value.string s)) (empty_app.symm.trans ht'.out), Below.next hb1.out hb2'.out⟩)
set_option maxRecDepth 100000 in
set_option maxHeartbeats 4000000 in
theorem word6_any (sh cd ds sr : Int) (im : Nat) (ba ix : Int) (hb hi : Bool) (dp lb : Int) (bn : Int) (k : Nat) (hk : k < 8) (hbk : bn = (k : Int) + 1) (w : World) (hE : Env w) : Calls Tryz.prog 102 #[inV ⟨6, bn, sh, cd, ds, sr, im, ba, ix, hb, hi, dp, lb⟩] w (StrPost (bt (([] : List UInt8) ++ atW binW (k : Int))) w) := by
  have hl : binW.length = 8 := rfl
  have hcell := Lib.hid (fun (W : World) => lis_cell (w := W) (at_get (L := binW) (k := k) (by rw [hl]; exact hk)))
  have hsz : (bt (atW binW (k : Int))).size ≤ 10 := by rw [bt_size]; exact binW_le (k : Int)
  have ht := bt_app ([] : List UInt8) (atW binW (k : Int))
  obtain ⟨x, hx⟩ : ∃ x, bt (atW binW (k : Int)) = x := ⟨_, rfl⟩
  rw [hx] at hcell ht hsz
  clear hx
  have ht' := Lib.hid ht
  clear ht
  have e1 : (0 : Int) ≤ (k : Int) := by omega
  have hwr : IntKind.i64.wrap (bn - 1) = (k : Int) := by rw [hbk, wrap_i64]; split <;> omega
  have hwr2 : RowKit.wrap64 (bn - 1) = (k : Int) := by rw [hbk]; unfold RowKit.wrap64; omega
  clear hbk
  have e2 : (k : Int) < 8 := by omega
  have hE' := Lib.hid hE
  clear hE hl
  obtain ⟨W1, hW1⟩ : ∃ W1, w.alloc (.cells #[.int .i64 6, .int .i64 bn, .int .i64 sh, .int .i64 cd, .int .i64 ds, .int .i64 sr, .int .u64 (im : Int), .int .i64 ba, .int .i64 ix, .bool hb, .bool hi, .int .i64 dp, .int .i64 lb] 32) = W1 := ⟨_, rfl⟩
  have hb1 : Below w.heap.size w W1 := by rw [← hW1]; exact below_new w _
  have hx1 : W1.heap[w.heap.size]? = some (.cells #[.int .i64 6, .int .i64 bn, .int .i64 sh, .int .i64 cd, .int .i64 ds, .int .i64 sr, .int .u64 (im : Int), .int .i64 ba, .int .i64 ix, .bool hb, .bool hi, .int .i64 dp, .int .i64 lb] 32 (0, 0)) := by rw [← hW1]; exact heap_alloc_new _ _
  have hb1 := Lib.hid hb1
  have hx1 := Lib.hid hx1
  have hW1' := Lib.hid hW1
  clear hW1
  unfold inV inC
  go_enter Tryz.func102, Tryz.ntmps102
  go_upto_region 4 with fail
  rw [hW1'.out]
  obtain ⟨g0, g1, g2, g3, g4, g5, g6, g7, g8, g9, g10, g11, g12⟩ := box13 hx1.out
  have hcl := Lib.hid ((bins_any W1.drew ((hE'.out.below hb1.out).below (Below.refl _ _).drew)).mono (R' := fun e w' => e = .returned (.slice (some ⟨W1.drew.heap.size, 0, none⟩) 8 8) ∧ w' = W1.drew.alloc (.cells (lisC binW) 9)) (fun e w' h => h))
  go_region_with (go_at_call 83; refine hcl.out.mono ?_; rintro e w2 ⟨rfl, hw2⟩; have hc2 := hcell.out W1.drew; have hx2 := Lib.hid (show w2.heap[w.heap.size]? = some (.cells #[.int .i64 6, .int .i64 bn, .int .i64 sh, .int .i64 cd, .int .i64 ds, .int .i64 sr, .int .u64 (im : Int), .int .i64 ba, .int .i64 ix, .bool hb, .bool hi, .int .i64 dp, .int .i64 lb] 32 (0, 0)) from by rw [hw2]; exact (heap_alloc_old _ _ (blk_lt hx1.out)).trans hx1.out); have hb2' := Lib.hid (show Below W1.heap.size W1 w2 from by rw [hw2]; exact (Below.refl _ _).drew.alloc (Nat.le_refl _) _); rw [← hw2] at hc2; have hc2 : w2.cell? ⟨W1.heap.size, k, none⟩ = some (.string x) := hc2; obtain ⟨q0, q1, q2, q3, q4, q5, q6, q7, q8, q9, q10, q11, q12⟩ := box13 hx2.out; clear hw2; skip)
  all_goals (
    go_wp2
    go_ret
    exact ⟨congrArg (fun s => Ending.returned (Value.string s)) (empty_app.symm.trans ht'.out), Below.next hb1.out hb2'.out⟩)
set_option maxRecDepth 100000 in
set_option maxHeartbeats 4000000 in
theorem word7_any (bn cd ds sr : Int) (im : Nat) (ba ix : Int) (hb hi : Bool) (dp lb : Int) (sh : Int) (k : Nat) (hk : k < 5) (hbk : sh = (k : Int) + 1) (w : World) (hE : Env w) : Calls Tryz.prog 102 #[inV ⟨7, bn, sh, cd, ds, sr, im, ba, ix, hb, hi, dp, lb⟩] w (StrPost (bt (([] : List UInt8) ++ atW shfW (k : Int))) w) := by
  have hl : shfW.length = 5 := rfl
  have hcell := Lib.hid (fun (W : World) => lis_cell (w := W) (at_get (L := shfW) (k := k) (by rw [hl]; exact hk)))
  have hsz : (bt (atW shfW (k : Int))).size ≤ 10 := by rw [bt_size]; exact shfW_le (k : Int)
  have ht := bt_app ([] : List UInt8) (atW shfW (k : Int))
  obtain ⟨x, hx⟩ : ∃ x, bt (atW shfW (k : Int)) = x := ⟨_, rfl⟩
  rw [hx] at hcell ht hsz
  clear hx
  have ht' := Lib.hid ht
  clear ht
  have e1 : (0 : Int) ≤ (k : Int) := by omega
  have hwr : IntKind.i64.wrap (sh - 1) = (k : Int) := by rw [hbk, wrap_i64]; split <;> omega
  have hwr2 : RowKit.wrap64 (sh - 1) = (k : Int) := by rw [hbk]; unfold RowKit.wrap64; omega
  clear hbk
  have e2 : (k : Int) < 5 := by omega
  have hE' := Lib.hid hE
  clear hE hl
  obtain ⟨W1, hW1⟩ : ∃ W1, w.alloc (.cells #[.int .i64 7, .int .i64 bn, .int .i64 sh, .int .i64 cd, .int .i64 ds, .int .i64 sr, .int .u64 (im : Int), .int .i64 ba, .int .i64 ix, .bool hb, .bool hi, .int .i64 dp, .int .i64 lb] 32) = W1 := ⟨_, rfl⟩
  have hb1 : Below w.heap.size w W1 := by rw [← hW1]; exact below_new w _
  have hx1 : W1.heap[w.heap.size]? = some (.cells #[.int .i64 7, .int .i64 bn, .int .i64 sh, .int .i64 cd, .int .i64 ds, .int .i64 sr, .int .u64 (im : Int), .int .i64 ba, .int .i64 ix, .bool hb, .bool hi, .int .i64 dp, .int .i64 lb] 32 (0, 0)) := by rw [← hW1]; exact heap_alloc_new _ _
  have hb1 := Lib.hid hb1
  have hx1 := Lib.hid hx1
  have hW1' := Lib.hid hW1
  clear hW1
  unfold inV inC
  go_enter Tryz.func102, Tryz.ntmps102
  go_upto_region 7 with fail
  rw [hW1'.out]
  obtain ⟨g0, g1, g2, g3, g4, g5, g6, g7, g8, g9, g10, g11, g12⟩ := box13 hx1.out
  have hcl := Lib.hid ((shifts_any W1.drew ((hE'.out.below hb1.out).below (Below.refl _ _).drew)).mono (R' := fun e w' => e = .returned (.slice (some ⟨W1.drew.heap.size, 0, none⟩) 5 5) ∧ w' = W1.drew.alloc (.cells (lisC shfW) 9)) (fun e w' h => h))
  go_region_with (go_at_call 84; refine hcl.out.mono ?_; rintro e w2 ⟨rfl, hw2⟩; have hc2 := hcell.out W1.drew; have hx2 := Lib.hid (show w2.heap[w.heap.size]? = some (.cells #[.int .i64 7, .int .i64 bn, .int .i64 sh, .int .i64 cd, .int .i64 ds, .int .i64 sr, .int .u64 (im : Int), .int .i64 ba, .int .i64 ix, .bool hb, .bool hi, .int .i64 dp, .int .i64 lb] 32 (0, 0)) from by rw [hw2]; exact (heap_alloc_old _ _ (blk_lt hx1.out)).trans hx1.out); have hb2' := Lib.hid (show Below W1.heap.size W1 w2 from by rw [hw2]; exact (Below.refl _ _).drew.alloc (Nat.le_refl _) _); rw [← hw2] at hc2; have hc2 : w2.cell? ⟨W1.heap.size, k, none⟩ = some (.string x) := hc2; obtain ⟨q0, q1, q2, q3, q4, q5, q6, q7, q8, q9, q10, q11, q12⟩ := box13 hx2.out; clear hw2; skip)
  all_goals (
    go_wp2
    go_ret
    exact ⟨congrArg (fun s => Ending.returned (Value.string s)) (empty_app.symm.trans ht'.out), Below.next hb1.out hb2'.out⟩)
set_option maxRecDepth 100000 in
set_option maxHeartbeats 4000000 in
theorem word8_any (bn cd ds sr : Int) (im : Nat) (ba ix : Int) (hb hi : Bool) (dp lb : Int) (sh : Int) (k : Nat) (hk : k < 5) (hbk : sh = (k : Int) + 1) (w : World) (hE : Env w) : Calls Tryz.prog 102 #[inV ⟨8, bn, sh, cd, ds, sr, im, ba, ix, hb, hi, dp, lb⟩] w (StrPost (bt (([] : List UInt8) ++ atW shfW (k : Int))) w) := by
  have hl : shfW.length = 5 := rfl
  have hcell := Lib.hid (fun (W : World) => lis_cell (w := W) (at_get (L := shfW) (k := k) (by rw [hl]; exact hk)))
  have hsz : (bt (atW shfW (k : Int))).size ≤ 10 := by rw [bt_size]; exact shfW_le (k : Int)
  have ht := bt_app ([] : List UInt8) (atW shfW (k : Int))
  obtain ⟨x, hx⟩ : ∃ x, bt (atW shfW (k : Int)) = x := ⟨_, rfl⟩
  rw [hx] at hcell ht hsz
  clear hx
  have ht' := Lib.hid ht
  clear ht
  have e1 : (0 : Int) ≤ (k : Int) := by omega
  have hwr : IntKind.i64.wrap (sh - 1) = (k : Int) := by rw [hbk, wrap_i64]; split <;> omega
  have hwr2 : RowKit.wrap64 (sh - 1) = (k : Int) := by rw [hbk]; unfold RowKit.wrap64; omega
  clear hbk
  have e2 : (k : Int) < 5 := by omega
  have hE' := Lib.hid hE
  clear hE hl
  obtain ⟨W1, hW1⟩ : ∃ W1, w.alloc (.cells #[.int .i64 8, .int .i64 bn, .int .i64 sh, .int .i64 cd, .int .i64 ds, .int .i64 sr, .int .u64 (im : Int), .int .i64 ba, .int .i64 ix, .bool hb, .bool hi, .int .i64 dp, .int .i64 lb] 32) = W1 := ⟨_, rfl⟩
  have hb1 : Below w.heap.size w W1 := by rw [← hW1]; exact below_new w _
  have hx1 : W1.heap[w.heap.size]? = some (.cells #[.int .i64 8, .int .i64 bn, .int .i64 sh, .int .i64 cd, .int .i64 ds, .int .i64 sr, .int .u64 (im : Int), .int .i64 ba, .int .i64 ix, .bool hb, .bool hi, .int .i64 dp, .int .i64 lb] 32 (0, 0)) := by rw [← hW1]; exact heap_alloc_new _ _
  have hb1 := Lib.hid hb1
  have hx1 := Lib.hid hx1
  have hW1' := Lib.hid hW1
  clear hW1
  unfold inV inC
  go_enter Tryz.func102, Tryz.ntmps102
  go_upto_region 7 with fail
  rw [hW1'.out]
  obtain ⟨g0, g1, g2, g3, g4, g5, g6, g7, g8, g9, g10, g11, g12⟩ := box13 hx1.out
  have hcl := Lib.hid ((shifts_any W1.drew ((hE'.out.below hb1.out).below (Below.refl _ _).drew)).mono (R' := fun e w' => e = .returned (.slice (some ⟨W1.drew.heap.size, 0, none⟩) 5 5) ∧ w' = W1.drew.alloc (.cells (lisC shfW) 9)) (fun e w' h => h))
  go_region_with (go_at_call 84; refine hcl.out.mono ?_; rintro e w2 ⟨rfl, hw2⟩; have hc2 := hcell.out W1.drew; have hx2 := Lib.hid (show w2.heap[w.heap.size]? = some (.cells #[.int .i64 8, .int .i64 bn, .int .i64 sh, .int .i64 cd, .int .i64 ds, .int .i64 sr, .int .u64 (im : Int), .int .i64 ba, .int .i64 ix, .bool hb, .bool hi, .int .i64 dp, .int .i64 lb] 32 (0, 0)) from by rw [hw2]; exact (heap_alloc_old _ _ (blk_lt hx1.out)).trans hx1.out); have hb2' := Lib.hid (show Below W1.heap.size W1 w2 from by rw [hw2]; exact (Below.refl _ _).drew.alloc (Nat.le_refl _) _); rw [← hw2] at hc2; have hc2 : w2.cell? ⟨W1.heap.size, k, none⟩ = some (.string x) := hc2; obtain ⟨q0, q1, q2, q3, q4, q5, q6, q7, q8, q9, q10, q11, q12⟩ := box13 hx2.out; clear hw2; skip)
  all_goals (
    go_wp2
    go_ret
    exact ⟨congrArg (fun s => Ending.returned (Value.string s)) (empty_app.symm.trans ht'.out), Below.next hb1.out hb2'.out⟩)
set_option maxRecDepth 100000 in
set_option maxHeartbeats 4000000 in
theorem word14_any (bn sh ds sr : Int) (im : Nat) (ba ix : Int) (hb hi : Bool) (dp lb : Int) (k : Nat) (hk : k < 16) (w : World) (hE : Env w) : Calls Tryz.prog 102 #[inV ⟨14, bn, sh, (k : Int), ds, sr, im, ba, ix, hb, hi, dp, lb⟩] w (StrPost (bt ([115, 101, 116] ++ atW cndW (k : Int))) w) := by
  have hl : cndW.length = 16 := rfl
  have hcell := Lib.hid (fun (W : World) => lis_cell (w := W) (at_get (L := cndW) (k := k) (by rw [hl]; exact hk)))
  have hsz : (bt (atW cndW (k : Int))).size ≤ 10 := by rw [bt_size]; exact cndW_le (k : Int)
  have ht := bt_app [115, 101, 116] (atW cndW (k : Int))
  obtain ⟨x, hx⟩ : ∃ x, bt (atW cndW (k : Int)) = x := ⟨_, rfl⟩
  rw [hx] at hcell ht hsz
  clear hx
  have ht' := Lib.hid ht
  clear ht
  have e1 : (0 : Int) ≤ (k : Int) := by omega
  have e2 : (k : Int) < 16 := by omega
  have hE' := Lib.hid hE
  clear hE hl
  obtain ⟨W1, hW1⟩ : ∃ W1, w.alloc (.cells #[.int .i64 14, .int .i64 bn, .int .i64 sh, .int .i64 (k : Int), .int .i64 ds, .int .i64 sr, .int .u64 (im : Int), .int .i64 ba, .int .i64 ix, .bool hb, .bool hi, .int .i64 dp, .int .i64 lb] 32) = W1 := ⟨_, rfl⟩
  have hb1 : Below w.heap.size w W1 := by rw [← hW1]; exact below_new w _
  have hx1 : W1.heap[w.heap.size]? = some (.cells #[.int .i64 14, .int .i64 bn, .int .i64 sh, .int .i64 (k : Int), .int .i64 ds, .int .i64 sr, .int .u64 (im : Int), .int .i64 ba, .int .i64 ix, .bool hb, .bool hi, .int .i64 dp, .int .i64 lb] 32 (0, 0)) := by rw [← hW1]; exact heap_alloc_new _ _
  have hb1 := Lib.hid hb1
  have hx1 := Lib.hid hx1
  have hW1' := Lib.hid hW1
  clear hW1
  unfold inV inC
  go_enter Tryz.func102, Tryz.ntmps102
  go_upto_region 9 with fail
  rw [hW1'.out]
  obtain ⟨g0, g1, g2, g3, g4, g5, g6, g7, g8, g9, g10, g11, g12⟩ := box13 hx1.out
  have hcl := Lib.hid ((conds_any W1.drew ((hE'.out.below hb1.out).below (Below.refl _ _).drew)).mono (R' := fun e w' => e = .returned (.slice (some ⟨W1.drew.heap.size, 0, none⟩) 16 16) ∧ w' = W1.drew.alloc (.cells (lisC cndW) 9)) (fun e w' h => h))
  go_region_with (go_at_call 87; refine hcl.out.mono ?_; rintro e w2 ⟨rfl, hw2⟩; have hc2 := hcell.out W1.drew; have hx2 := Lib.hid (show w2.heap[w.heap.size]? = some (.cells #[.int .i64 14, .int .i64 bn, .int .i64 sh, .int .i64 (k : Int), .int .i64 ds, .int .i64 sr, .int .u64 (im : Int), .int .i64 ba, .int .i64 ix, .bool hb, .bool hi, .int .i64 dp, .int .i64 lb] 32 (0, 0)) from by rw [hw2]; exact (heap_alloc_old _ _ (blk_lt hx1.out)).trans hx1.out); have hb2' := Lib.hid (show Below W1.heap.size W1 w2 from by rw [hw2]; exact (Below.refl _ _).drew.alloc (Nat.le_refl _) _); rw [← hw2] at hc2; have hc2 : w2.cell? ⟨W1.heap.size, k, none⟩ = some (.string x) := hc2; obtain ⟨q0, q1, q2, q3, q4, q5, q6, q7, q8, q9, q10, q11, q12⟩ := box13 hx2.out; clear hw2; skip)
  all_goals (
    go_wp2
    go_ret
    exact ⟨congrArg (fun s => Ending.returned (Value.string s)) ( ht'.out), Below.next hb1.out hb2'.out⟩)
set_option maxRecDepth 100000 in
set_option maxHeartbeats 4000000 in
theorem word16_any (bn sh ds sr : Int) (im : Nat) (ba ix : Int) (hb hi : Bool) (dp lb : Int) (k : Nat) (hk : k < 16) (w : World) (hE : Env w) : Calls Tryz.prog 102 #[inV ⟨16, bn, sh, (k : Int), ds, sr, im, ba, ix, hb, hi, dp, lb⟩] w (StrPost (bt ([99, 109, 111, 118] ++ atW cndW (k : Int))) w) := by
  have hl : cndW.length = 16 := rfl
  have hcell := Lib.hid (fun (W : World) => lis_cell (w := W) (at_get (L := cndW) (k := k) (by rw [hl]; exact hk)))
  have hsz : (bt (atW cndW (k : Int))).size ≤ 10 := by rw [bt_size]; exact cndW_le (k : Int)
  have ht := bt_app [99, 109, 111, 118] (atW cndW (k : Int))
  obtain ⟨x, hx⟩ : ∃ x, bt (atW cndW (k : Int)) = x := ⟨_, rfl⟩
  rw [hx] at hcell ht hsz
  clear hx
  have ht' := Lib.hid ht
  clear ht
  have e1 : (0 : Int) ≤ (k : Int) := by omega
  have e2 : (k : Int) < 16 := by omega
  have hE' := Lib.hid hE
  clear hE hl
  obtain ⟨W1, hW1⟩ : ∃ W1, w.alloc (.cells #[.int .i64 16, .int .i64 bn, .int .i64 sh, .int .i64 (k : Int), .int .i64 ds, .int .i64 sr, .int .u64 (im : Int), .int .i64 ba, .int .i64 ix, .bool hb, .bool hi, .int .i64 dp, .int .i64 lb] 32) = W1 := ⟨_, rfl⟩
  have hb1 : Below w.heap.size w W1 := by rw [← hW1]; exact below_new w _
  have hx1 : W1.heap[w.heap.size]? = some (.cells #[.int .i64 16, .int .i64 bn, .int .i64 sh, .int .i64 (k : Int), .int .i64 ds, .int .i64 sr, .int .u64 (im : Int), .int .i64 ba, .int .i64 ix, .bool hb, .bool hi, .int .i64 dp, .int .i64 lb] 32 (0, 0)) := by rw [← hW1]; exact heap_alloc_new _ _
  have hb1 := Lib.hid hb1
  have hx1 := Lib.hid hx1
  have hW1' := Lib.hid hW1
  clear hW1
  unfold inV inC
  go_enter Tryz.func102, Tryz.ntmps102
  go_upto_region 11 with fail
  rw [hW1'.out]
  obtain ⟨g0, g1, g2, g3, g4, g5, g6, g7, g8, g9, g10, g11, g12⟩ := box13 hx1.out
  have hcl := Lib.hid ((conds_any W1.drew ((hE'.out.below hb1.out).below (Below.refl _ _).drew)).mono (R' := fun e w' => e = .returned (.slice (some ⟨W1.drew.heap.size, 0, none⟩) 16 16) ∧ w' = W1.drew.alloc (.cells (lisC cndW) 9)) (fun e w' h => h))
  go_region_with (go_at_call 87; refine hcl.out.mono ?_; rintro e w2 ⟨rfl, hw2⟩; have hc2 := hcell.out W1.drew; have hx2 := Lib.hid (show w2.heap[w.heap.size]? = some (.cells #[.int .i64 16, .int .i64 bn, .int .i64 sh, .int .i64 (k : Int), .int .i64 ds, .int .i64 sr, .int .u64 (im : Int), .int .i64 ba, .int .i64 ix, .bool hb, .bool hi, .int .i64 dp, .int .i64 lb] 32 (0, 0)) from by rw [hw2]; exact (heap_alloc_old _ _ (blk_lt hx1.out)).trans hx1.out); have hb2' := Lib.hid (show Below W1.heap.size W1 w2 from by rw [hw2]; exact (Below.refl _ _).drew.alloc (Nat.le_refl _) _); rw [← hw2] at hc2; have hc2 : w2.cell? ⟨W1.heap.size, k, none⟩ = some (.string x) := hc2; obtain ⟨q0, q1, q2, q3, q4, q5, q6, q7, q8, q9, q10, q11, q12⟩ := box13 hx2.out; clear hw2; skip)
  all_goals (
    go_wp2
    go_ret
    exact ⟨congrArg (fun s => Ending.returned (Value.string s)) ( ht'.out), Below.next hb1.out hb2'.out⟩)
set_option maxRecDepth 100000 in
set_option maxHeartbeats 4000000 in
theorem word18_any (bn sh ds sr : Int) (im : Nat) (ba ix : Int) (hb hi : Bool) (dp lb : Int) (k : Nat) (hk : k < 16) (w : World) (hE : Env w) : Calls Tryz.prog 102 #[inV ⟨18, bn, sh, (k : Int), ds, sr, im, ba, ix, hb, hi, dp, lb⟩] w (StrPost (bt ([106] ++ atW cndW (k : Int))) w) := by
  have hl : cndW.length = 16 := rfl
  have hcell := Lib.hid (fun (W : World) => lis_cell (w := W) (at_get (L := cndW) (k := k) (by rw [hl]; exact hk)))
  have hsz : (bt (atW cndW (k : Int))).size ≤ 10 := by rw [bt_size]; exact cndW_le (k : Int)
  have ht := bt_app [106] (atW cndW (k : Int))
  obtain ⟨x, hx⟩ : ∃ x, bt (atW cndW (k : Int)) = x := ⟨_, rfl⟩
  rw [hx] at hcell ht hsz
  clear hx
  have ht' := Lib.hid ht
  clear ht
  have e1 : (0 : Int) ≤ (k : Int) := by omega
  have e2 : (k : Int) < 16 := by omega
  have hE' := Lib.hid hE
  clear hE hl
  obtain ⟨W1, hW1⟩ : ∃ W1, w.alloc (.cells #[.int .i64 18, .int .i64 bn, .int .i64 sh, .int .i64 (k : Int), .int .i64 ds, .int .i64 sr, .int .u64 (im : Int), .int .i64 ba, .int .i64 ix, .bool hb, .bool hi, .int .i64 dp, .int .i64 lb] 32) = W1 := ⟨_, rfl⟩
  have hb1 : Below w.heap.size w W1 := by rw [← hW1]; exact below_new w _
  have hx1 : W1.heap[w.heap.size]? = some (.cells #[.int .i64 18, .int .i64 bn, .int .i64 sh, .int .i64 (k : Int), .int .i64 ds, .int .i64 sr, .int .u64 (im : Int), .int .i64 ba, .int .i64 ix, .bool hb, .bool hi, .int .i64 dp, .int .i64 lb] 32 (0, 0)) := by rw [← hW1]; exact heap_alloc_new _ _
  have hb1 := Lib.hid hb1
  have hx1 := Lib.hid hx1
  have hW1' := Lib.hid hW1
  clear hW1
  unfold inV inC
  go_enter Tryz.func102, Tryz.ntmps102
  go_upto_region 13 with fail
  rw [hW1'.out]
  obtain ⟨g0, g1, g2, g3, g4, g5, g6, g7, g8, g9, g10, g11, g12⟩ := box13 hx1.out
  have hcl := Lib.hid ((conds_any W1.drew ((hE'.out.below hb1.out).below (Below.refl _ _).drew)).mono (R' := fun e w' => e = .returned (.slice (some ⟨W1.drew.heap.size, 0, none⟩) 16 16) ∧ w' = W1.drew.alloc (.cells (lisC cndW) 9)) (fun e w' h => h))
  go_region_with (go_at_call 87; refine hcl.out.mono ?_; rintro e w2 ⟨rfl, hw2⟩; have hc2 := hcell.out W1.drew; have hx2 := Lib.hid (show w2.heap[w.heap.size]? = some (.cells #[.int .i64 18, .int .i64 bn, .int .i64 sh, .int .i64 (k : Int), .int .i64 ds, .int .i64 sr, .int .u64 (im : Int), .int .i64 ba, .int .i64 ix, .bool hb, .bool hi, .int .i64 dp, .int .i64 lb] 32 (0, 0)) from by rw [hw2]; exact (heap_alloc_old _ _ (blk_lt hx1.out)).trans hx1.out); have hb2' := Lib.hid (show Below W1.heap.size W1 w2 from by rw [hw2]; exact (Below.refl _ _).drew.alloc (Nat.le_refl _) _); rw [← hw2] at hc2; have hc2 : w2.cell? ⟨W1.heap.size, k, none⟩ = some (.string x) := hc2; obtain ⟨q0, q1, q2, q3, q4, q5, q6, q7, q8, q9, q10, q11, q12⟩ := box13 hx2.out; clear hw2; skip)
  all_goals (
    go_wp2
    go_ret
    exact ⟨congrArg (fun s => Ending.returned (Value.string s)) ( ht'.out), Below.next hb1.out hb2'.out⟩)
theorem nat_of {x : Int} {n : Nat} (h : 0 ≤ x ∧ x < n) : ∃ k : Nat, x = (k : Int) ∧ k < n := ⟨x.toNat, by omega, by omega⟩
theorem word_any {i : In} (h : Form i) (hl : i.op ≠ 19) (w : World) (hE : Env w) : Calls Tryz.prog 102 #[inV i] w (StrPost (bt (wordT i)) w) := by
  cases h with
  | two op d s ho hd hs => rcases ho with rfl | rfl | rfl | rfl <;> first | exact word1_any _ _ _ _ _ _ _ _ _ _ _ _ w | exact word11_any _ _ _ _ _ _ _ _ _ _ _ _ w | exact word12_any _ _ _ _ _ _ _ _ _ _ _ _ w | exact word15_any _ _ _ _ _ _ _ _ _ _ _ _ w
  | set d n hd hn => exact word2_any _ _ _ _ _ _ _ _ _ _ _ _ w
  | load d ba ix hb hi dp hd ha => exact word3_any _ _ _ _ _ _ _ _ _ _ _ _ w
  | store s ba ix hb hi dp hs ha => exact word4_any _ _ _ _ _ _ _ _ _ _ _ _ w
  | bin b d s hb hd hs =>
    obtain ⟨k, hk, hk2⟩ := nat_of (x := b - 1) (n := 8) (by omega)
    rw [show wordT (⟨5, b, 0, 0, d, s, 0, 0, 0, false, false, 0, 0⟩ : In) = [] ++ atW binW (k : Int) from by rw [← hk]; rfl]
    exact word5_any _ _ _ _ _ _ _ _ _ _ _ _ k hk2 (by omega) w hE
  | binI b d n hb hd hn =>
    obtain ⟨k, hk, hk2⟩ := nat_of (x := b - 1) (n := 8) (by omega)
    rw [show wordT (⟨6, b, 0, 0, d, 0, n, 0, 0, false, false, 0, 0⟩ : In) = [] ++ atW binW (k : Int) from by rw [← hk]; rfl]
    exact word6_any _ _ _ _ _ _ _ _ _ _ _ _ k hk2 (by omega) w hE
  | shf h d hh hd =>
    obtain ⟨k, hk, hk2⟩ := nat_of (x := h - 1) (n := 5) (by omega)
    rw [show wordT (⟨7, 0, h, 0, d, 0, 0, 0, 0, false, false, 0, 0⟩ : In) = [] ++ atW shfW (k : Int) from by rw [← hk]; rfl]
    exact word7_any _ _ _ _ _ _ _ _ _ _ _ _ k hk2 (by omega) w hE
  | shfI h d n hh hd hn =>
    obtain ⟨k, hk, hk2⟩ := nat_of (x := h - 1) (n := 5) (by omega)
    rw [show wordT (⟨8, 0, h, 0, d, 0, n, 0, 0, false, false, 0, 0⟩ : In) = [] ++ atW shfW (k : Int) from by rw [← hk]; rfl]
    exact word8_any _ _ _ _ _ _ _ _ _ _ _ _ k hk2 (by omega) w hE
  | one op d ho hd => rcases ho with rfl | rfl <;> first | exact word9_any _ _ _ _ _ _ _ _ _ _ _ _ w | exact word10_any _ _ _ _ _ _ _ _ _ _ _ _ w
  | cmpI d n hd hn => exact word13_any _ _ _ _ _ _ _ _ _ _ _ _ w
  | setc c d hc hd =>
    obtain ⟨k, rfl, hk2⟩ := nat_of (x := c) (n := 16) (by omega)
    exact word14_any _ _ _ _ _ _ _ _ _ _ _ k hk2 w hE
  | movc c d s hc hd hs =>
    obtain ⟨k, rfl, hk2⟩ := nat_of (x := c) (n := 16) (by omega)
    exact word16_any _ _ _ _ _ _ _ _ _ _ _ k hk2 w hE
  | jump n hn => exact word17_any _ _ _ _ _ _ _ _ _ _ _ _ w
  | brc c n hc hn =>
    obtain ⟨k, rfl, hk2⟩ := nat_of (x := c) (n := 16) (by omega)
    exact word18_any _ _ _ _ _ _ _ _ _ _ _ k hk2 w hE
  | lab n hn => exact absurd rfl hl
  | ret => exact word20_any _ _ _ _ _ _ _ _ _ _ _ _ w
end Go.Proofs.YtmimmnjdgpdjlaaGreatDoor
