/- Addresses that may be: the program's mayAddr, the reference's. The reference's mayAddr; stripped. An instruction's value; stripped. -/
import Derived.Test.YtmimmnjdgpdjlaaGreatDoorP2
set_option linter.unusedSimpArgs false
set_option linter.unusedVariables false
namespace Go.Proofs.YtmimmnjdgpdjlaaGreatDoor
open Go.RowKit Go.Lib Go.Shelf

theorem base4 (r1 hb c1 : Bool) : r1 = false ∨ (r1 = true ∧ hb = true) ∨ (r1 = true ∧ hb = false ∧ c1 = true) ∨ (r1 = true ∧ hb = false ∧ c1 = false) := by revert r1 hb c1; decide
theorem idx5 (r2 hi c2 c4 : Bool) : r2 = false ∨ (r2 = true ∧ hi = true ∧ c4 = true) ∨ (r2 = true ∧ hi = true ∧ c4 = false) ∨ (r2 = true ∧ hi = false ∧ c2 = true) ∨ (r2 = true ∧ hi = false ∧ c2 = false) := by revert r2 hi c2 c4; decide

set_option maxRecDepth 100000 in
set_option maxHeartbeats 4000000 in
theorem cmayAddr_any (ba ix : Int) (hb hi : Bool) (dp : Int) (h0 : -9223372036854775808 ≤ dp) (h1 : dp ≤ 9223372036854775807) (w : World) : Calls Tryz.prog 124 #[adV ba ix hb hi dp] w (BoolPost (addrB ba ix hb hi dp) w) := by
  obtain ⟨y, hy, hy2, hs⟩ := short_disp dp h0 h1
  have hsh := Lib.hid (fun w => short125_any y hy2 w)
  rw [hs] at hsh
  have hr1 := Lib.hid (creg_any ba)
  have hr2 := Lib.hid (creg_any ix)
  unfold adV addrB
  obtain ⟨sb, hsb⟩ : ∃ b, shortI dp = b := ⟨_, rfl⟩
  obtain ⟨r1, hr1b⟩ : ∃ b, regB ba = b := ⟨_, rfl⟩
  obtain ⟨r2, hr2b⟩ : ∃ b, regB ix = b := ⟨_, rfl⟩
  rw [hsb] at hsh
  rw [hsb, hr1b, hr2b]
  rw [hr1b] at hr1
  rw [hr2b] at hr2
  clear hs hsb hr1b hr2b hy2 h0 h1
  have hbn := Lib.hid (below_new w (.cells #[.int .i64 ba, .int .i64 ix, .bool hb, .bool hi, .int .i64 dp] 30))
  obtain ⟨c1, hc1⟩ : ∃ b, (ba == (0 : Int)) = b := ⟨_, rfl⟩
  obtain ⟨c2, hc2⟩ : ∃ b, (ix == (0 : Int)) = b := ⟨_, rfl⟩
  obtain ⟨c4, hc4⟩ : ∃ b, (ix == (4 : Int)) = b := ⟨_, rfl⟩
  rw [hc1, hc2, hc4]

  rcases base4 r1 hb c1 with rfl | ⟨rfl, rfl⟩ | ⟨rfl, rfl, rfl⟩ | ⟨rfl, rfl, rfl⟩
  all_goals
    rcases idx5 r2 hi c2 c4 with rfl | ⟨rfl, rfl, rfl⟩ | ⟨rfl, rfl, rfl⟩ | ⟨rfl, rfl, rfl⟩ | ⟨rfl, rfl, rfl⟩
    all_goals
      go_enter Tryz.func124, Tryz.ntmps124
      go_wp2_with (first | (go_at_call 125; refine (hsh.out _).mono ?_; rintro e w2 ⟨rfl, rfl⟩) | (go_at_call 123; first | (with_reducible refine (hr1.out _).mono ?_; rintro e w1 ⟨rfl, rfl⟩) | (with_reducible refine (hr2.out _).mono ?_; rintro e w1 ⟨rfl, rfl⟩)))
      go_ret
      exact ⟨by first | rfl | simp, hbn.out⟩

end Go.Proofs.YtmimmnjdgpdjlaaGreatDoor
namespace Go.Proofs.YtmimmnjdgpdjlaaGreatDoor
open Go.RowKit Go.Lib Go.Shelf

theorem addrB_parts (ba ix : Int) (hb hi : Bool) (dp : Int) : addrB ba ix hb hi dp = (decide (0 ≤ ba) && decide (ba ≤ 15) && (hb || ba == 0) && (decide (0 ≤ ix) && decide (ix ≤ 15) && (hi || ix == 0) && !(hi && ix == 4)) && (decide (-2147483648 ≤ dp) && decide (dp ≤ 2147483647))) := rfl
theorem addrB_bad (ba ix : Int) (hb hi : Bool) (dp : Int) (h : ba < 0 ∨ 15 < ba ∨ ix < 0 ∨ 15 < ix ∨ dp < -2147483648 ∨ 2147483647 < dp) : addrB ba ix hb hi dp = false := by
  rw [← Bool.not_eq_true]
  intro h2
  obtain ⟨h3, _, h5, _, _, h6, h7⟩ := addr_parts h2
  omega
theorem addrB_in (ba ix : Int) (hb hi : Bool) (dp : Int) (h : ¬ ba < 0 ∧ ¬ 15 < ba ∧ ¬ ix < 0 ∧ ¬ 15 < ix ∧ ¬ dp < -2147483648 ∧ ¬ 2147483647 < dp) : addrB ba ix hb hi dp = ((hb || ba == 0) && ((hi || ix == 0) && !(hi && ix == 4))) := by
  rw [addrB_parts, decide_eq_true (by omega), decide_eq_true (by omega), decide_eq_true (by omega), decide_eq_true (by omega), decide_eq_true (by omega), decide_eq_true (by omega)]
  simp
set_option maxRecDepth 100000 in
set_option maxHeartbeats 4000000 in
theorem rmayAddr_any (ba ix : Int) (hb hi : Bool) (dp : Int) (w : World) : Calls Tryz.prog 49 #[adV ba ix hb hi dp] w (BoolPost (addrB ba ix hb hi dp) w) := by
  have hbn := Lib.hid (below_new w (.cells #[.int .i64 ba, .int .i64 ix, .bool hb, .bool hi, .int .i64 dp] 30))
  unfold adV
  by_cases n1 : ba < 0
  · rw [addrB_bad ba ix hb hi dp (by omega)]
    go_enter Tryz.func49, Tryz.ntmps49
    go_wp2
    go_ret
    exact ⟨rfl, hbn.out⟩
  by_cases n2 : 15 < ba
  · rw [addrB_bad ba ix hb hi dp (by omega)]
    go_enter Tryz.func49, Tryz.ntmps49
    go_wp2
    go_ret
    exact ⟨rfl, hbn.out⟩
  by_cases n3 : ix < 0
  · rw [addrB_bad ba ix hb hi dp (by omega)]
    go_enter Tryz.func49, Tryz.ntmps49
    go_wp2
    go_ret
    exact ⟨rfl, hbn.out⟩
  by_cases n4 : 15 < ix
  · rw [addrB_bad ba ix hb hi dp (by omega)]
    go_enter Tryz.func49, Tryz.ntmps49
    go_wp2
    go_ret
    exact ⟨rfl, hbn.out⟩
  by_cases n5 : dp < -2147483648
  · rw [addrB_bad ba ix hb hi dp (by omega)]
    go_enter Tryz.func49, Tryz.ntmps49
    go_wp2
    go_ret
    exact ⟨rfl, hbn.out⟩
  by_cases n6 : 2147483647 < dp
  · rw [addrB_bad ba ix hb hi dp (by omega)]
    go_enter Tryz.func49, Tryz.ntmps49
    go_wp2
    go_ret
    exact ⟨rfl, hbn.out⟩
  rw [addrB_in ba ix hb hi dp (by omega)]
  obtain ⟨c1, hc1⟩ : ∃ b, (ba == (0 : Int)) = b := ⟨_, rfl⟩
  obtain ⟨c2, hc2⟩ : ∃ b, (ix == (0 : Int)) = b := ⟨_, rfl⟩
  obtain ⟨c4, hc4⟩ : ∃ b, (ix == (4 : Int)) = b := ⟨_, rfl⟩
  rw [hc1, hc2, hc4]
  have hc4' : (ix != (4 : Int)) = !c4 := by rw [bne, hc4]
  rcases base4 true hb c1 with h | ⟨-, rfl⟩ | ⟨-, rfl, rfl⟩ | ⟨-, rfl, rfl⟩
  · cases h
  all_goals
    rcases idx5 true hi c2 c4 with h | ⟨-, rfl, rfl⟩ | ⟨-, rfl, rfl⟩ | ⟨-, rfl, rfl⟩ | ⟨-, rfl, rfl⟩
    · cases h
    all_goals
      go_enter Tryz.func49, Tryz.ntmps49
      go_wp2
      go_ret
      exact ⟨by first | rfl | simp, hbn.out⟩
end Go.Proofs.YtmimmnjdgpdjlaaGreatDoor
namespace Go.Proofs.YtmimmnjdgpdjlaaGreatDoor
open Go.RowKit Go.Lib Go.Shelf

def inC (i : In) : Array Value := #[.int .i64 i.op, .int .i64 i.bn, .int .i64 i.sh, .int .i64 i.cd, .int .i64 i.ds, .int .i64 i.sr, .int .u64 (i.im : Int), .int .i64 i.ba, .int .i64 i.ix, .bool i.hb, .bool i.hi, .int .i64 i.dp, .int .i64 i.lb]
def inV (i : In) : Value := .agg (inC i)
def InPost (i : In) (w : World) (e : Ending) (w' : World) : Prop := e = .returned (inV i) ∧ Below w.heap.size w w'

theorem box13 {W : World} {b : Nat} {t : TypeId} {c0 c1 c2 c3 c4 c5 c6 c7 c8 c9 c10 c11 c12 : Value} (h : W.heap[b]? = some (.cells #[c0, c1, c2, c3, c4, c5, c6, c7, c8, c9, c10, c11, c12] t (0, 0))) : W.cell? ⟨b, 0, none⟩ = some c0 ∧ W.cell? ⟨b, 1, none⟩ = some c1 ∧ W.cell? ⟨b, 2, none⟩ = some c2 ∧ W.cell? ⟨b, 3, none⟩ = some c3 ∧ W.cell? ⟨b, 4, none⟩ = some c4 ∧ W.cell? ⟨b, 5, none⟩ = some c5 ∧ W.cell? ⟨b, 6, none⟩ = some c6 ∧ W.cell? ⟨b, 7, none⟩ = some c7 ∧ W.cell? ⟨b, 8, none⟩ = some c8 ∧ W.cell? ⟨b, 9, none⟩ = some c9 ∧ W.cell? ⟨b, 10, none⟩ = some c10 ∧ W.cell? ⟨b, 11, none⟩ = some c11 ∧ W.cell? ⟨b, 12, none⟩ = some c12 := by
  refine ⟨?_, ?_, ?_, ?_, ?_, ?_, ?_, ?_, ?_, ?_, ?_, ?_, ?_⟩ <;> (rw [blk_cell h]; rfl)
set_option maxRecDepth 100000 in
set_option maxHeartbeats 4000000 in
theorem strip0_any (op bn sh cd ds sr : Int) (im : Nat) (ba ix : Int) (hb hi : Bool) (dp lb : Int) (w : World) : Calls Tryz.prog 122 #[.agg #[.int .i64 op, .int .i64 bn, .int .i64 sh, .int .i64 cd, .int .i64 ds, .int .i64 sr, .int .u64 (im : Int), .int .i64 ba, .int .i64 ix, .bool hb, .bool hi, .int .i64 dp, .int .i64 lb], .int .i64 0] w (InPost (strip ⟨op, bn, sh, cd, ds, sr, im, ba, ix, hb, hi, dp, lb⟩ 0) w) := by
  go_enter Tryz.func122, Tryz.ntmps122
  go_wp2
  refine bodyPost_ret (v := .agg #[.int .i64 op, .int .i64 0, .int .i64 0, .int .i64 0, .int .i64 0, .int .i64 0, .int .u64 0, .int .i64 0, .int .i64 0, .bool false, .bool false, .int .i64 0, .int .i64 0]) ?_ rfl ⟨by rfl, ((below_new w _).alloc (by simp) _).alloc (by simp; omega) _⟩
  have hR : (((w.alloc (.cells #[.int .i64 op, .int .i64 bn, .int .i64 sh, .int .i64 cd, .int .i64 ds, .int .i64 sr, .int .u64 (im : Int), .int .i64 ba, .int .i64 ix, .bool hb, .bool hi, .int .i64 dp, .int .i64 lb] 32)).alloc (.cells #[.int .i64 op, .int .i64 0, .int .i64 0, .int .i64 0, .int .i64 0, .int .i64 0, .int .u64 0, .int .i64 0, .int .i64 0, .bool false, .bool false, .int .i64 0, .int .i64 0] 32)).alloc (.cells #[.int .i64 op, .int .i64 0, .int .i64 0, .int .i64 0, .int .i64 0, .int .i64 0, .int .u64 0, .int .i64 0, .int .i64 0, .bool false, .bool false, .int .i64 0, .int .i64 0] 32)).heap[w.heap.size + 1]? = some (.cells #[.int .i64 op, .int .i64 0, .int .i64 0, .int .i64 0, .int .i64 0, .int .i64 0, .int .u64 0, .int .i64 0, .int .i64 0, .bool false, .bool false, .int .i64 0, .int .i64 0] 32 (0, 0)) := by
    have e : w.heap.size + 1 = (w.alloc (.cells #[.int .i64 op, .int .i64 bn, .int .i64 sh, .int .i64 cd, .int .i64 ds, .int .i64 sr, .int .u64 (im : Int), .int .i64 ba, .int .i64 ix, .bool hb, .bool hi, .int .i64 dp, .int .i64 lb] 32)).heap.size := by simp
    rw [heap_alloc_old _ _ (by simp), e]
    exact heap_alloc_new _ _
  obtain ⟨q0, q1, q2, q3, q4, q5, q6, q7, q8, q9, q10, q11, q12⟩ := box13 hR
  simp [results, Tryz.f122, go_sem, q0, q1, q2, q3, q4, q5, q6, q7, q8, q9, q10, q11, q12]
set_option maxRecDepth 100000 in
set_option maxHeartbeats 4000000 in
theorem strip1_any (op bn sh cd ds sr : Int) (im : Nat) (ba ix : Int) (hb hi : Bool) (dp lb : Int) (w : World) : Calls Tryz.prog 122 #[.agg #[.int .i64 op, .int .i64 bn, .int .i64 sh, .int .i64 cd, .int .i64 ds, .int .i64 sr, .int .u64 (im : Int), .int .i64 ba, .int .i64 ix, .bool hb, .bool hi, .int .i64 dp, .int .i64 lb], .int .i64 1] w (InPost (strip ⟨op, bn, sh, cd, ds, sr, im, ba, ix, hb, hi, dp, lb⟩ 1) w) := by
  go_enter Tryz.func122, Tryz.ntmps122
  go_wp2
  refine bodyPost_ret (v := .agg #[.int .i64 op, .int .i64 0, .int .i64 0, .int .i64 0, .int .i64 ds, .int .i64 0, .int .u64 0, .int .i64 0, .int .i64 0, .bool false, .bool false, .int .i64 0, .int .i64 0]) ?_ rfl ⟨by rfl, ((below_new w _).alloc (by simp) _).alloc (by simp; omega) _⟩
  have hR : (((w.alloc (.cells #[.int .i64 op, .int .i64 bn, .int .i64 sh, .int .i64 cd, .int .i64 ds, .int .i64 sr, .int .u64 (im : Int), .int .i64 ba, .int .i64 ix, .bool hb, .bool hi, .int .i64 dp, .int .i64 lb] 32)).alloc (.cells #[.int .i64 op, .int .i64 0, .int .i64 0, .int .i64 0, .int .i64 ds, .int .i64 0, .int .u64 0, .int .i64 0, .int .i64 0, .bool false, .bool false, .int .i64 0, .int .i64 0] 32)).alloc (.cells #[.int .i64 op, .int .i64 0, .int .i64 0, .int .i64 0, .int .i64 ds, .int .i64 0, .int .u64 0, .int .i64 0, .int .i64 0, .bool false, .bool false, .int .i64 0, .int .i64 0] 32)).heap[w.heap.size + 1]? = some (.cells #[.int .i64 op, .int .i64 0, .int .i64 0, .int .i64 0, .int .i64 ds, .int .i64 0, .int .u64 0, .int .i64 0, .int .i64 0, .bool false, .bool false, .int .i64 0, .int .i64 0] 32 (0, 0)) := by
    have e : w.heap.size + 1 = (w.alloc (.cells #[.int .i64 op, .int .i64 bn, .int .i64 sh, .int .i64 cd, .int .i64 ds, .int .i64 sr, .int .u64 (im : Int), .int .i64 ba, .int .i64 ix, .bool hb, .bool hi, .int .i64 dp, .int .i64 lb] 32)).heap.size := by simp
    rw [heap_alloc_old _ _ (by simp), e]
    exact heap_alloc_new _ _
  obtain ⟨q0, q1, q2, q3, q4, q5, q6, q7, q8, q9, q10, q11, q12⟩ := box13 hR
  simp [results, Tryz.f122, go_sem, q0, q1, q2, q3, q4, q5, q6, q7, q8, q9, q10, q11, q12]
set_option maxRecDepth 100000 in
set_option maxHeartbeats 4000000 in
theorem strip3_any (op bn sh cd ds sr : Int) (im : Nat) (ba ix : Int) (hb hi : Bool) (dp lb : Int) (w : World) : Calls Tryz.prog 122 #[.agg #[.int .i64 op, .int .i64 bn, .int .i64 sh, .int .i64 cd, .int .i64 ds, .int .i64 sr, .int .u64 (im : Int), .int .i64 ba, .int .i64 ix, .bool hb, .bool hi, .int .i64 dp, .int .i64 lb], .int .i64 3] w (InPost (strip ⟨op, bn, sh, cd, ds, sr, im, ba, ix, hb, hi, dp, lb⟩ 3) w) := by
  go_enter Tryz.func122, Tryz.ntmps122
  go_wp2
  refine bodyPost_ret (v := .agg #[.int .i64 op, .int .i64 0, .int .i64 0, .int .i64 0, .int .i64 ds, .int .i64 sr, .int .u64 0, .int .i64 0, .int .i64 0, .bool false, .bool false, .int .i64 0, .int .i64 0]) ?_ rfl ⟨by rfl, ((below_new w _).alloc (by simp) _).alloc (by simp; omega) _⟩
  have hR : (((w.alloc (.cells #[.int .i64 op, .int .i64 bn, .int .i64 sh, .int .i64 cd, .int .i64 ds, .int .i64 sr, .int .u64 (im : Int), .int .i64 ba, .int .i64 ix, .bool hb, .bool hi, .int .i64 dp, .int .i64 lb] 32)).alloc (.cells #[.int .i64 op, .int .i64 0, .int .i64 0, .int .i64 0, .int .i64 ds, .int .i64 sr, .int .u64 0, .int .i64 0, .int .i64 0, .bool false, .bool false, .int .i64 0, .int .i64 0] 32)).alloc (.cells #[.int .i64 op, .int .i64 0, .int .i64 0, .int .i64 0, .int .i64 ds, .int .i64 sr, .int .u64 0, .int .i64 0, .int .i64 0, .bool false, .bool false, .int .i64 0, .int .i64 0] 32)).heap[w.heap.size + 1]? = some (.cells #[.int .i64 op, .int .i64 0, .int .i64 0, .int .i64 0, .int .i64 ds, .int .i64 sr, .int .u64 0, .int .i64 0, .int .i64 0, .bool false, .bool false, .int .i64 0, .int .i64 0] 32 (0, 0)) := by
    have e : w.heap.size + 1 = (w.alloc (.cells #[.int .i64 op, .int .i64 bn, .int .i64 sh, .int .i64 cd, .int .i64 ds, .int .i64 sr, .int .u64 (im : Int), .int .i64 ba, .int .i64 ix, .bool hb, .bool hi, .int .i64 dp, .int .i64 lb] 32)).heap.size := by simp
    rw [heap_alloc_old _ _ (by simp), e]
    exact heap_alloc_new _ _
  obtain ⟨q0, q1, q2, q3, q4, q5, q6, q7, q8, q9, q10, q11, q12⟩ := box13 hR
  simp [results, Tryz.f122, go_sem, q0, q1, q2, q3, q4, q5, q6, q7, q8, q9, q10, q11, q12]
set_option maxRecDepth 100000 in
set_option maxHeartbeats 4000000 in
theorem strip5_any (op bn sh cd ds sr : Int) (im : Nat) (ba ix : Int) (hb hi : Bool) (dp lb : Int) (w : World) : Calls Tryz.prog 122 #[.agg #[.int .i64 op, .int .i64 bn, .int .i64 sh, .int .i64 cd, .int .i64 ds, .int .i64 sr, .int .u64 (im : Int), .int .i64 ba, .int .i64 ix, .bool hb, .bool hi, .int .i64 dp, .int .i64 lb], .int .i64 5] w (InPost (strip ⟨op, bn, sh, cd, ds, sr, im, ba, ix, hb, hi, dp, lb⟩ 5) w) := by
  go_enter Tryz.func122, Tryz.ntmps122
  go_wp2
  refine bodyPost_ret (v := .agg #[.int .i64 op, .int .i64 0, .int .i64 0, .int .i64 0, .int .i64 ds, .int .i64 0, .int .u64 (im : Int), .int .i64 0, .int .i64 0, .bool false, .bool false, .int .i64 0, .int .i64 0]) ?_ rfl ⟨by rfl, ((below_new w _).alloc (by simp) _).alloc (by simp; omega) _⟩
  have hR : (((w.alloc (.cells #[.int .i64 op, .int .i64 bn, .int .i64 sh, .int .i64 cd, .int .i64 ds, .int .i64 sr, .int .u64 (im : Int), .int .i64 ba, .int .i64 ix, .bool hb, .bool hi, .int .i64 dp, .int .i64 lb] 32)).alloc (.cells #[.int .i64 op, .int .i64 0, .int .i64 0, .int .i64 0, .int .i64 ds, .int .i64 0, .int .u64 (im : Int), .int .i64 0, .int .i64 0, .bool false, .bool false, .int .i64 0, .int .i64 0] 32)).alloc (.cells #[.int .i64 op, .int .i64 0, .int .i64 0, .int .i64 0, .int .i64 ds, .int .i64 0, .int .u64 (im : Int), .int .i64 0, .int .i64 0, .bool false, .bool false, .int .i64 0, .int .i64 0] 32)).heap[w.heap.size + 1]? = some (.cells #[.int .i64 op, .int .i64 0, .int .i64 0, .int .i64 0, .int .i64 ds, .int .i64 0, .int .u64 (im : Int), .int .i64 0, .int .i64 0, .bool false, .bool false, .int .i64 0, .int .i64 0] 32 (0, 0)) := by
    have e : w.heap.size + 1 = (w.alloc (.cells #[.int .i64 op, .int .i64 bn, .int .i64 sh, .int .i64 cd, .int .i64 ds, .int .i64 sr, .int .u64 (im : Int), .int .i64 ba, .int .i64 ix, .bool hb, .bool hi, .int .i64 dp, .int .i64 lb] 32)).heap.size := by simp
    rw [heap_alloc_old _ _ (by simp), e]
    exact heap_alloc_new _ _
  obtain ⟨q0, q1, q2, q3, q4, q5, q6, q7, q8, q9, q10, q11, q12⟩ := box13 hR
  simp [results, Tryz.f122, go_sem, q0, q1, q2, q3, q4, q5, q6, q7, q8, q9, q10, q11, q12]
set_option maxRecDepth 100000 in
set_option maxHeartbeats 4000000 in
theorem strip9_any (op bn sh cd ds sr : Int) (im : Nat) (ba ix : Int) (hb hi : Bool) (dp lb : Int) (w : World) : Calls Tryz.prog 122 #[.agg #[.int .i64 op, .int .i64 bn, .int .i64 sh, .int .i64 cd, .int .i64 ds, .int .i64 sr, .int .u64 (im : Int), .int .i64 ba, .int .i64 ix, .bool hb, .bool hi, .int .i64 dp, .int .i64 lb], .int .i64 9] w (InPost (strip ⟨op, bn, sh, cd, ds, sr, im, ba, ix, hb, hi, dp, lb⟩ 9) w) := by
  go_enter Tryz.func122, Tryz.ntmps122
  go_wp2
  refine bodyPost_ret (v := .agg #[.int .i64 op, .int .i64 0, .int .i64 0, .int .i64 0, .int .i64 ds, .int .i64 0, .int .u64 0, .int .i64 ba, .int .i64 ix, .bool hb, .bool hi, .int .i64 dp, .int .i64 0]) ?_ rfl ⟨by rfl, ((below_new w _).alloc (by simp) _).alloc (by simp; omega) _⟩
  have hR : (((w.alloc (.cells #[.int .i64 op, .int .i64 bn, .int .i64 sh, .int .i64 cd, .int .i64 ds, .int .i64 sr, .int .u64 (im : Int), .int .i64 ba, .int .i64 ix, .bool hb, .bool hi, .int .i64 dp, .int .i64 lb] 32)).alloc (.cells #[.int .i64 op, .int .i64 0, .int .i64 0, .int .i64 0, .int .i64 ds, .int .i64 0, .int .u64 0, .int .i64 ba, .int .i64 ix, .bool hb, .bool hi, .int .i64 dp, .int .i64 0] 32)).alloc (.cells #[.int .i64 op, .int .i64 0, .int .i64 0, .int .i64 0, .int .i64 ds, .int .i64 0, .int .u64 0, .int .i64 ba, .int .i64 ix, .bool hb, .bool hi, .int .i64 dp, .int .i64 0] 32)).heap[w.heap.size + 1]? = some (.cells #[.int .i64 op, .int .i64 0, .int .i64 0, .int .i64 0, .int .i64 ds, .int .i64 0, .int .u64 0, .int .i64 ba, .int .i64 ix, .bool hb, .bool hi, .int .i64 dp, .int .i64 0] 32 (0, 0)) := by
    have e : w.heap.size + 1 = (w.alloc (.cells #[.int .i64 op, .int .i64 bn, .int .i64 sh, .int .i64 cd, .int .i64 ds, .int .i64 sr, .int .u64 (im : Int), .int .i64 ba, .int .i64 ix, .bool hb, .bool hi, .int .i64 dp, .int .i64 lb] 32)).heap.size := by simp
    rw [heap_alloc_old _ _ (by simp), e]
    exact heap_alloc_new _ _
  obtain ⟨q0, q1, q2, q3, q4, q5, q6, q7, q8, q9, q10, q11, q12⟩ := box13 hR
  simp [results, Tryz.f122, go_sem, q0, q1, q2, q3, q4, q5, q6, q7, q8, q9, q10, q11, q12]
set_option maxRecDepth 100000 in
set_option maxHeartbeats 4000000 in
theorem strip10_any (op bn sh cd ds sr : Int) (im : Nat) (ba ix : Int) (hb hi : Bool) (dp lb : Int) (w : World) : Calls Tryz.prog 122 #[.agg #[.int .i64 op, .int .i64 bn, .int .i64 sh, .int .i64 cd, .int .i64 ds, .int .i64 sr, .int .u64 (im : Int), .int .i64 ba, .int .i64 ix, .bool hb, .bool hi, .int .i64 dp, .int .i64 lb], .int .i64 10] w (InPost (strip ⟨op, bn, sh, cd, ds, sr, im, ba, ix, hb, hi, dp, lb⟩ 10) w) := by
  go_enter Tryz.func122, Tryz.ntmps122
  go_wp2
  refine bodyPost_ret (v := .agg #[.int .i64 op, .int .i64 0, .int .i64 0, .int .i64 0, .int .i64 0, .int .i64 sr, .int .u64 0, .int .i64 ba, .int .i64 ix, .bool hb, .bool hi, .int .i64 dp, .int .i64 0]) ?_ rfl ⟨by rfl, ((below_new w _).alloc (by simp) _).alloc (by simp; omega) _⟩
  have hR : (((w.alloc (.cells #[.int .i64 op, .int .i64 bn, .int .i64 sh, .int .i64 cd, .int .i64 ds, .int .i64 sr, .int .u64 (im : Int), .int .i64 ba, .int .i64 ix, .bool hb, .bool hi, .int .i64 dp, .int .i64 lb] 32)).alloc (.cells #[.int .i64 op, .int .i64 0, .int .i64 0, .int .i64 0, .int .i64 0, .int .i64 sr, .int .u64 0, .int .i64 ba, .int .i64 ix, .bool hb, .bool hi, .int .i64 dp, .int .i64 0] 32)).alloc (.cells #[.int .i64 op, .int .i64 0, .int .i64 0, .int .i64 0, .int .i64 0, .int .i64 sr, .int .u64 0, .int .i64 ba, .int .i64 ix, .bool hb, .bool hi, .int .i64 dp, .int .i64 0] 32)).heap[w.heap.size + 1]? = some (.cells #[.int .i64 op, .int .i64 0, .int .i64 0, .int .i64 0, .int .i64 0, .int .i64 sr, .int .u64 0, .int .i64 ba, .int .i64 ix, .bool hb, .bool hi, .int .i64 dp, .int .i64 0] 32 (0, 0)) := by
    have e : w.heap.size + 1 = (w.alloc (.cells #[.int .i64 op, .int .i64 bn, .int .i64 sh, .int .i64 cd, .int .i64 ds, .int .i64 sr, .int .u64 (im : Int), .int .i64 ba, .int .i64 ix, .bool hb, .bool hi, .int .i64 dp, .int .i64 lb] 32)).heap.size := by simp
    rw [heap_alloc_old _ _ (by simp), e]
    exact heap_alloc_new _ _
  obtain ⟨q0, q1, q2, q3, q4, q5, q6, q7, q8, q9, q10, q11, q12⟩ := box13 hR
  simp [results, Tryz.f122, go_sem, q0, q1, q2, q3, q4, q5, q6, q7, q8, q9, q10, q11, q12]
set_option maxRecDepth 100000 in
set_option maxHeartbeats 4000000 in
theorem strip19_any (op bn sh cd ds sr : Int) (im : Nat) (ba ix : Int) (hb hi : Bool) (dp lb : Int) (w : World) : Calls Tryz.prog 122 #[.agg #[.int .i64 op, .int .i64 bn, .int .i64 sh, .int .i64 cd, .int .i64 ds, .int .i64 sr, .int .u64 (im : Int), .int .i64 ba, .int .i64 ix, .bool hb, .bool hi, .int .i64 dp, .int .i64 lb], .int .i64 19] w (InPost (strip ⟨op, bn, sh, cd, ds, sr, im, ba, ix, hb, hi, dp, lb⟩ 19) w) := by
  go_enter Tryz.func122, Tryz.ntmps122
  go_wp2
  refine bodyPost_ret (v := .agg #[.int .i64 op, .int .i64 bn, .int .i64 0, .int .i64 0, .int .i64 ds, .int .i64 sr, .int .u64 0, .int .i64 0, .int .i64 0, .bool false, .bool false, .int .i64 0, .int .i64 0]) ?_ rfl ⟨by rfl, ((below_new w _).alloc (by simp) _).alloc (by simp; omega) _⟩
  have hR : (((w.alloc (.cells #[.int .i64 op, .int .i64 bn, .int .i64 sh, .int .i64 cd, .int .i64 ds, .int .i64 sr, .int .u64 (im : Int), .int .i64 ba, .int .i64 ix, .bool hb, .bool hi, .int .i64 dp, .int .i64 lb] 32)).alloc (.cells #[.int .i64 op, .int .i64 bn, .int .i64 0, .int .i64 0, .int .i64 ds, .int .i64 sr, .int .u64 0, .int .i64 0, .int .i64 0, .bool false, .bool false, .int .i64 0, .int .i64 0] 32)).alloc (.cells #[.int .i64 op, .int .i64 bn, .int .i64 0, .int .i64 0, .int .i64 ds, .int .i64 sr, .int .u64 0, .int .i64 0, .int .i64 0, .bool false, .bool false, .int .i64 0, .int .i64 0] 32)).heap[w.heap.size + 1]? = some (.cells #[.int .i64 op, .int .i64 bn, .int .i64 0, .int .i64 0, .int .i64 ds, .int .i64 sr, .int .u64 0, .int .i64 0, .int .i64 0, .bool false, .bool false, .int .i64 0, .int .i64 0] 32 (0, 0)) := by
    have e : w.heap.size + 1 = (w.alloc (.cells #[.int .i64 op, .int .i64 bn, .int .i64 sh, .int .i64 cd, .int .i64 ds, .int .i64 sr, .int .u64 (im : Int), .int .i64 ba, .int .i64 ix, .bool hb, .bool hi, .int .i64 dp, .int .i64 lb] 32)).heap.size := by simp
    rw [heap_alloc_old _ _ (by simp), e]
    exact heap_alloc_new _ _
  obtain ⟨q0, q1, q2, q3, q4, q5, q6, q7, q8, q9, q10, q11, q12⟩ := box13 hR
  simp [results, Tryz.f122, go_sem, q0, q1, q2, q3, q4, q5, q6, q7, q8, q9, q10, q11, q12]
set_option maxRecDepth 100000 in
set_option maxHeartbeats 4000000 in
theorem strip21_any (op bn sh cd ds sr : Int) (im : Nat) (ba ix : Int) (hb hi : Bool) (dp lb : Int) (w : World) : Calls Tryz.prog 122 #[.agg #[.int .i64 op, .int .i64 bn, .int .i64 sh, .int .i64 cd, .int .i64 ds, .int .i64 sr, .int .u64 (im : Int), .int .i64 ba, .int .i64 ix, .bool hb, .bool hi, .int .i64 dp, .int .i64 lb], .int .i64 21] w (InPost (strip ⟨op, bn, sh, cd, ds, sr, im, ba, ix, hb, hi, dp, lb⟩ 21) w) := by
  go_enter Tryz.func122, Tryz.ntmps122
  go_wp2
  refine bodyPost_ret (v := .agg #[.int .i64 op, .int .i64 bn, .int .i64 0, .int .i64 0, .int .i64 ds, .int .i64 0, .int .u64 (im : Int), .int .i64 0, .int .i64 0, .bool false, .bool false, .int .i64 0, .int .i64 0]) ?_ rfl ⟨by rfl, ((below_new w _).alloc (by simp) _).alloc (by simp; omega) _⟩
  have hR : (((w.alloc (.cells #[.int .i64 op, .int .i64 bn, .int .i64 sh, .int .i64 cd, .int .i64 ds, .int .i64 sr, .int .u64 (im : Int), .int .i64 ba, .int .i64 ix, .bool hb, .bool hi, .int .i64 dp, .int .i64 lb] 32)).alloc (.cells #[.int .i64 op, .int .i64 bn, .int .i64 0, .int .i64 0, .int .i64 ds, .int .i64 0, .int .u64 (im : Int), .int .i64 0, .int .i64 0, .bool false, .bool false, .int .i64 0, .int .i64 0] 32)).alloc (.cells #[.int .i64 op, .int .i64 bn, .int .i64 0, .int .i64 0, .int .i64 ds, .int .i64 0, .int .u64 (im : Int), .int .i64 0, .int .i64 0, .bool false, .bool false, .int .i64 0, .int .i64 0] 32)).heap[w.heap.size + 1]? = some (.cells #[.int .i64 op, .int .i64 bn, .int .i64 0, .int .i64 0, .int .i64 ds, .int .i64 0, .int .u64 (im : Int), .int .i64 0, .int .i64 0, .bool false, .bool false, .int .i64 0, .int .i64 0] 32 (0, 0)) := by
    have e : w.heap.size + 1 = (w.alloc (.cells #[.int .i64 op, .int .i64 bn, .int .i64 sh, .int .i64 cd, .int .i64 ds, .int .i64 sr, .int .u64 (im : Int), .int .i64 ba, .int .i64 ix, .bool hb, .bool hi, .int .i64 dp, .int .i64 lb] 32)).heap.size := by simp
    rw [heap_alloc_old _ _ (by simp), e]
    exact heap_alloc_new _ _
  obtain ⟨q0, q1, q2, q3, q4, q5, q6, q7, q8, q9, q10, q11, q12⟩ := box13 hR
  simp [results, Tryz.f122, go_sem, q0, q1, q2, q3, q4, q5, q6, q7, q8, q9, q10, q11, q12]
set_option maxRecDepth 100000 in
set_option maxHeartbeats 4000000 in
theorem strip33_any (op bn sh cd ds sr : Int) (im : Nat) (ba ix : Int) (hb hi : Bool) (dp lb : Int) (w : World) : Calls Tryz.prog 122 #[.agg #[.int .i64 op, .int .i64 bn, .int .i64 sh, .int .i64 cd, .int .i64 ds, .int .i64 sr, .int .u64 (im : Int), .int .i64 ba, .int .i64 ix, .bool hb, .bool hi, .int .i64 dp, .int .i64 lb], .int .i64 33] w (InPost (strip ⟨op, bn, sh, cd, ds, sr, im, ba, ix, hb, hi, dp, lb⟩ 33) w) := by
  go_enter Tryz.func122, Tryz.ntmps122
  go_wp2
  refine bodyPost_ret (v := .agg #[.int .i64 op, .int .i64 0, .int .i64 sh, .int .i64 0, .int .i64 ds, .int .i64 0, .int .u64 0, .int .i64 0, .int .i64 0, .bool false, .bool false, .int .i64 0, .int .i64 0]) ?_ rfl ⟨by rfl, ((below_new w _).alloc (by simp) _).alloc (by simp; omega) _⟩
  have hR : (((w.alloc (.cells #[.int .i64 op, .int .i64 bn, .int .i64 sh, .int .i64 cd, .int .i64 ds, .int .i64 sr, .int .u64 (im : Int), .int .i64 ba, .int .i64 ix, .bool hb, .bool hi, .int .i64 dp, .int .i64 lb] 32)).alloc (.cells #[.int .i64 op, .int .i64 0, .int .i64 sh, .int .i64 0, .int .i64 ds, .int .i64 0, .int .u64 0, .int .i64 0, .int .i64 0, .bool false, .bool false, .int .i64 0, .int .i64 0] 32)).alloc (.cells #[.int .i64 op, .int .i64 0, .int .i64 sh, .int .i64 0, .int .i64 ds, .int .i64 0, .int .u64 0, .int .i64 0, .int .i64 0, .bool false, .bool false, .int .i64 0, .int .i64 0] 32)).heap[w.heap.size + 1]? = some (.cells #[.int .i64 op, .int .i64 0, .int .i64 sh, .int .i64 0, .int .i64 ds, .int .i64 0, .int .u64 0, .int .i64 0, .int .i64 0, .bool false, .bool false, .int .i64 0, .int .i64 0] 32 (0, 0)) := by
    have e : w.heap.size + 1 = (w.alloc (.cells #[.int .i64 op, .int .i64 bn, .int .i64 sh, .int .i64 cd, .int .i64 ds, .int .i64 sr, .int .u64 (im : Int), .int .i64 ba, .int .i64 ix, .bool hb, .bool hi, .int .i64 dp, .int .i64 lb] 32)).heap.size := by simp
    rw [heap_alloc_old _ _ (by simp), e]
    exact heap_alloc_new _ _
  obtain ⟨q0, q1, q2, q3, q4, q5, q6, q7, q8, q9, q10, q11, q12⟩ := box13 hR
  simp [results, Tryz.f122, go_sem, q0, q1, q2, q3, q4, q5, q6, q7, q8, q9, q10, q11, q12]
set_option maxRecDepth 100000 in
set_option maxHeartbeats 4000000 in
theorem strip37_any (op bn sh cd ds sr : Int) (im : Nat) (ba ix : Int) (hb hi : Bool) (dp lb : Int) (w : World) : Calls Tryz.prog 122 #[.agg #[.int .i64 op, .int .i64 bn, .int .i64 sh, .int .i64 cd, .int .i64 ds, .int .i64 sr, .int .u64 (im : Int), .int .i64 ba, .int .i64 ix, .bool hb, .bool hi, .int .i64 dp, .int .i64 lb], .int .i64 37] w (InPost (strip ⟨op, bn, sh, cd, ds, sr, im, ba, ix, hb, hi, dp, lb⟩ 37) w) := by
  go_enter Tryz.func122, Tryz.ntmps122
  go_wp2
  refine bodyPost_ret (v := .agg #[.int .i64 op, .int .i64 0, .int .i64 sh, .int .i64 0, .int .i64 ds, .int .i64 0, .int .u64 (im : Int), .int .i64 0, .int .i64 0, .bool false, .bool false, .int .i64 0, .int .i64 0]) ?_ rfl ⟨by rfl, ((below_new w _).alloc (by simp) _).alloc (by simp; omega) _⟩
  have hR : (((w.alloc (.cells #[.int .i64 op, .int .i64 bn, .int .i64 sh, .int .i64 cd, .int .i64 ds, .int .i64 sr, .int .u64 (im : Int), .int .i64 ba, .int .i64 ix, .bool hb, .bool hi, .int .i64 dp, .int .i64 lb] 32)).alloc (.cells #[.int .i64 op, .int .i64 0, .int .i64 sh, .int .i64 0, .int .i64 ds, .int .i64 0, .int .u64 (im : Int), .int .i64 0, .int .i64 0, .bool false, .bool false, .int .i64 0, .int .i64 0] 32)).alloc (.cells #[.int .i64 op, .int .i64 0, .int .i64 sh, .int .i64 0, .int .i64 ds, .int .i64 0, .int .u64 (im : Int), .int .i64 0, .int .i64 0, .bool false, .bool false, .int .i64 0, .int .i64 0] 32)).heap[w.heap.size + 1]? = some (.cells #[.int .i64 op, .int .i64 0, .int .i64 sh, .int .i64 0, .int .i64 ds, .int .i64 0, .int .u64 (im : Int), .int .i64 0, .int .i64 0, .bool false, .bool false, .int .i64 0, .int .i64 0] 32 (0, 0)) := by
    have e : w.heap.size + 1 = (w.alloc (.cells #[.int .i64 op, .int .i64 bn, .int .i64 sh, .int .i64 cd, .int .i64 ds, .int .i64 sr, .int .u64 (im : Int), .int .i64 ba, .int .i64 ix, .bool hb, .bool hi, .int .i64 dp, .int .i64 lb] 32)).heap.size := by simp
    rw [heap_alloc_old _ _ (by simp), e]
    exact heap_alloc_new _ _
  obtain ⟨q0, q1, q2, q3, q4, q5, q6, q7, q8, q9, q10, q11, q12⟩ := box13 hR
  simp [results, Tryz.f122, go_sem, q0, q1, q2, q3, q4, q5, q6, q7, q8, q9, q10, q11, q12]
set_option maxRecDepth 100000 in
set_option maxHeartbeats 4000000 in
theorem strip65_any (op bn sh cd ds sr : Int) (im : Nat) (ba ix : Int) (hb hi : Bool) (dp lb : Int) (w : World) : Calls Tryz.prog 122 #[.agg #[.int .i64 op, .int .i64 bn, .int .i64 sh, .int .i64 cd, .int .i64 ds, .int .i64 sr, .int .u64 (im : Int), .int .i64 ba, .int .i64 ix, .bool hb, .bool hi, .int .i64 dp, .int .i64 lb], .int .i64 65] w (InPost (strip ⟨op, bn, sh, cd, ds, sr, im, ba, ix, hb, hi, dp, lb⟩ 65) w) := by
  go_enter Tryz.func122, Tryz.ntmps122
  go_wp2
  refine bodyPost_ret (v := .agg #[.int .i64 op, .int .i64 0, .int .i64 0, .int .i64 cd, .int .i64 ds, .int .i64 0, .int .u64 0, .int .i64 0, .int .i64 0, .bool false, .bool false, .int .i64 0, .int .i64 0]) ?_ rfl ⟨by rfl, ((below_new w _).alloc (by simp) _).alloc (by simp; omega) _⟩
  have hR : (((w.alloc (.cells #[.int .i64 op, .int .i64 bn, .int .i64 sh, .int .i64 cd, .int .i64 ds, .int .i64 sr, .int .u64 (im : Int), .int .i64 ba, .int .i64 ix, .bool hb, .bool hi, .int .i64 dp, .int .i64 lb] 32)).alloc (.cells #[.int .i64 op, .int .i64 0, .int .i64 0, .int .i64 cd, .int .i64 ds, .int .i64 0, .int .u64 0, .int .i64 0, .int .i64 0, .bool false, .bool false, .int .i64 0, .int .i64 0] 32)).alloc (.cells #[.int .i64 op, .int .i64 0, .int .i64 0, .int .i64 cd, .int .i64 ds, .int .i64 0, .int .u64 0, .int .i64 0, .int .i64 0, .bool false, .bool false, .int .i64 0, .int .i64 0] 32)).heap[w.heap.size + 1]? = some (.cells #[.int .i64 op, .int .i64 0, .int .i64 0, .int .i64 cd, .int .i64 ds, .int .i64 0, .int .u64 0, .int .i64 0, .int .i64 0, .bool false, .bool false, .int .i64 0, .int .i64 0] 32 (0, 0)) := by
    have e : w.heap.size + 1 = (w.alloc (.cells #[.int .i64 op, .int .i64 bn, .int .i64 sh, .int .i64 cd, .int .i64 ds, .int .i64 sr, .int .u64 (im : Int), .int .i64 ba, .int .i64 ix, .bool hb, .bool hi, .int .i64 dp, .int .i64 lb] 32)).heap.size := by simp
    rw [heap_alloc_old _ _ (by simp), e]
    exact heap_alloc_new _ _
  obtain ⟨q0, q1, q2, q3, q4, q5, q6, q7, q8, q9, q10, q11, q12⟩ := box13 hR
  simp [results, Tryz.f122, go_sem, q0, q1, q2, q3, q4, q5, q6, q7, q8, q9, q10, q11, q12]
set_option maxRecDepth 100000 in
set_option maxHeartbeats 4000000 in
theorem strip67_any (op bn sh cd ds sr : Int) (im : Nat) (ba ix : Int) (hb hi : Bool) (dp lb : Int) (w : World) : Calls Tryz.prog 122 #[.agg #[.int .i64 op, .int .i64 bn, .int .i64 sh, .int .i64 cd, .int .i64 ds, .int .i64 sr, .int .u64 (im : Int), .int .i64 ba, .int .i64 ix, .bool hb, .bool hi, .int .i64 dp, .int .i64 lb], .int .i64 67] w (InPost (strip ⟨op, bn, sh, cd, ds, sr, im, ba, ix, hb, hi, dp, lb⟩ 67) w) := by
  go_enter Tryz.func122, Tryz.ntmps122
  go_wp2
  refine bodyPost_ret (v := .agg #[.int .i64 op, .int .i64 0, .int .i64 0, .int .i64 cd, .int .i64 ds, .int .i64 sr, .int .u64 0, .int .i64 0, .int .i64 0, .bool false, .bool false, .int .i64 0, .int .i64 0]) ?_ rfl ⟨by rfl, ((below_new w _).alloc (by simp) _).alloc (by simp; omega) _⟩
  have hR : (((w.alloc (.cells #[.int .i64 op, .int .i64 bn, .int .i64 sh, .int .i64 cd, .int .i64 ds, .int .i64 sr, .int .u64 (im : Int), .int .i64 ba, .int .i64 ix, .bool hb, .bool hi, .int .i64 dp, .int .i64 lb] 32)).alloc (.cells #[.int .i64 op, .int .i64 0, .int .i64 0, .int .i64 cd, .int .i64 ds, .int .i64 sr, .int .u64 0, .int .i64 0, .int .i64 0, .bool false, .bool false, .int .i64 0, .int .i64 0] 32)).alloc (.cells #[.int .i64 op, .int .i64 0, .int .i64 0, .int .i64 cd, .int .i64 ds, .int .i64 sr, .int .u64 0, .int .i64 0, .int .i64 0, .bool false, .bool false, .int .i64 0, .int .i64 0] 32)).heap[w.heap.size + 1]? = some (.cells #[.int .i64 op, .int .i64 0, .int .i64 0, .int .i64 cd, .int .i64 ds, .int .i64 sr, .int .u64 0, .int .i64 0, .int .i64 0, .bool false, .bool false, .int .i64 0, .int .i64 0] 32 (0, 0)) := by
    have e : w.heap.size + 1 = (w.alloc (.cells #[.int .i64 op, .int .i64 bn, .int .i64 sh, .int .i64 cd, .int .i64 ds, .int .i64 sr, .int .u64 (im : Int), .int .i64 ba, .int .i64 ix, .bool hb, .bool hi, .int .i64 dp, .int .i64 lb] 32)).heap.size := by simp
    rw [heap_alloc_old _ _ (by simp), e]
    exact heap_alloc_new _ _
  obtain ⟨q0, q1, q2, q3, q4, q5, q6, q7, q8, q9, q10, q11, q12⟩ := box13 hR
  simp [results, Tryz.f122, go_sem, q0, q1, q2, q3, q4, q5, q6, q7, q8, q9, q10, q11, q12]
set_option maxRecDepth 100000 in
set_option maxHeartbeats 4000000 in
theorem strip128_any (op bn sh cd ds sr : Int) (im : Nat) (ba ix : Int) (hb hi : Bool) (dp lb : Int) (w : World) : Calls Tryz.prog 122 #[.agg #[.int .i64 op, .int .i64 bn, .int .i64 sh, .int .i64 cd, .int .i64 ds, .int .i64 sr, .int .u64 (im : Int), .int .i64 ba, .int .i64 ix, .bool hb, .bool hi, .int .i64 dp, .int .i64 lb], .int .i64 128] w (InPost (strip ⟨op, bn, sh, cd, ds, sr, im, ba, ix, hb, hi, dp, lb⟩ 128) w) := by
  go_enter Tryz.func122, Tryz.ntmps122
  go_wp2
  refine bodyPost_ret (v := .agg #[.int .i64 op, .int .i64 0, .int .i64 0, .int .i64 0, .int .i64 0, .int .i64 0, .int .u64 0, .int .i64 0, .int .i64 0, .bool false, .bool false, .int .i64 0, .int .i64 lb]) ?_ rfl ⟨by rfl, ((below_new w _).alloc (by simp) _).alloc (by simp; omega) _⟩
  have hR : (((w.alloc (.cells #[.int .i64 op, .int .i64 bn, .int .i64 sh, .int .i64 cd, .int .i64 ds, .int .i64 sr, .int .u64 (im : Int), .int .i64 ba, .int .i64 ix, .bool hb, .bool hi, .int .i64 dp, .int .i64 lb] 32)).alloc (.cells #[.int .i64 op, .int .i64 0, .int .i64 0, .int .i64 0, .int .i64 0, .int .i64 0, .int .u64 0, .int .i64 0, .int .i64 0, .bool false, .bool false, .int .i64 0, .int .i64 lb] 32)).alloc (.cells #[.int .i64 op, .int .i64 0, .int .i64 0, .int .i64 0, .int .i64 0, .int .i64 0, .int .u64 0, .int .i64 0, .int .i64 0, .bool false, .bool false, .int .i64 0, .int .i64 lb] 32)).heap[w.heap.size + 1]? = some (.cells #[.int .i64 op, .int .i64 0, .int .i64 0, .int .i64 0, .int .i64 0, .int .i64 0, .int .u64 0, .int .i64 0, .int .i64 0, .bool false, .bool false, .int .i64 0, .int .i64 lb] 32 (0, 0)) := by
    have e : w.heap.size + 1 = (w.alloc (.cells #[.int .i64 op, .int .i64 bn, .int .i64 sh, .int .i64 cd, .int .i64 ds, .int .i64 sr, .int .u64 (im : Int), .int .i64 ba, .int .i64 ix, .bool hb, .bool hi, .int .i64 dp, .int .i64 lb] 32)).heap.size := by simp
    rw [heap_alloc_old _ _ (by simp), e]
    exact heap_alloc_new _ _
  obtain ⟨q0, q1, q2, q3, q4, q5, q6, q7, q8, q9, q10, q11, q12⟩ := box13 hR
  simp [results, Tryz.f122, go_sem, q0, q1, q2, q3, q4, q5, q6, q7, q8, q9, q10, q11, q12]
set_option maxRecDepth 100000 in
set_option maxHeartbeats 4000000 in
theorem strip192_any (op bn sh cd ds sr : Int) (im : Nat) (ba ix : Int) (hb hi : Bool) (dp lb : Int) (w : World) : Calls Tryz.prog 122 #[.agg #[.int .i64 op, .int .i64 bn, .int .i64 sh, .int .i64 cd, .int .i64 ds, .int .i64 sr, .int .u64 (im : Int), .int .i64 ba, .int .i64 ix, .bool hb, .bool hi, .int .i64 dp, .int .i64 lb], .int .i64 192] w (InPost (strip ⟨op, bn, sh, cd, ds, sr, im, ba, ix, hb, hi, dp, lb⟩ 192) w) := by
  go_enter Tryz.func122, Tryz.ntmps122
  go_wp2
  refine bodyPost_ret (v := .agg #[.int .i64 op, .int .i64 0, .int .i64 0, .int .i64 cd, .int .i64 0, .int .i64 0, .int .u64 0, .int .i64 0, .int .i64 0, .bool false, .bool false, .int .i64 0, .int .i64 lb]) ?_ rfl ⟨by rfl, ((below_new w _).alloc (by simp) _).alloc (by simp; omega) _⟩
  have hR : (((w.alloc (.cells #[.int .i64 op, .int .i64 bn, .int .i64 sh, .int .i64 cd, .int .i64 ds, .int .i64 sr, .int .u64 (im : Int), .int .i64 ba, .int .i64 ix, .bool hb, .bool hi, .int .i64 dp, .int .i64 lb] 32)).alloc (.cells #[.int .i64 op, .int .i64 0, .int .i64 0, .int .i64 cd, .int .i64 0, .int .i64 0, .int .u64 0, .int .i64 0, .int .i64 0, .bool false, .bool false, .int .i64 0, .int .i64 lb] 32)).alloc (.cells #[.int .i64 op, .int .i64 0, .int .i64 0, .int .i64 cd, .int .i64 0, .int .i64 0, .int .u64 0, .int .i64 0, .int .i64 0, .bool false, .bool false, .int .i64 0, .int .i64 lb] 32)).heap[w.heap.size + 1]? = some (.cells #[.int .i64 op, .int .i64 0, .int .i64 0, .int .i64 cd, .int .i64 0, .int .i64 0, .int .u64 0, .int .i64 0, .int .i64 0, .bool false, .bool false, .int .i64 0, .int .i64 lb] 32 (0, 0)) := by
    have e : w.heap.size + 1 = (w.alloc (.cells #[.int .i64 op, .int .i64 bn, .int .i64 sh, .int .i64 cd, .int .i64 ds, .int .i64 sr, .int .u64 (im : Int), .int .i64 ba, .int .i64 ix, .bool hb, .bool hi, .int .i64 dp, .int .i64 lb] 32)).heap.size := by simp
    rw [heap_alloc_old _ _ (by simp), e]
    exact heap_alloc_new _ _
  obtain ⟨q0, q1, q2, q3, q4, q5, q6, q7, q8, q9, q10, q11, q12⟩ := box13 hR
  simp [results, Tryz.f122, go_sem, q0, q1, q2, q3, q4, q5, q6, q7, q8, q9, q10, q11, q12]
end Go.Proofs.YtmimmnjdgpdjlaaGreatDoor
