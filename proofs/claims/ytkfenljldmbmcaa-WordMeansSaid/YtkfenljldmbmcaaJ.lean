/- The contract of the reference's Do. -/
import Derived.Test.YtkfenljldmbmcaaI
set_option linter.unusedSimpArgs false
set_option linter.unusedVariables false
namespace Go.Proofs.Ytkfenljldmbmcaa
open Go.RowKit Go.MapKept

theorem addK_low {wd A B : Int} (hA : 0 ≤ A) (hA1 : A < 2 ^ wd.toNat) (hB : 0 ≤ B) (hB1 : B < 2 ^ wd.toNat) (c : Bool) : addK A B c wd.toNat = A + B + b2i c := by
  unfold addK b2i
  rw [Int.emod_eq_of_lt hA hA1, Int.emod_eq_of_lt hB hB1]
theorem add_sum (wd a b : Int) (c : Bool) (cr : Int) (hcr : b2i c = cr) (w : World) (hw : MayW wd) :
    Calls Try.prog 43 #[.int .i64 wd, .int .u64 (lowI wd a), .int .u64 (lowI wd b), .bool c] w fun e w' =>
      e = .returned (.tuple #[.int .u64 (sumO wd (lowI wd a) (lowI wd b) cr), .bool (sumC wd (lowI wd a) (lowI wd b) cr)]) ∧ w = w' := by
  subst hcr
  refine (add_any wd _ _ c w hw (low_lt hw) (low_lt hw)).mono fun _ _ ⟨he, hn⟩ => ⟨?_, hn⟩
  rw [he, addK_low (low_bd wd a).1 (low_bd wd a).2 (low_bd wd b).1 (low_bd wd b).2]
  rfl
theorem add_sub (wd a b : Int) (c d : Bool) (cr : Int) (hd : d = !c) (hcr : b2i c = cr) (w : World) (hw : MayW wd) :
    Calls Try.prog 43 #[.int .i64 wd, .int .u64 (lowI wd a), .int .u64 (lowI wd (18446744073709551615 - lowI wd b)), .bool d] w fun e w' =>
      e = .returned (.tuple #[.int .u64 (subO wd (lowI wd a) (lowI wd b) cr), .bool (!subC (lowI wd a) (lowI wd b) cr)]) ∧ w = w' := by
  subst hcr hd
  refine (add_any wd _ _ (!c) w hw (low_lt hw) (low_lt hw)).mono fun _ _ ⟨he, hn⟩ => ⟨?_, hn⟩
  rw [he, addK_low (low_bd wd a).1 (low_bd wd a).2 (low_bd wd _).1 (low_bd wd _).2]
  obtain ⟨h0, h1⟩ := low_bd wd a
  obtain ⟨h2, h3⟩ := low_bd wd b
  generalize lowI wd a = A at *
  generalize lowI wd b = B at *
  have hl : lowI wd (18446744073709551615 - B) = 2 ^ wd.toNat - 1 - B := by
    unfold lowI
    rcases hw with rfl | rfl | rfl | rfl <;> simp at * <;> omega
  have hp := two_pow_pos wd.toNat
  have hc : b2i (!c) = 1 - b2i c := by cases c <;> rfl
  have hc2 : 0 ≤ b2i c ∧ b2i c ≤ 1 := by cases c <;> simp [b2i]
  rw [hl, hc]
  generalize b2i c = k at *
  unfold subO subC
  generalize (2 : Int) ^ wd.toNat = m at *
  have e1 : (A + (m - 1 - B) + (1 - k)) = (A - B - k) + m * 1 := by omega
  have e2 : (A + (m - 1 - B) + (1 - k)) % m = (A - B - k) % m := by rw [e1, Int.add_mul_emod_self_left]
  have e3 : decide ((A + (m - 1 - B) + (1 - k)) / m = 1) = !decide (A < B + k) := by
    rw [e1, Int.add_mul_ediv_left _ _ (by omega)]
    by_cases hlt : A < B + k
    · have : (A - B - k) / m = -1 := ediv_of _ m (-1) (A - B - k + m) (by omega) (by omega) (by omega)
      rw [this]; simp [hlt]
    · have : (A - B - k) / m = 0 := Int.ediv_eq_zero_of_lt (by omega) (by omega)
      rw [this]; simp [hlt]
  rw [e2, e3]
theorem wrap_u (x : Int) : U64 (IntKind.u64.wrap x) := by rw [IntKind.wrap_u64]; exact ⟨by omega, by omega⟩
theorem mulO_wrap {wd : Int} (hw : MayW wd) (A B : Int) : lowI wd (IntKind.u64.wrap (A * B)) = mulO wd A B := by
  rw [prodS_low hw, IntKind.wrap_u64, low_mod hw]; rfl
def RefPost (wd O : Int) (C V : Bool) (w : World) (e : Ending) (w' : World) : Prop :=
  e = .returned (.tuple #[.int .u64 O, .agg #[.bool C, .bool (O == 0), .bool (topB wd O), .bool V, .bool (parB O)]]) ∧ Below w.heap.size w w'
theorem neg_u {b : Int} (h : U64 b) : U64 (18446744073709551615 - b) := by obtain ⟨h0, h1⟩ := h; exact ⟨by omega, by omega⟩

set_option maxHeartbeats 1000000 in
theorem refDo_1f (wd a b : Int) (z s o p : Bool) (w : World) (hw : MayW wd) (h : U64 a) (hb : U64 b) :
    Calls Try.prog 20 #[.int .i64 1, .int .i64 wd, .int .u64 a, .int .u64 b, .agg #[.bool false, .bool z, .bool s, .bool o, .bool p]] w (RefPost wd (sumO wd (lowI wd a) (lowI wd b) 0) (sumC wd (lowI wd a) (lowI wd b) 0) (sumV wd (lowI wd a) (lowI wd b) 0) w) := by
  have hp1 : 1 ≤ wd := by rcases hw with rfl | rfl | rfl | rfl <;> omega
  have hp2 : wd ≤ 64 := by rcases hw with rfl | rfl | rfl | rfl <;> omega
  have hA : U64 (lowI wd a) := low_lt hw
  have hB : U64 (lowI wd b) := low_lt hw
  have hO : U64 (sumO wd (lowI wd a) (lowI wd b) 0) := sumO_u hw _ _ _
  go_enter Try.func20, Try.ntmps20
  go_wp2_with (first | (go_at_call 44; refine (Top_any _ _ _ hp1 hp2 (by assumption)).mono ?_; rintro e w1 ⟨rfl, rfl⟩) | (go_at_call 32; refine (Low_any _ _ _ hw (by assumption)).mono ?_; rintro e w1 ⟨rfl, rfl⟩) | (go_at_call 43; refine (add_sum wd a b false 0 rfl _ hw).mono ?_; rintro e w1 ⟨rfl, rfl⟩))
  all_goals
    refine (By_any _ _ _ _ _ _ _ _ hp1 hp2 hO).mono ?_
    rintro e w3 ⟨rfl, hb3⟩
    have hz5 := hb3.size
    have hz6 : w.heap.size + 2 < w3.heap.size := by simp at hz5; omega
    have hblk : w3.heap[w.heap.size + 1]? = some (.cells #[.bool false, .bool false, .bool false, .bool false, .bool false] 34 (0, 0)) := by
      rw [hb3.block _ (by simp), (heap_alloc _ _).2 _ (by simp)]
      exact two_blocks w _ _
    obtain ⟨g0, g1, g2, g3, g4, f0⟩ := cells5 hblk
    have hfin : Below w.heap.size w w3 := (((Below.refl _ _).alloc (Nat.le_refl _) _).alloc (by simp) _).alloc (by simp; omega) _ |>.trans (hb3.mono (by simp; omega))
    have hfin' := Lib.hid hfin
    clear hb3 hblk hfin hz5
    go_wp2_with fail
    refine bodyPost_ret (v := .tuple #[.int .u64 (sumO wd (lowI wd a) (lowI wd b) 0), .agg #[.bool (sumC wd (lowI wd a) (lowI wd b) 0), .bool (sumO wd (lowI wd a) (lowI wd b) 0 == 0), .bool (topB wd (sumO wd (lowI wd a) (lowI wd b) 0)), .bool (sumV wd (lowI wd a) (lowI wd b) 0), .bool (parB (sumO wd (lowI wd a) (lowI wd b) 0))]]) ?_ rfl ⟨rfl, ?_⟩
    · simp [results, Try.results20, go_sem, g0, g1, g2, g3, g4, sumV, subV, bne, *]
    · exact below_set5 hfin'.out (by omega) _ _ _ _ _

set_option maxHeartbeats 1000000 in
theorem refDo_1t (wd a b : Int) (z s o p : Bool) (w : World) (hw : MayW wd) (h : U64 a) (hb : U64 b) :
    Calls Try.prog 20 #[.int .i64 1, .int .i64 wd, .int .u64 a, .int .u64 b, .agg #[.bool true, .bool z, .bool s, .bool o, .bool p]] w (RefPost wd (sumO wd (lowI wd a) (lowI wd b) 0) (sumC wd (lowI wd a) (lowI wd b) 0) (sumV wd (lowI wd a) (lowI wd b) 0) w) := by
  have hp1 : 1 ≤ wd := by rcases hw with rfl | rfl | rfl | rfl <;> omega
  have hp2 : wd ≤ 64 := by rcases hw with rfl | rfl | rfl | rfl <;> omega
  have hA : U64 (lowI wd a) := low_lt hw
  have hB : U64 (lowI wd b) := low_lt hw
  have hO : U64 (sumO wd (lowI wd a) (lowI wd b) 0) := sumO_u hw _ _ _
  go_enter Try.func20, Try.ntmps20
  go_wp2_with (first | (go_at_call 44; refine (Top_any _ _ _ hp1 hp2 (by assumption)).mono ?_; rintro e w1 ⟨rfl, rfl⟩) | (go_at_call 32; refine (Low_any _ _ _ hw (by assumption)).mono ?_; rintro e w1 ⟨rfl, rfl⟩) | (go_at_call 43; refine (add_sum wd a b false 0 rfl _ hw).mono ?_; rintro e w1 ⟨rfl, rfl⟩))
  all_goals
    refine (By_any _ _ _ _ _ _ _ _ hp1 hp2 hO).mono ?_
    rintro e w3 ⟨rfl, hb3⟩
    have hz5 := hb3.size
    have hz6 : w.heap.size + 2 < w3.heap.size := by simp at hz5; omega
    have hblk : w3.heap[w.heap.size + 1]? = some (.cells #[.bool false, .bool false, .bool false, .bool false, .bool false] 34 (0, 0)) := by
      rw [hb3.block _ (by simp), (heap_alloc _ _).2 _ (by simp)]
      exact two_blocks w _ _
    obtain ⟨g0, g1, g2, g3, g4, f0⟩ := cells5 hblk
    have hfin : Below w.heap.size w w3 := (((Below.refl _ _).alloc (Nat.le_refl _) _).alloc (by simp) _).alloc (by simp; omega) _ |>.trans (hb3.mono (by simp; omega))
    have hfin' := Lib.hid hfin
    clear hb3 hblk hfin hz5
    go_wp2_with fail
    refine bodyPost_ret (v := .tuple #[.int .u64 (sumO wd (lowI wd a) (lowI wd b) 0), .agg #[.bool (sumC wd (lowI wd a) (lowI wd b) 0), .bool (sumO wd (lowI wd a) (lowI wd b) 0 == 0), .bool (topB wd (sumO wd (lowI wd a) (lowI wd b) 0)), .bool (sumV wd (lowI wd a) (lowI wd b) 0), .bool (parB (sumO wd (lowI wd a) (lowI wd b) 0))]]) ?_ rfl ⟨rfl, ?_⟩
    · simp [results, Try.results20, go_sem, g0, g1, g2, g3, g4, sumV, subV, bne, *]
    · exact below_set5 hfin'.out (by omega) _ _ _ _ _

set_option maxHeartbeats 1000000 in
theorem refDo_2f (wd a b : Int) (z s o p : Bool) (w : World) (hw : MayW wd) (h : U64 a) (hb : U64 b) :
    Calls Try.prog 20 #[.int .i64 2, .int .i64 wd, .int .u64 a, .int .u64 b, .agg #[.bool false, .bool z, .bool s, .bool o, .bool p]] w (RefPost wd (sumO wd (lowI wd a) (lowI wd b) 0) (sumC wd (lowI wd a) (lowI wd b) 0) (sumV wd (lowI wd a) (lowI wd b) 0) w) := by
  have hp1 : 1 ≤ wd := by rcases hw with rfl | rfl | rfl | rfl <;> omega
  have hp2 : wd ≤ 64 := by rcases hw with rfl | rfl | rfl | rfl <;> omega
  have hA : U64 (lowI wd a) := low_lt hw
  have hB : U64 (lowI wd b) := low_lt hw
  have hO : U64 (sumO wd (lowI wd a) (lowI wd b) 0) := sumO_u hw _ _ _
  go_enter Try.func20, Try.ntmps20
  go_wp2_with (first | (go_at_call 44; refine (Top_any _ _ _ hp1 hp2 (by assumption)).mono ?_; rintro e w1 ⟨rfl, rfl⟩) | (go_at_call 32; refine (Low_any _ _ _ hw (by assumption)).mono ?_; rintro e w1 ⟨rfl, rfl⟩) | (go_at_call 43; refine (add_sum wd a b false 0 rfl _ hw).mono ?_; rintro e w1 ⟨rfl, rfl⟩))
  all_goals
    refine (By_any _ _ _ _ _ _ _ _ hp1 hp2 hO).mono ?_
    rintro e w3 ⟨rfl, hb3⟩
    have hz5 := hb3.size
    have hz6 : w.heap.size + 2 < w3.heap.size := by simp at hz5; omega
    have hblk : w3.heap[w.heap.size + 1]? = some (.cells #[.bool false, .bool false, .bool false, .bool false, .bool false] 34 (0, 0)) := by
      rw [hb3.block _ (by simp), (heap_alloc _ _).2 _ (by simp)]
      exact two_blocks w _ _
    obtain ⟨g0, g1, g2, g3, g4, f0⟩ := cells5 hblk
    have hfin : Below w.heap.size w w3 := (((Below.refl _ _).alloc (Nat.le_refl _) _).alloc (by simp) _).alloc (by simp; omega) _ |>.trans (hb3.mono (by simp; omega))
    have hfin' := Lib.hid hfin
    clear hb3 hblk hfin hz5
    go_wp2_with fail
    refine bodyPost_ret (v := .tuple #[.int .u64 (sumO wd (lowI wd a) (lowI wd b) 0), .agg #[.bool (sumC wd (lowI wd a) (lowI wd b) 0), .bool (sumO wd (lowI wd a) (lowI wd b) 0 == 0), .bool (topB wd (sumO wd (lowI wd a) (lowI wd b) 0)), .bool (sumV wd (lowI wd a) (lowI wd b) 0), .bool (parB (sumO wd (lowI wd a) (lowI wd b) 0))]]) ?_ rfl ⟨rfl, ?_⟩
    · simp [results, Try.results20, go_sem, g0, g1, g2, g3, g4, sumV, subV, bne, *]
    · exact below_set5 hfin'.out (by omega) _ _ _ _ _

set_option maxHeartbeats 1000000 in
theorem refDo_2t (wd a b : Int) (z s o p : Bool) (w : World) (hw : MayW wd) (h : U64 a) (hb : U64 b) :
    Calls Try.prog 20 #[.int .i64 2, .int .i64 wd, .int .u64 a, .int .u64 b, .agg #[.bool true, .bool z, .bool s, .bool o, .bool p]] w (RefPost wd (sumO wd (lowI wd a) (lowI wd b) 1) (sumC wd (lowI wd a) (lowI wd b) 1) (sumV wd (lowI wd a) (lowI wd b) 1) w) := by
  have hp1 : 1 ≤ wd := by rcases hw with rfl | rfl | rfl | rfl <;> omega
  have hp2 : wd ≤ 64 := by rcases hw with rfl | rfl | rfl | rfl <;> omega
  have hA : U64 (lowI wd a) := low_lt hw
  have hB : U64 (lowI wd b) := low_lt hw
  have hO : U64 (sumO wd (lowI wd a) (lowI wd b) 1) := sumO_u hw _ _ _
  go_enter Try.func20, Try.ntmps20
  go_wp2_with (first | (go_at_call 44; refine (Top_any _ _ _ hp1 hp2 (by assumption)).mono ?_; rintro e w1 ⟨rfl, rfl⟩) | (go_at_call 32; refine (Low_any _ _ _ hw (by assumption)).mono ?_; rintro e w1 ⟨rfl, rfl⟩) | (go_at_call 43; refine (add_sum wd a b true 1 rfl _ hw).mono ?_; rintro e w1 ⟨rfl, rfl⟩))
  all_goals
    refine (By_any _ _ _ _ _ _ _ _ hp1 hp2 hO).mono ?_
    rintro e w3 ⟨rfl, hb3⟩
    have hz5 := hb3.size
    have hz6 : w.heap.size + 2 < w3.heap.size := by simp at hz5; omega
    have hblk : w3.heap[w.heap.size + 1]? = some (.cells #[.bool false, .bool false, .bool false, .bool false, .bool false] 34 (0, 0)) := by
      rw [hb3.block _ (by simp), (heap_alloc _ _).2 _ (by simp)]
      exact two_blocks w _ _
    obtain ⟨g0, g1, g2, g3, g4, f0⟩ := cells5 hblk
    have hfin : Below w.heap.size w w3 := (((Below.refl _ _).alloc (Nat.le_refl _) _).alloc (by simp) _).alloc (by simp; omega) _ |>.trans (hb3.mono (by simp; omega))
    have hfin' := Lib.hid hfin
    clear hb3 hblk hfin hz5
    go_wp2_with fail
    refine bodyPost_ret (v := .tuple #[.int .u64 (sumO wd (lowI wd a) (lowI wd b) 1), .agg #[.bool (sumC wd (lowI wd a) (lowI wd b) 1), .bool (sumO wd (lowI wd a) (lowI wd b) 1 == 0), .bool (topB wd (sumO wd (lowI wd a) (lowI wd b) 1)), .bool (sumV wd (lowI wd a) (lowI wd b) 1), .bool (parB (sumO wd (lowI wd a) (lowI wd b) 1))]]) ?_ rfl ⟨rfl, ?_⟩
    · simp [results, Try.results20, go_sem, g0, g1, g2, g3, g4, sumV, subV, bne, *]
    · exact below_set5 hfin'.out (by omega) _ _ _ _ _

set_option maxHeartbeats 1000000 in
theorem refDo_3f (wd a b : Int) (z s o p : Bool) (w : World) (hw : MayW wd) (h : U64 a) (hb : U64 b) :
    Calls Try.prog 20 #[.int .i64 3, .int .i64 wd, .int .u64 a, .int .u64 b, .agg #[.bool false, .bool z, .bool s, .bool o, .bool p]] w (RefPost wd (subO wd (lowI wd a) (lowI wd b) 0) (subC (lowI wd a) (lowI wd b) 0) (subV wd (lowI wd a) (lowI wd b) 0) w) := by
  have hp1 : 1 ≤ wd := by rcases hw with rfl | rfl | rfl | rfl <;> omega
  have hp2 : wd ≤ 64 := by rcases hw with rfl | rfl | rfl | rfl <;> omega
  have hA : U64 (lowI wd a) := low_lt hw
  have hB : U64 (lowI wd b) := low_lt hw
  have hO : U64 (subO wd (lowI wd a) (lowI wd b) 0) := subO_u hw _ _ _
  have hx := xor_max (lowI wd b) hB
  have hNB := neg_u hB
  go_enter Try.func20, Try.ntmps20
  go_wp2_with (first | (go_at_call 44; refine (Top_any _ _ _ hp1 hp2 (by assumption)).mono ?_; rintro e w1 ⟨rfl, rfl⟩) | (go_at_call 32; refine (Low_any _ _ _ hw (by assumption)).mono ?_; rintro e w1 ⟨rfl, rfl⟩) | (go_at_call 43; refine (add_sub wd a b false _ 0 rfl rfl _ hw).mono ?_; rintro e w1 ⟨rfl, rfl⟩))
  all_goals
    refine (By_any _ _ _ _ _ _ _ _ hp1 hp2 hO).mono ?_
    rintro e w3 ⟨rfl, hb3⟩
    have hz5 := hb3.size
    have hz6 : w.heap.size + 2 < w3.heap.size := by simp at hz5; omega
    have hblk : w3.heap[w.heap.size + 1]? = some (.cells #[.bool false, .bool false, .bool false, .bool false, .bool false] 34 (0, 0)) := by
      rw [hb3.block _ (by simp), (heap_alloc _ _).2 _ (by simp)]
      exact two_blocks w _ _
    obtain ⟨g0, g1, g2, g3, g4, f0⟩ := cells5 hblk
    have hfin : Below w.heap.size w w3 := (((Below.refl _ _).alloc (Nat.le_refl _) _).alloc (by simp) _).alloc (by simp; omega) _ |>.trans (hb3.mono (by simp; omega))
    have hfin' := Lib.hid hfin
    clear hb3 hblk hfin hz5
    go_wp2_with fail
    refine bodyPost_ret (v := .tuple #[.int .u64 (subO wd (lowI wd a) (lowI wd b) 0), .agg #[.bool (subC (lowI wd a) (lowI wd b) 0), .bool (subO wd (lowI wd a) (lowI wd b) 0 == 0), .bool (topB wd (subO wd (lowI wd a) (lowI wd b) 0)), .bool (subV wd (lowI wd a) (lowI wd b) 0), .bool (parB (subO wd (lowI wd a) (lowI wd b) 0))]]) ?_ rfl ⟨rfl, ?_⟩
    · simp [results, Try.results20, go_sem, g0, g1, g2, g3, g4, sumV, subV, bne, *]
    · exact below_set5 hfin'.out (by omega) _ _ _ _ _

set_option maxHeartbeats 1000000 in
theorem refDo_3t (wd a b : Int) (z s o p : Bool) (w : World) (hw : MayW wd) (h : U64 a) (hb : U64 b) :
    Calls Try.prog 20 #[.int .i64 3, .int .i64 wd, .int .u64 a, .int .u64 b, .agg #[.bool true, .bool z, .bool s, .bool o, .bool p]] w (RefPost wd (subO wd (lowI wd a) (lowI wd b) 0) (subC (lowI wd a) (lowI wd b) 0) (subV wd (lowI wd a) (lowI wd b) 0) w) := by
  have hp1 : 1 ≤ wd := by rcases hw with rfl | rfl | rfl | rfl <;> omega
  have hp2 : wd ≤ 64 := by rcases hw with rfl | rfl | rfl | rfl <;> omega
  have hA : U64 (lowI wd a) := low_lt hw
  have hB : U64 (lowI wd b) := low_lt hw
  have hO : U64 (subO wd (lowI wd a) (lowI wd b) 0) := subO_u hw _ _ _
  have hx := xor_max (lowI wd b) hB
  have hNB := neg_u hB
  go_enter Try.func20, Try.ntmps20
  go_wp2_with (first | (go_at_call 44; refine (Top_any _ _ _ hp1 hp2 (by assumption)).mono ?_; rintro e w1 ⟨rfl, rfl⟩) | (go_at_call 32; refine (Low_any _ _ _ hw (by assumption)).mono ?_; rintro e w1 ⟨rfl, rfl⟩) | (go_at_call 43; refine (add_sub wd a b false _ 0 rfl rfl _ hw).mono ?_; rintro e w1 ⟨rfl, rfl⟩))
  all_goals
    refine (By_any _ _ _ _ _ _ _ _ hp1 hp2 hO).mono ?_
    rintro e w3 ⟨rfl, hb3⟩
    have hz5 := hb3.size
    have hz6 : w.heap.size + 2 < w3.heap.size := by simp at hz5; omega
    have hblk : w3.heap[w.heap.size + 1]? = some (.cells #[.bool false, .bool false, .bool false, .bool false, .bool false] 34 (0, 0)) := by
      rw [hb3.block _ (by simp), (heap_alloc _ _).2 _ (by simp)]
      exact two_blocks w _ _
    obtain ⟨g0, g1, g2, g3, g4, f0⟩ := cells5 hblk
    have hfin : Below w.heap.size w w3 := (((Below.refl _ _).alloc (Nat.le_refl _) _).alloc (by simp) _).alloc (by simp; omega) _ |>.trans (hb3.mono (by simp; omega))
    have hfin' := Lib.hid hfin
    clear hb3 hblk hfin hz5
    go_wp2_with fail
    refine bodyPost_ret (v := .tuple #[.int .u64 (subO wd (lowI wd a) (lowI wd b) 0), .agg #[.bool (subC (lowI wd a) (lowI wd b) 0), .bool (subO wd (lowI wd a) (lowI wd b) 0 == 0), .bool (topB wd (subO wd (lowI wd a) (lowI wd b) 0)), .bool (subV wd (lowI wd a) (lowI wd b) 0), .bool (parB (subO wd (lowI wd a) (lowI wd b) 0))]]) ?_ rfl ⟨rfl, ?_⟩
    · simp [results, Try.results20, go_sem, g0, g1, g2, g3, g4, sumV, subV, bne, *]
    · exact below_set5 hfin'.out (by omega) _ _ _ _ _

set_option maxHeartbeats 1000000 in
theorem refDo_4f (wd a b : Int) (z s o p : Bool) (w : World) (hw : MayW wd) (h : U64 a) (hb : U64 b) :
    Calls Try.prog 20 #[.int .i64 4, .int .i64 wd, .int .u64 a, .int .u64 b, .agg #[.bool false, .bool z, .bool s, .bool o, .bool p]] w (RefPost wd (subO wd (lowI wd a) (lowI wd b) 0) (subC (lowI wd a) (lowI wd b) 0) (subV wd (lowI wd a) (lowI wd b) 0) w) := by
  have hp1 : 1 ≤ wd := by rcases hw with rfl | rfl | rfl | rfl <;> omega
  have hp2 : wd ≤ 64 := by rcases hw with rfl | rfl | rfl | rfl <;> omega
  have hA : U64 (lowI wd a) := low_lt hw
  have hB : U64 (lowI wd b) := low_lt hw
  have hO : U64 (subO wd (lowI wd a) (lowI wd b) 0) := subO_u hw _ _ _
  have hx := xor_max (lowI wd b) hB
  have hNB := neg_u hB
  go_enter Try.func20, Try.ntmps20
  go_wp2_with (first | (go_at_call 44; refine (Top_any _ _ _ hp1 hp2 (by assumption)).mono ?_; rintro e w1 ⟨rfl, rfl⟩) | (go_at_call 32; refine (Low_any _ _ _ hw (by assumption)).mono ?_; rintro e w1 ⟨rfl, rfl⟩) | (go_at_call 43; refine (add_sub wd a b false _ 0 rfl rfl _ hw).mono ?_; rintro e w1 ⟨rfl, rfl⟩))
  all_goals
    refine (By_any _ _ _ _ _ _ _ _ hp1 hp2 hO).mono ?_
    rintro e w3 ⟨rfl, hb3⟩
    have hz5 := hb3.size
    have hz6 : w.heap.size + 2 < w3.heap.size := by simp at hz5; omega
    have hblk : w3.heap[w.heap.size + 1]? = some (.cells #[.bool false, .bool false, .bool false, .bool false, .bool false] 34 (0, 0)) := by
      rw [hb3.block _ (by simp), (heap_alloc _ _).2 _ (by simp)]
      exact two_blocks w _ _
    obtain ⟨g0, g1, g2, g3, g4, f0⟩ := cells5 hblk
    have hfin : Below w.heap.size w w3 := (((Below.refl _ _).alloc (Nat.le_refl _) _).alloc (by simp) _).alloc (by simp; omega) _ |>.trans (hb3.mono (by simp; omega))
    have hfin' := Lib.hid hfin
    clear hb3 hblk hfin hz5
    go_wp2_with fail
    refine bodyPost_ret (v := .tuple #[.int .u64 (subO wd (lowI wd a) (lowI wd b) 0), .agg #[.bool (subC (lowI wd a) (lowI wd b) 0), .bool (subO wd (lowI wd a) (lowI wd b) 0 == 0), .bool (topB wd (subO wd (lowI wd a) (lowI wd b) 0)), .bool (subV wd (lowI wd a) (lowI wd b) 0), .bool (parB (subO wd (lowI wd a) (lowI wd b) 0))]]) ?_ rfl ⟨rfl, ?_⟩
    · simp [results, Try.results20, go_sem, g0, g1, g2, g3, g4, sumV, subV, bne, *]
    · exact below_set5 hfin'.out (by omega) _ _ _ _ _

set_option maxHeartbeats 1000000 in
theorem refDo_4t (wd a b : Int) (z s o p : Bool) (w : World) (hw : MayW wd) (h : U64 a) (hb : U64 b) :
    Calls Try.prog 20 #[.int .i64 4, .int .i64 wd, .int .u64 a, .int .u64 b, .agg #[.bool true, .bool z, .bool s, .bool o, .bool p]] w (RefPost wd (subO wd (lowI wd a) (lowI wd b) 1) (subC (lowI wd a) (lowI wd b) 1) (subV wd (lowI wd a) (lowI wd b) 1) w) := by
  have hp1 : 1 ≤ wd := by rcases hw with rfl | rfl | rfl | rfl <;> omega
  have hp2 : wd ≤ 64 := by rcases hw with rfl | rfl | rfl | rfl <;> omega
  have hA : U64 (lowI wd a) := low_lt hw
  have hB : U64 (lowI wd b) := low_lt hw
  have hO : U64 (subO wd (lowI wd a) (lowI wd b) 1) := subO_u hw _ _ _
  have hx := xor_max (lowI wd b) hB
  have hNB := neg_u hB
  go_enter Try.func20, Try.ntmps20
  go_wp2_with (first | (go_at_call 44; refine (Top_any _ _ _ hp1 hp2 (by assumption)).mono ?_; rintro e w1 ⟨rfl, rfl⟩) | (go_at_call 32; refine (Low_any _ _ _ hw (by assumption)).mono ?_; rintro e w1 ⟨rfl, rfl⟩) | (go_at_call 43; refine (add_sub wd a b true _ 1 rfl rfl _ hw).mono ?_; rintro e w1 ⟨rfl, rfl⟩))
  all_goals
    refine (By_any _ _ _ _ _ _ _ _ hp1 hp2 hO).mono ?_
    rintro e w3 ⟨rfl, hb3⟩
    have hz5 := hb3.size
    have hz6 : w.heap.size + 2 < w3.heap.size := by simp at hz5; omega
    have hblk : w3.heap[w.heap.size + 1]? = some (.cells #[.bool false, .bool false, .bool false, .bool false, .bool false] 34 (0, 0)) := by
      rw [hb3.block _ (by simp), (heap_alloc _ _).2 _ (by simp)]
      exact two_blocks w _ _
    obtain ⟨g0, g1, g2, g3, g4, f0⟩ := cells5 hblk
    have hfin : Below w.heap.size w w3 := (((Below.refl _ _).alloc (Nat.le_refl _) _).alloc (by simp) _).alloc (by simp; omega) _ |>.trans (hb3.mono (by simp; omega))
    have hfin' := Lib.hid hfin
    clear hb3 hblk hfin hz5
    go_wp2_with fail
    refine bodyPost_ret (v := .tuple #[.int .u64 (subO wd (lowI wd a) (lowI wd b) 1), .agg #[.bool (subC (lowI wd a) (lowI wd b) 1), .bool (subO wd (lowI wd a) (lowI wd b) 1 == 0), .bool (topB wd (subO wd (lowI wd a) (lowI wd b) 1)), .bool (subV wd (lowI wd a) (lowI wd b) 1), .bool (parB (subO wd (lowI wd a) (lowI wd b) 1))]]) ?_ rfl ⟨rfl, ?_⟩
    · simp [results, Try.results20, go_sem, g0, g1, g2, g3, g4, sumV, subV, bne, *]
    · exact below_set5 hfin'.out (by omega) _ _ _ _ _

set_option maxHeartbeats 1000000 in
theorem refDo_5f (wd a b : Int) (z s o p : Bool) (w : World) (hw : MayW wd) (h : U64 a) (hb : U64 b) :
    Calls Try.prog 20 #[.int .i64 5, .int .i64 wd, .int .u64 a, .int .u64 b, .agg #[.bool false, .bool z, .bool s, .bool o, .bool p]] w (RefPost wd (bits .and .u64 (lowI wd a) (lowI wd b)) (false) (false) w) := by
  have hp1 : 1 ≤ wd := by rcases hw with rfl | rfl | rfl | rfl <;> omega
  have hp2 : wd ≤ 64 := by rcases hw with rfl | rfl | rfl | rfl <;> omega
  have hA : U64 (lowI wd a) := low_lt hw
  have hB : U64 (lowI wd b) := low_lt hw
  have hO : U64 (bits .and .u64 (lowI wd a) (lowI wd b)) := bits_and_u hA hB
  go_enter Try.func20, Try.ntmps20
  go_wp2_with (first | (go_at_call 44; refine (Top_any _ _ _ hp1 hp2 (by assumption)).mono ?_; rintro e w1 ⟨rfl, rfl⟩) | (go_at_call 32; refine (Low_any _ _ _ hw (by assumption)).mono ?_; rintro e w1 ⟨rfl, rfl⟩))
  all_goals
    refine (By_any _ _ _ _ _ _ _ _ hp1 hp2 hO).mono ?_
    rintro e w3 ⟨rfl, hb3⟩
    have hz5 := hb3.size
    have hz6 : w.heap.size + 2 < w3.heap.size := by simp at hz5; omega
    have hblk : w3.heap[w.heap.size + 1]? = some (.cells #[.bool false, .bool false, .bool false, .bool false, .bool false] 34 (0, 0)) := by
      rw [hb3.block _ (by simp), (heap_alloc _ _).2 _ (by simp)]
      exact two_blocks w _ _
    obtain ⟨g0, g1, g2, g3, g4, f0⟩ := cells5 hblk
    have hfin : Below w.heap.size w w3 := (((Below.refl _ _).alloc (Nat.le_refl _) _).alloc (by simp) _).alloc (by simp; omega) _ |>.trans (hb3.mono (by simp; omega))
    have hfin' := Lib.hid hfin
    clear hb3 hblk hfin hz5
    go_wp2_with fail
    refine bodyPost_ret (v := .tuple #[.int .u64 (bits .and .u64 (lowI wd a) (lowI wd b)), .agg #[.bool (false), .bool (bits .and .u64 (lowI wd a) (lowI wd b) == 0), .bool (topB wd (bits .and .u64 (lowI wd a) (lowI wd b))), .bool (false), .bool (parB (bits .and .u64 (lowI wd a) (lowI wd b)))]]) ?_ rfl ⟨rfl, ?_⟩
    · simp [results, Try.results20, go_sem, g0, g1, g2, g3, g4, sumV, subV, bne, *]
    · exact below_set5 hfin'.out (by omega) _ _ _ _ _

set_option maxHeartbeats 1000000 in
theorem refDo_5t (wd a b : Int) (z s o p : Bool) (w : World) (hw : MayW wd) (h : U64 a) (hb : U64 b) :
    Calls Try.prog 20 #[.int .i64 5, .int .i64 wd, .int .u64 a, .int .u64 b, .agg #[.bool true, .bool z, .bool s, .bool o, .bool p]] w (RefPost wd (bits .and .u64 (lowI wd a) (lowI wd b)) (false) (false) w) := by
  have hp1 : 1 ≤ wd := by rcases hw with rfl | rfl | rfl | rfl <;> omega
  have hp2 : wd ≤ 64 := by rcases hw with rfl | rfl | rfl | rfl <;> omega
  have hA : U64 (lowI wd a) := low_lt hw
  have hB : U64 (lowI wd b) := low_lt hw
  have hO : U64 (bits .and .u64 (lowI wd a) (lowI wd b)) := bits_and_u hA hB
  go_enter Try.func20, Try.ntmps20
  go_wp2_with (first | (go_at_call 44; refine (Top_any _ _ _ hp1 hp2 (by assumption)).mono ?_; rintro e w1 ⟨rfl, rfl⟩) | (go_at_call 32; refine (Low_any _ _ _ hw (by assumption)).mono ?_; rintro e w1 ⟨rfl, rfl⟩))
  all_goals
    refine (By_any _ _ _ _ _ _ _ _ hp1 hp2 hO).mono ?_
    rintro e w3 ⟨rfl, hb3⟩
    have hz5 := hb3.size
    have hz6 : w.heap.size + 2 < w3.heap.size := by simp at hz5; omega
    have hblk : w3.heap[w.heap.size + 1]? = some (.cells #[.bool false, .bool false, .bool false, .bool false, .bool false] 34 (0, 0)) := by
      rw [hb3.block _ (by simp), (heap_alloc _ _).2 _ (by simp)]
      exact two_blocks w _ _
    obtain ⟨g0, g1, g2, g3, g4, f0⟩ := cells5 hblk
    have hfin : Below w.heap.size w w3 := (((Below.refl _ _).alloc (Nat.le_refl _) _).alloc (by simp) _).alloc (by simp; omega) _ |>.trans (hb3.mono (by simp; omega))
    have hfin' := Lib.hid hfin
    clear hb3 hblk hfin hz5
    go_wp2_with fail
    refine bodyPost_ret (v := .tuple #[.int .u64 (bits .and .u64 (lowI wd a) (lowI wd b)), .agg #[.bool (false), .bool (bits .and .u64 (lowI wd a) (lowI wd b) == 0), .bool (topB wd (bits .and .u64 (lowI wd a) (lowI wd b))), .bool (false), .bool (parB (bits .and .u64 (lowI wd a) (lowI wd b)))]]) ?_ rfl ⟨rfl, ?_⟩
    · simp [results, Try.results20, go_sem, g0, g1, g2, g3, g4, sumV, subV, bne, *]
    · exact below_set5 hfin'.out (by omega) _ _ _ _ _

set_option maxHeartbeats 1000000 in
theorem refDo_6f (wd a b : Int) (z s o p : Bool) (w : World) (hw : MayW wd) (h : U64 a) (hb : U64 b) :
    Calls Try.prog 20 #[.int .i64 6, .int .i64 wd, .int .u64 a, .int .u64 b, .agg #[.bool false, .bool z, .bool s, .bool o, .bool p]] w (RefPost wd (bits .or .u64 (lowI wd a) (lowI wd b)) (false) (false) w) := by
  have hp1 : 1 ≤ wd := by rcases hw with rfl | rfl | rfl | rfl <;> omega
  have hp2 : wd ≤ 64 := by rcases hw with rfl | rfl | rfl | rfl <;> omega
  have hA : U64 (lowI wd a) := low_lt hw
  have hB : U64 (lowI wd b) := low_lt hw
  have hO : U64 (bits .or .u64 (lowI wd a) (lowI wd b)) := bits_or_u hA hB
  go_enter Try.func20, Try.ntmps20
  go_wp2_with (first | (go_at_call 44; refine (Top_any _ _ _ hp1 hp2 (by assumption)).mono ?_; rintro e w1 ⟨rfl, rfl⟩) | (go_at_call 32; refine (Low_any _ _ _ hw (by assumption)).mono ?_; rintro e w1 ⟨rfl, rfl⟩))
  all_goals
    refine (By_any _ _ _ _ _ _ _ _ hp1 hp2 hO).mono ?_
    rintro e w3 ⟨rfl, hb3⟩
    have hz5 := hb3.size
    have hz6 : w.heap.size + 2 < w3.heap.size := by simp at hz5; omega
    have hblk : w3.heap[w.heap.size + 1]? = some (.cells #[.bool false, .bool false, .bool false, .bool false, .bool false] 34 (0, 0)) := by
      rw [hb3.block _ (by simp), (heap_alloc _ _).2 _ (by simp)]
      exact two_blocks w _ _
    obtain ⟨g0, g1, g2, g3, g4, f0⟩ := cells5 hblk
    have hfin : Below w.heap.size w w3 := (((Below.refl _ _).alloc (Nat.le_refl _) _).alloc (by simp) _).alloc (by simp; omega) _ |>.trans (hb3.mono (by simp; omega))
    have hfin' := Lib.hid hfin
    clear hb3 hblk hfin hz5
    go_wp2_with fail
    refine bodyPost_ret (v := .tuple #[.int .u64 (bits .or .u64 (lowI wd a) (lowI wd b)), .agg #[.bool (false), .bool (bits .or .u64 (lowI wd a) (lowI wd b) == 0), .bool (topB wd (bits .or .u64 (lowI wd a) (lowI wd b))), .bool (false), .bool (parB (bits .or .u64 (lowI wd a) (lowI wd b)))]]) ?_ rfl ⟨rfl, ?_⟩
    · simp [results, Try.results20, go_sem, g0, g1, g2, g3, g4, sumV, subV, bne, *]
    · exact below_set5 hfin'.out (by omega) _ _ _ _ _

set_option maxHeartbeats 1000000 in
theorem refDo_6t (wd a b : Int) (z s o p : Bool) (w : World) (hw : MayW wd) (h : U64 a) (hb : U64 b) :
    Calls Try.prog 20 #[.int .i64 6, .int .i64 wd, .int .u64 a, .int .u64 b, .agg #[.bool true, .bool z, .bool s, .bool o, .bool p]] w (RefPost wd (bits .or .u64 (lowI wd a) (lowI wd b)) (false) (false) w) := by
  have hp1 : 1 ≤ wd := by rcases hw with rfl | rfl | rfl | rfl <;> omega
  have hp2 : wd ≤ 64 := by rcases hw with rfl | rfl | rfl | rfl <;> omega
  have hA : U64 (lowI wd a) := low_lt hw
  have hB : U64 (lowI wd b) := low_lt hw
  have hO : U64 (bits .or .u64 (lowI wd a) (lowI wd b)) := bits_or_u hA hB
  go_enter Try.func20, Try.ntmps20
  go_wp2_with (first | (go_at_call 44; refine (Top_any _ _ _ hp1 hp2 (by assumption)).mono ?_; rintro e w1 ⟨rfl, rfl⟩) | (go_at_call 32; refine (Low_any _ _ _ hw (by assumption)).mono ?_; rintro e w1 ⟨rfl, rfl⟩))
  all_goals
    refine (By_any _ _ _ _ _ _ _ _ hp1 hp2 hO).mono ?_
    rintro e w3 ⟨rfl, hb3⟩
    have hz5 := hb3.size
    have hz6 : w.heap.size + 2 < w3.heap.size := by simp at hz5; omega
    have hblk : w3.heap[w.heap.size + 1]? = some (.cells #[.bool false, .bool false, .bool false, .bool false, .bool false] 34 (0, 0)) := by
      rw [hb3.block _ (by simp), (heap_alloc _ _).2 _ (by simp)]
      exact two_blocks w _ _
    obtain ⟨g0, g1, g2, g3, g4, f0⟩ := cells5 hblk
    have hfin : Below w.heap.size w w3 := (((Below.refl _ _).alloc (Nat.le_refl _) _).alloc (by simp) _).alloc (by simp; omega) _ |>.trans (hb3.mono (by simp; omega))
    have hfin' := Lib.hid hfin
    clear hb3 hblk hfin hz5
    go_wp2_with fail
    refine bodyPost_ret (v := .tuple #[.int .u64 (bits .or .u64 (lowI wd a) (lowI wd b)), .agg #[.bool (false), .bool (bits .or .u64 (lowI wd a) (lowI wd b) == 0), .bool (topB wd (bits .or .u64 (lowI wd a) (lowI wd b))), .bool (false), .bool (parB (bits .or .u64 (lowI wd a) (lowI wd b)))]]) ?_ rfl ⟨rfl, ?_⟩
    · simp [results, Try.results20, go_sem, g0, g1, g2, g3, g4, sumV, subV, bne, *]
    · exact below_set5 hfin'.out (by omega) _ _ _ _ _

set_option maxHeartbeats 1000000 in
theorem refDo_7f (wd a b : Int) (z s o p : Bool) (w : World) (hw : MayW wd) (h : U64 a) (hb : U64 b) :
    Calls Try.prog 20 #[.int .i64 7, .int .i64 wd, .int .u64 a, .int .u64 b, .agg #[.bool false, .bool z, .bool s, .bool o, .bool p]] w (RefPost wd (bits .xor .u64 (lowI wd a) (lowI wd b)) (false) (false) w) := by
  have hp1 : 1 ≤ wd := by rcases hw with rfl | rfl | rfl | rfl <;> omega
  have hp2 : wd ≤ 64 := by rcases hw with rfl | rfl | rfl | rfl <;> omega
  have hA : U64 (lowI wd a) := low_lt hw
  have hB : U64 (lowI wd b) := low_lt hw
  have hO : U64 (bits .xor .u64 (lowI wd a) (lowI wd b)) := bits_xor_u hA hB
  go_enter Try.func20, Try.ntmps20
  go_wp2_with (first | (go_at_call 44; refine (Top_any _ _ _ hp1 hp2 (by assumption)).mono ?_; rintro e w1 ⟨rfl, rfl⟩) | (go_at_call 32; refine (Low_any _ _ _ hw (by assumption)).mono ?_; rintro e w1 ⟨rfl, rfl⟩))
  all_goals
    refine (By_any _ _ _ _ _ _ _ _ hp1 hp2 hO).mono ?_
    rintro e w3 ⟨rfl, hb3⟩
    have hz5 := hb3.size
    have hz6 : w.heap.size + 2 < w3.heap.size := by simp at hz5; omega
    have hblk : w3.heap[w.heap.size + 1]? = some (.cells #[.bool false, .bool false, .bool false, .bool false, .bool false] 34 (0, 0)) := by
      rw [hb3.block _ (by simp), (heap_alloc _ _).2 _ (by simp)]
      exact two_blocks w _ _
    obtain ⟨g0, g1, g2, g3, g4, f0⟩ := cells5 hblk
    have hfin : Below w.heap.size w w3 := (((Below.refl _ _).alloc (Nat.le_refl _) _).alloc (by simp) _).alloc (by simp; omega) _ |>.trans (hb3.mono (by simp; omega))
    have hfin' := Lib.hid hfin
    clear hb3 hblk hfin hz5
    go_wp2_with fail
    refine bodyPost_ret (v := .tuple #[.int .u64 (bits .xor .u64 (lowI wd a) (lowI wd b)), .agg #[.bool (false), .bool (bits .xor .u64 (lowI wd a) (lowI wd b) == 0), .bool (topB wd (bits .xor .u64 (lowI wd a) (lowI wd b))), .bool (false), .bool (parB (bits .xor .u64 (lowI wd a) (lowI wd b)))]]) ?_ rfl ⟨rfl, ?_⟩
    · simp [results, Try.results20, go_sem, g0, g1, g2, g3, g4, sumV, subV, bne, *]
    · exact below_set5 hfin'.out (by omega) _ _ _ _ _

set_option maxHeartbeats 1000000 in
theorem refDo_7t (wd a b : Int) (z s o p : Bool) (w : World) (hw : MayW wd) (h : U64 a) (hb : U64 b) :
    Calls Try.prog 20 #[.int .i64 7, .int .i64 wd, .int .u64 a, .int .u64 b, .agg #[.bool true, .bool z, .bool s, .bool o, .bool p]] w (RefPost wd (bits .xor .u64 (lowI wd a) (lowI wd b)) (false) (false) w) := by
  have hp1 : 1 ≤ wd := by rcases hw with rfl | rfl | rfl | rfl <;> omega
  have hp2 : wd ≤ 64 := by rcases hw with rfl | rfl | rfl | rfl <;> omega
  have hA : U64 (lowI wd a) := low_lt hw
  have hB : U64 (lowI wd b) := low_lt hw
  have hO : U64 (bits .xor .u64 (lowI wd a) (lowI wd b)) := bits_xor_u hA hB
  go_enter Try.func20, Try.ntmps20
  go_wp2_with (first | (go_at_call 44; refine (Top_any _ _ _ hp1 hp2 (by assumption)).mono ?_; rintro e w1 ⟨rfl, rfl⟩) | (go_at_call 32; refine (Low_any _ _ _ hw (by assumption)).mono ?_; rintro e w1 ⟨rfl, rfl⟩))
  all_goals
    refine (By_any _ _ _ _ _ _ _ _ hp1 hp2 hO).mono ?_
    rintro e w3 ⟨rfl, hb3⟩
    have hz5 := hb3.size
    have hz6 : w.heap.size + 2 < w3.heap.size := by simp at hz5; omega
    have hblk : w3.heap[w.heap.size + 1]? = some (.cells #[.bool false, .bool false, .bool false, .bool false, .bool false] 34 (0, 0)) := by
      rw [hb3.block _ (by simp), (heap_alloc _ _).2 _ (by simp)]
      exact two_blocks w _ _
    obtain ⟨g0, g1, g2, g3, g4, f0⟩ := cells5 hblk
    have hfin : Below w.heap.size w w3 := (((Below.refl _ _).alloc (Nat.le_refl _) _).alloc (by simp) _).alloc (by simp; omega) _ |>.trans (hb3.mono (by simp; omega))
    have hfin' := Lib.hid hfin
    clear hb3 hblk hfin hz5
    go_wp2_with fail
    refine bodyPost_ret (v := .tuple #[.int .u64 (bits .xor .u64 (lowI wd a) (lowI wd b)), .agg #[.bool (false), .bool (bits .xor .u64 (lowI wd a) (lowI wd b) == 0), .bool (topB wd (bits .xor .u64 (lowI wd a) (lowI wd b))), .bool (false), .bool (parB (bits .xor .u64 (lowI wd a) (lowI wd b)))]]) ?_ rfl ⟨rfl, ?_⟩
    · simp [results, Try.results20, go_sem, g0, g1, g2, g3, g4, sumV, subV, bne, *]
    · exact below_set5 hfin'.out (by omega) _ _ _ _ _

set_option maxHeartbeats 1000000 in
theorem refDo_8f (wd a b : Int) (z s o p : Bool) (w : World) (hw : MayW wd) (h : U64 a) (hb : U64 b) :
    Calls Try.prog 20 #[.int .i64 8, .int .i64 wd, .int .u64 a, .int .u64 b, .agg #[.bool false, .bool z, .bool s, .bool o, .bool p]] w (RefPost wd (mulO wd (lowI wd a) (lowI wd b)) (mulC wd (lowI wd a) (lowI wd b)) (mulC wd (lowI wd a) (lowI wd b)) w) := by
  have hp1 : 1 ≤ wd := by rcases hw with rfl | rfl | rfl | rfl <;> omega
  have hp2 : wd ≤ 64 := by rcases hw with rfl | rfl | rfl | rfl <;> omega
  have hA : U64 (lowI wd a) := low_lt hw
  have hB : U64 (lowI wd b) := low_lt hw
  have hO : U64 (mulO wd (lowI wd a) (lowI wd b)) := mulO_u hw _ _
  have hmu := wrap_u (lowI wd a * lowI wd b)
  have hml' := Lib.hid (mulO_wrap hw (lowI wd a) (lowI wd b))
  have hmc' := Lib.hid (show decide (sgnS wd (mulO wd (lowI wd a) (lowI wd b)) = prodS wd (lowI wd a) (lowI wd b)) = !mulC wd (lowI wd a) (lowI wd b) from (Bool.not_not _).symm)
  go_enter Try.func20, Try.ntmps20
  go_wp2_with (first | (go_at_call 44; refine (Top_any _ _ _ hp1 hp2 (by assumption)).mono ?_; rintro e w1 ⟨rfl, rfl⟩) | (go_at_call 32; refine (Low_any _ _ _ hw (by assumption)).mono ?_; (try rw [hml'.out]); rintro e w1 ⟨rfl, rfl⟩) | (go_at_call 45; refine (fits_any _ _ _ _ _ hw hA hB hO).mono ?_; rw [hmc'.out]; rintro e w1 ⟨rfl, rfl⟩))
  all_goals
    refine (By_any _ _ _ _ _ _ _ _ hp1 hp2 hO).mono ?_
    rintro e w3 ⟨rfl, hb3⟩
    have hz5 := hb3.size
    have hz6 : w.heap.size + 2 < w3.heap.size := by simp at hz5; omega
    have hblk : w3.heap[w.heap.size + 1]? = some (.cells #[.bool false, .bool false, .bool false, .bool false, .bool false] 34 (0, 0)) := by
      rw [hb3.block _ (by simp), (heap_alloc _ _).2 _ (by simp)]
      exact two_blocks w _ _
    obtain ⟨g0, g1, g2, g3, g4, f0⟩ := cells5 hblk
    have hfin : Below w.heap.size w w3 := (((Below.refl _ _).alloc (Nat.le_refl _) _).alloc (by simp) _).alloc (by simp; omega) _ |>.trans (hb3.mono (by simp; omega))
    have hfin' := Lib.hid hfin
    clear hb3 hblk hfin hz5
    go_wp2_with fail
    refine bodyPost_ret (v := .tuple #[.int .u64 (mulO wd (lowI wd a) (lowI wd b)), .agg #[.bool (mulC wd (lowI wd a) (lowI wd b)), .bool (mulO wd (lowI wd a) (lowI wd b) == 0), .bool (topB wd (mulO wd (lowI wd a) (lowI wd b))), .bool (mulC wd (lowI wd a) (lowI wd b)), .bool (parB (mulO wd (lowI wd a) (lowI wd b)))]]) ?_ rfl ⟨rfl, ?_⟩
    · simp [results, Try.results20, go_sem, g0, g1, g2, g3, g4, sumV, subV, bne, *]
    · exact below_set5 hfin'.out (by omega) _ _ _ _ _

set_option maxHeartbeats 1000000 in
theorem refDo_8t (wd a b : Int) (z s o p : Bool) (w : World) (hw : MayW wd) (h : U64 a) (hb : U64 b) :
    Calls Try.prog 20 #[.int .i64 8, .int .i64 wd, .int .u64 a, .int .u64 b, .agg #[.bool true, .bool z, .bool s, .bool o, .bool p]] w (RefPost wd (mulO wd (lowI wd a) (lowI wd b)) (mulC wd (lowI wd a) (lowI wd b)) (mulC wd (lowI wd a) (lowI wd b)) w) := by
  have hp1 : 1 ≤ wd := by rcases hw with rfl | rfl | rfl | rfl <;> omega
  have hp2 : wd ≤ 64 := by rcases hw with rfl | rfl | rfl | rfl <;> omega
  have hA : U64 (lowI wd a) := low_lt hw
  have hB : U64 (lowI wd b) := low_lt hw
  have hO : U64 (mulO wd (lowI wd a) (lowI wd b)) := mulO_u hw _ _
  have hmu := wrap_u (lowI wd a * lowI wd b)
  have hml' := Lib.hid (mulO_wrap hw (lowI wd a) (lowI wd b))
  have hmc' := Lib.hid (show decide (sgnS wd (mulO wd (lowI wd a) (lowI wd b)) = prodS wd (lowI wd a) (lowI wd b)) = !mulC wd (lowI wd a) (lowI wd b) from (Bool.not_not _).symm)
  go_enter Try.func20, Try.ntmps20
  go_wp2_with (first | (go_at_call 44; refine (Top_any _ _ _ hp1 hp2 (by assumption)).mono ?_; rintro e w1 ⟨rfl, rfl⟩) | (go_at_call 32; refine (Low_any _ _ _ hw (by assumption)).mono ?_; (try rw [hml'.out]); rintro e w1 ⟨rfl, rfl⟩) | (go_at_call 45; refine (fits_any _ _ _ _ _ hw hA hB hO).mono ?_; rw [hmc'.out]; rintro e w1 ⟨rfl, rfl⟩))
  all_goals
    refine (By_any _ _ _ _ _ _ _ _ hp1 hp2 hO).mono ?_
    rintro e w3 ⟨rfl, hb3⟩
    have hz5 := hb3.size
    have hz6 : w.heap.size + 2 < w3.heap.size := by simp at hz5; omega
    have hblk : w3.heap[w.heap.size + 1]? = some (.cells #[.bool false, .bool false, .bool false, .bool false, .bool false] 34 (0, 0)) := by
      rw [hb3.block _ (by simp), (heap_alloc _ _).2 _ (by simp)]
      exact two_blocks w _ _
    obtain ⟨g0, g1, g2, g3, g4, f0⟩ := cells5 hblk
    have hfin : Below w.heap.size w w3 := (((Below.refl _ _).alloc (Nat.le_refl _) _).alloc (by simp) _).alloc (by simp; omega) _ |>.trans (hb3.mono (by simp; omega))
    have hfin' := Lib.hid hfin
    clear hb3 hblk hfin hz5
    go_wp2_with fail
    refine bodyPost_ret (v := .tuple #[.int .u64 (mulO wd (lowI wd a) (lowI wd b)), .agg #[.bool (mulC wd (lowI wd a) (lowI wd b)), .bool (mulO wd (lowI wd a) (lowI wd b) == 0), .bool (topB wd (mulO wd (lowI wd a) (lowI wd b))), .bool (mulC wd (lowI wd a) (lowI wd b)), .bool (parB (mulO wd (lowI wd a) (lowI wd b)))]]) ?_ rfl ⟨rfl, ?_⟩
    · simp [results, Try.results20, go_sem, g0, g1, g2, g3, g4, sumV, subV, bne, *]
    · exact below_set5 hfin'.out (by omega) _ _ _ _ _

end Go.Proofs.Ytkfenljldmbmcaa
