/- The contract of the reference's Shift. -/
import Derived.Test.YtkfenljldmbmcaaN
set_option linter.unusedSimpArgs false
set_option linter.unusedVariables false
namespace Go.Proofs.Ytkfenljldmbmcaa
open Go.RowKit Go.MapKept

/-- what the shift's loop holds -/
def ShR (op wd A : Int) (i : Nat) (v : Int) (out : Bool) : Prop := v = shO op wd A i ∧ (1 ≤ i → out = stB op wd (shO op wd A (i - 1)))
theorem ShR_0 {op wd A : Int} (hw : MayW wd) (h0 : 0 ≤ A) (h1 : A < 2 ^ wd.toNat) : ShR op wd A 0 A false := ⟨(shO_0 hw h0 h1).symm, fun h => by omega⟩
theorem ShR_step {op wd A v : Int} {out : Bool} {i : Nat} (hw : MayW wd) (h0 : 0 ≤ A) (h1 : A < 2 ^ wd.toNat) (hop : op = 1 ∨ op = 2 ∨ op = 3 ∨ op = 4 ∨ op = 5) (h : ShR op wd A i v out) :
    ShR op wd A (i + 1) (stO op wd v) (stB op wd v) := by
  obtain ⟨rfl, _⟩ := h
  exact ⟨stO_shO hw h0 h1 hop i, fun _ => rfl⟩

/-- how a shift ends: the flags -/
def shFl (op wd A : Int) (n : Nat) (z s p : Bool) : Value :=
  if op ≤ 3 then .agg #[.bool (shC op wd A n), .bool (shO op wd A n == 0), .bool (topB wd (shO op wd A n)), .bool (shV op wd A n), .bool (parB (shO op wd A n))]
  else .agg #[.bool (shC op wd A n), .bool z, .bool s, .bool (shV op wd A n), .bool p]
def RefShPost (op wd A : Int) (n : Nat) (z s p : Bool) (w : World) (e : Ending) (w' : World) : Prop :=
  e = .returned (.tuple #[.int .u64 (shO op wd A n), shFl op wd A n z s p]) ∧ Below w.heap.size w w'

theorem topB_mod {wd : Int} (hw : MayW wd) (x : Int) : topB wd (x % 2 ^ wd.toNat) = topB wd x := by
  unfold topB
  rw [decide_eq_decide]
  rcases hw with rfl | rfl | rfl | rfl <;> simp <;> omega
theorem topB_twice {wd : Int} (hw : MayW wd) (x : Int) : topB wd (lowI wd (x * 2)) = topB (wd - 1) x := by
  unfold lowI
  rw [topB_mod hw]
  unfold topB
  rw [decide_eq_decide]
  rcases hw with rfl | rfl | rfl | rfl <;> simp <;> omega
theorem shC_1 {wd A : Int} (hw : MayW wd) {n : Nat} (_h : 1 ≤ n) : shC 1 wd A n = (decide (n ≤ wd.toNat) && stB 1 wd (shO 1 wd A (n - 1))) := by
  have e : stB 1 wd (shO 1 wd A (n - 1)) = topB wd (A * 2 ^ (n - 1) % 2 ^ wd.toNat) := by simp [stB, shO]
  rw [e, topB_mod hw]; simp [shC]
theorem shC_2 {wd A : Int} (_hw : MayW wd) (h0 : 0 ≤ A) (h1 : A < 2 ^ wd.toNat) {n : Nat} (_h : 1 ≤ n) : shC 2 wd A n = (decide (n ≤ wd.toNat) && stB 2 wd (shO 2 wd A (n - 1))) := by
  have e : stB 2 wd (shO 2 wd A (n - 1)) = (A / 2 ^ (n - 1) % 2 == 1) := by simp [stB, shO]
  have e2 : shC 2 wd A n = (A / 2 ^ (n - 1) % 2 == 1) := by simp [shC]
  rw [e, e2]
  by_cases hn : n ≤ wd.toNat
  · simp [hn]
  · have : A / 2 ^ (n - 1) = 0 := Int.ediv_eq_zero_of_lt h0 (Int.lt_of_lt_of_le h1 (two_pow_le _ _ (by omega)))
    rw [this]; simp [hn]
theorem shC_3 {wd A : Int} (hw : MayW wd) (h0 : 0 ≤ A) (h1 : A < 2 ^ wd.toNat) {n : Nat} (_h : 1 ≤ n) : shC 3 wd A n = if n ≤ wd.toNat then stB 3 wd (shO 3 wd A (n - 1)) else topB wd A := by
  have e : stB 3 wd (shO 3 wd A (n - 1)) = (sgnS wd A / 2 ^ (n - 1) % 2 ^ wd.toNat % 2 == 1) := by simp [stB, shO]
  have e2 : shC 3 wd A n = (sgnS wd A / 2 ^ (n - 1) % 2 == 1) := by simp [shC]
  obtain ⟨hW, _, _⟩ := W_bd hw
  have hp := two_pow_pos (n - 1)
  obtain ⟨s0, s1, s2⟩ := sgnS_half hw h0 h1
  have hd : ∀ x : Int, x % 2 ^ wd.toNat % 2 = x % 2 := fun x => by
    have : (2 : Int) ^ wd.toNat = 2 * 2 ^ (wd.toNat - 1) := by rw [Int.mul_comm, ← two_pow_succ]; congr 1; omega
    exact Int.emod_emod_of_dvd x (this ▸ Int.dvd_mul_right _ _)
  rw [e, e2, hd]
  split
  · rfl
  · rename_i hn
    have hle := two_pow_le (wd.toNat - 1) (n - 1) (by omega)
    rw [s2]
    by_cases hx : sgnS wd A < 0
    · have : sgnS wd A / 2 ^ (n - 1) = -1 := ediv_of _ _ (-1) (sgnS wd A + 2 ^ (n - 1)) (by omega) (by omega) (by omega)
      rw [this]; simp [hx]
    · have : sgnS wd A / 2 ^ (n - 1) = 0 := Int.ediv_eq_zero_of_lt (by omega) (by omega)
      rw [this]; simp [hx]

set_option maxHeartbeats 1000000 in
theorem refShift_1hS (wd a cn : Int) (n : Nat) (c z s o p : Bool) (w : World) (hw : MayW wd) (h : U64 a) (hc : U64 cn) (h64 : (wd == 64) = false) (hn : cn % 32 = (n : Int)) (hn1 : 1 ≤ n) (hn2 : n < 64) (hbig : decide (wd < (n : Int)) = false) :
    Calls Try.prog 22 #[.int .i64 1, .int .i64 wd, .int .u64 a, .int .u64 cn, .agg #[.bool c, .bool z, .bool s, .bool o, .bool p]] w (RefShPost 1 wd (lowI wd a) n z s p w) := by
  obtain ⟨hW1, hW2, hW3⟩ := W_bd hw
  have hp1 : 1 ≤ wd := by omega
  have hp2 : wd ≤ 64 := by omega
  have hlb := low_bd wd a
  obtain ⟨A, hA⟩ : ∃ A, A = lowI wd a := ⟨_, rfl⟩
  have hAu : U64 A := by rw [hA]; exact low_lt hw
  rw [← hA] at hlb ⊢
  obtain ⟨hA0, hA1⟩ := hlb
  have hA' := Lib.hid hA
  have hc0 := hc.1
  have hn0 : ((n : Int) == 0) = false := by simp; omega
  have hW4 : wd.toNat ≤ n → wd ≤ n := by omega
  clear hA hW3
  go_enter Try.func22, Try.ntmps22
  go_wp2_with (first | (go_at_call 32; refine (Low_any _ _ _ hw h).mono ?_; rw [← hA'.out]; rintro e w1 ⟨rfl, rfl⟩))
  go_loop [13, 14, 15] (fun v q i => ∃ (k : Nat) (y : Int) (r : Bool), k ≤ n ∧ ShR 1 wd A k y r ∧ i = .int .i64 k ∧ v = .int .u64 y ∧ q = .bool r) (fun _ _ i => n - (intOf i).toNat)
  case atStart => exact ⟨0, _, _, by omega, ShR_0 hw hA0 hA1, rfl, rfl, rfl⟩
  case round =>
    obtain ⟨k, y, r, hk, hy, rfl, rfl, rfl⟩ := hrel
    have hyb := shO_bd (op := 1) hw hA0 hA1 k
    rw [← hy.1] at hyb
    have hyu := shO_u (op := 1) hw hA0 hA1 k
    rw [← hy.1] at hyu
    by_cases hlt : k < n
    · go_wp2_with (first | (go_at_call 49; refine (step_any _ _ _ _ hw hyu hyb.2 (by omega)).mono ?_; rintro e w1 ⟨rfl, rfl⟩))
      exact ⟨⟨k + 1, _, _, by omega, ShR_step hw hA0 hA1 (by omega) hy, by go_num, rfl, rfl⟩, by simp [intOf]; omega⟩
    · obtain rfl : k = n := by omega
      obtain ⟨hy1, hy2⟩ := hy
      have hy1' := Lib.hid hy1
      have hy2' := Lib.hid (hy2 hn1)
      clear hy1 hy2
      go_wp2_with fail
      all_goals go_region_with (go_at_call 44; refine (Top_any _ _ _ hp1 hp2 (by assumption)).mono ?_; rintro e w1 ⟨rfl, rfl⟩)
      all_goals go_wp2_with fail
      all_goals
        refine (By_any _ _ _ _ _ _ _ _ hp1 hp2 hyu).mono ?_
        rintro e w3 ⟨rfl, hb3⟩
        have hz5 := hb3.size
        have hz6 : w.heap.size + 1 < w3.heap.size := by simp at hz5; omega
        have hblk : w3.heap[w.heap.size + 1]? = some (.cells #[.bool false, .bool false, .bool false, .bool false, .bool false] 34 (0, 0)) := by
          rw [hb3.block _ (by simp)]
          exact two_blocks w _ _
        obtain ⟨g0, g1, g2, g3, g4, f0⟩ := cells5 hblk
        have hfin : Below w.heap.size w w3 := (((Below.refl _ _).alloc (Nat.le_refl _) _).alloc (by simp) _).drew.trans (hb3.mono (by simp; omega))
        have hfin' := Lib.hid hfin
        clear hb3 hblk hfin hz5
        go_wp2_with fail
        refine bodyPost_ret (v := .tuple #[.int .u64 y, .agg #[.bool (r), .bool (y == 0), .bool (topB wd y), .bool ((r != topB wd y)), .bool (parB y)]]) (by simp [results, Try.results22, go_sem, g0, g1, g2, g3, g4, bne]) rfl ⟨?_, ?_⟩
        · have hcc : shC 1 wd A k = r := by rw [shC_1 hw hn1, ← hy2'.out, decide_eq_true (by simp at hbig; omega)]; simp
          have hvv : shV 1 wd A k = (r != topB wd y) := by rw [← hcc, hy1'.out]; simp [shV]
          simp only [shFl]
          rw [if_pos (by omega), hcc, hvv, hy1'.out]
        · exact below_set5 hfin'.out (by omega) _ _ _ _ _

set_option maxHeartbeats 1000000 in
theorem refShift_1hB (wd a cn : Int) (n : Nat) (c z s o p : Bool) (w : World) (hw : MayW wd) (h : U64 a) (hc : U64 cn) (h64 : (wd == 64) = false) (hn : cn % 32 = (n : Int)) (hn1 : 1 ≤ n) (hn2 : n < 64) (hbig : decide (wd < (n : Int)) = true) :
    Calls Try.prog 22 #[.int .i64 1, .int .i64 wd, .int .u64 a, .int .u64 cn, .agg #[.bool c, .bool z, .bool s, .bool o, .bool p]] w (RefShPost 1 wd (lowI wd a) n z s p w) := by
  obtain ⟨hW1, hW2, hW3⟩ := W_bd hw
  have hp1 : 1 ≤ wd := by omega
  have hp2 : wd ≤ 64 := by omega
  have hlb := low_bd wd a
  obtain ⟨A, hA⟩ : ∃ A, A = lowI wd a := ⟨_, rfl⟩
  have hAu : U64 A := by rw [hA]; exact low_lt hw
  rw [← hA] at hlb ⊢
  obtain ⟨hA0, hA1⟩ := hlb
  have hA' := Lib.hid hA
  have hc0 := hc.1
  have hn0 : ((n : Int) == 0) = false := by simp; omega
  have hW4 : wd.toNat ≤ n → wd ≤ n := by omega
  clear hA hW3
  go_enter Try.func22, Try.ntmps22
  go_wp2_with (first | (go_at_call 32; refine (Low_any _ _ _ hw h).mono ?_; rw [← hA'.out]; rintro e w1 ⟨rfl, rfl⟩))
  go_loop [13, 14, 15] (fun v q i => ∃ (k : Nat) (y : Int) (r : Bool), k ≤ n ∧ ShR 1 wd A k y r ∧ i = .int .i64 k ∧ v = .int .u64 y ∧ q = .bool r) (fun _ _ i => n - (intOf i).toNat)
  case atStart => exact ⟨0, _, _, by omega, ShR_0 hw hA0 hA1, rfl, rfl, rfl⟩
  case round =>
    obtain ⟨k, y, r, hk, hy, rfl, rfl, rfl⟩ := hrel
    have hyb := shO_bd (op := 1) hw hA0 hA1 k
    rw [← hy.1] at hyb
    have hyu := shO_u (op := 1) hw hA0 hA1 k
    rw [← hy.1] at hyu
    by_cases hlt : k < n
    · go_wp2_with (first | (go_at_call 49; refine (step_any _ _ _ _ hw hyu hyb.2 (by omega)).mono ?_; rintro e w1 ⟨rfl, rfl⟩))
      exact ⟨⟨k + 1, _, _, by omega, ShR_step hw hA0 hA1 (by omega) hy, by go_num, rfl, rfl⟩, by simp [intOf]; omega⟩
    · obtain rfl : k = n := by omega
      obtain ⟨hy1, hy2⟩ := hy
      have hy1' := Lib.hid hy1
      have hy2' := Lib.hid (hy2 hn1)
      clear hy1 hy2
      go_wp2_with fail
      all_goals go_region_with (go_at_call 44; refine (Top_any _ _ _ hp1 hp2 (by assumption)).mono ?_; rintro e w1 ⟨rfl, rfl⟩)
      all_goals go_wp2_with fail
      all_goals
        refine (By_any _ _ _ _ _ _ _ _ hp1 hp2 hyu).mono ?_
        rintro e w3 ⟨rfl, hb3⟩
        have hz5 := hb3.size
        have hz6 : w.heap.size + 1 < w3.heap.size := by simp at hz5; omega
        have hblk : w3.heap[w.heap.size + 1]? = some (.cells #[.bool false, .bool false, .bool false, .bool false, .bool false] 34 (0, 0)) := by
          rw [hb3.block _ (by simp)]
          exact two_blocks w _ _
        obtain ⟨g0, g1, g2, g3, g4, f0⟩ := cells5 hblk
        have hfin : Below w.heap.size w w3 := (((Below.refl _ _).alloc (Nat.le_refl _) _).alloc (by simp) _).drew.trans (hb3.mono (by simp; omega))
        have hfin' := Lib.hid hfin
        clear hb3 hblk hfin hz5
        go_wp2_with fail
        refine bodyPost_ret (v := .tuple #[.int .u64 y, .agg #[.bool (false), .bool (y == 0), .bool (topB wd y), .bool ((false != topB wd y)), .bool (parB y)]]) (by simp [results, Try.results22, go_sem, g0, g1, g2, g3, g4, bne]) rfl ⟨?_, ?_⟩
        · have hcc : shC 1 wd A k = false := by rw [shC_1 hw hn1, ← hy2'.out, decide_eq_false (by simp at hbig; omega)]; simp
          have hvv : shV 1 wd A k = (false != topB wd y) := by rw [← hcc, hy1'.out]; simp [shV]
          simp only [shFl]
          rw [if_pos (by omega), hcc, hvv, hy1'.out]
        · exact below_set5 hfin'.out (by omega) _ _ _ _ _

set_option maxHeartbeats 1000000 in
theorem refShift_1qS (wd a cn : Int) (n : Nat) (c z s o p : Bool) (w : World) (hw : MayW wd) (h : U64 a) (hc : U64 cn) (h64 : (wd == 64) = true) (hn : cn % 64 = (n : Int)) (hn1 : 1 ≤ n) (hn2 : n < 64) (hbig : decide (wd < (n : Int)) = false) :
    Calls Try.prog 22 #[.int .i64 1, .int .i64 wd, .int .u64 a, .int .u64 cn, .agg #[.bool c, .bool z, .bool s, .bool o, .bool p]] w (RefShPost 1 wd (lowI wd a) n z s p w) := by
  obtain ⟨hW1, hW2, hW3⟩ := W_bd hw
  have hp1 : 1 ≤ wd := by omega
  have hp2 : wd ≤ 64 := by omega
  have hlb := low_bd wd a
  obtain ⟨A, hA⟩ : ∃ A, A = lowI wd a := ⟨_, rfl⟩
  have hAu : U64 A := by rw [hA]; exact low_lt hw
  rw [← hA] at hlb ⊢
  obtain ⟨hA0, hA1⟩ := hlb
  have hA' := Lib.hid hA
  have hc0 := hc.1
  have hn0 : ((n : Int) == 0) = false := by simp; omega
  have hW4 : wd.toNat ≤ n → wd ≤ n := by omega
  clear hA hW3
  go_enter Try.func22, Try.ntmps22
  go_wp2_with (first | (go_at_call 32; refine (Low_any _ _ _ hw h).mono ?_; rw [← hA'.out]; rintro e w1 ⟨rfl, rfl⟩))
  go_loop [13, 14, 15] (fun v q i => ∃ (k : Nat) (y : Int) (r : Bool), k ≤ n ∧ ShR 1 wd A k y r ∧ i = .int .i64 k ∧ v = .int .u64 y ∧ q = .bool r) (fun _ _ i => n - (intOf i).toNat)
  case atStart => exact ⟨0, _, _, by omega, ShR_0 hw hA0 hA1, rfl, rfl, rfl⟩
  case round =>
    obtain ⟨k, y, r, hk, hy, rfl, rfl, rfl⟩ := hrel
    have hyb := shO_bd (op := 1) hw hA0 hA1 k
    rw [← hy.1] at hyb
    have hyu := shO_u (op := 1) hw hA0 hA1 k
    rw [← hy.1] at hyu
    by_cases hlt : k < n
    · go_wp2_with (first | (go_at_call 49; refine (step_any _ _ _ _ hw hyu hyb.2 (by omega)).mono ?_; rintro e w1 ⟨rfl, rfl⟩))
      exact ⟨⟨k + 1, _, _, by omega, ShR_step hw hA0 hA1 (by omega) hy, by go_num, rfl, rfl⟩, by simp [intOf]; omega⟩
    · obtain rfl : k = n := by omega
      obtain ⟨hy1, hy2⟩ := hy
      have hy1' := Lib.hid hy1
      have hy2' := Lib.hid (hy2 hn1)
      clear hy1 hy2
      go_wp2_with fail
      all_goals go_region_with (go_at_call 44; refine (Top_any _ _ _ hp1 hp2 (by assumption)).mono ?_; rintro e w1 ⟨rfl, rfl⟩)
      all_goals go_wp2_with fail
      all_goals
        refine (By_any _ _ _ _ _ _ _ _ hp1 hp2 hyu).mono ?_
        rintro e w3 ⟨rfl, hb3⟩
        have hz5 := hb3.size
        have hz6 : w.heap.size + 1 < w3.heap.size := by simp at hz5; omega
        have hblk : w3.heap[w.heap.size + 1]? = some (.cells #[.bool false, .bool false, .bool false, .bool false, .bool false] 34 (0, 0)) := by
          rw [hb3.block _ (by simp)]
          exact two_blocks w _ _
        obtain ⟨g0, g1, g2, g3, g4, f0⟩ := cells5 hblk
        have hfin : Below w.heap.size w w3 := (((Below.refl _ _).alloc (Nat.le_refl _) _).alloc (by simp) _).drew.trans (hb3.mono (by simp; omega))
        have hfin' := Lib.hid hfin
        clear hb3 hblk hfin hz5
        go_wp2_with fail
        refine bodyPost_ret (v := .tuple #[.int .u64 y, .agg #[.bool (r), .bool (y == 0), .bool (topB wd y), .bool ((r != topB wd y)), .bool (parB y)]]) (by simp [results, Try.results22, go_sem, g0, g1, g2, g3, g4, bne]) rfl ⟨?_, ?_⟩
        · have hcc : shC 1 wd A k = r := by rw [shC_1 hw hn1, ← hy2'.out, decide_eq_true (by simp at hbig; omega)]; simp
          have hvv : shV 1 wd A k = (r != topB wd y) := by rw [← hcc, hy1'.out]; simp [shV]
          simp only [shFl]
          rw [if_pos (by omega), hcc, hvv, hy1'.out]
        · exact below_set5 hfin'.out (by omega) _ _ _ _ _

set_option maxHeartbeats 1000000 in
theorem refShift_2hS (wd a cn : Int) (n : Nat) (c z s o p : Bool) (w : World) (hw : MayW wd) (h : U64 a) (hc : U64 cn) (h64 : (wd == 64) = false) (hn : cn % 32 = (n : Int)) (hn1 : 1 ≤ n) (hn2 : n < 64) (hbig : decide (wd < (n : Int)) = false) :
    Calls Try.prog 22 #[.int .i64 2, .int .i64 wd, .int .u64 a, .int .u64 cn, .agg #[.bool c, .bool z, .bool s, .bool o, .bool p]] w (RefShPost 2 wd (lowI wd a) n z s p w) := by
  obtain ⟨hW1, hW2, hW3⟩ := W_bd hw
  have hp1 : 1 ≤ wd := by omega
  have hp2 : wd ≤ 64 := by omega
  have hlb := low_bd wd a
  obtain ⟨A, hA⟩ : ∃ A, A = lowI wd a := ⟨_, rfl⟩
  have hAu : U64 A := by rw [hA]; exact low_lt hw
  rw [← hA] at hlb ⊢
  obtain ⟨hA0, hA1⟩ := hlb
  have hA' := Lib.hid hA
  have hc0 := hc.1
  have hn0 : ((n : Int) == 0) = false := by simp; omega
  have hW4 : wd.toNat ≤ n → wd ≤ n := by omega
  clear hA hW3
  go_enter Try.func22, Try.ntmps22
  go_wp2_with (first | (go_at_call 32; refine (Low_any _ _ _ hw h).mono ?_; rw [← hA'.out]; rintro e w1 ⟨rfl, rfl⟩))
  go_loop [13, 14, 15] (fun v q i => ∃ (k : Nat) (y : Int) (r : Bool), k ≤ n ∧ ShR 2 wd A k y r ∧ i = .int .i64 k ∧ v = .int .u64 y ∧ q = .bool r) (fun _ _ i => n - (intOf i).toNat)
  case atStart => exact ⟨0, _, _, by omega, ShR_0 hw hA0 hA1, rfl, rfl, rfl⟩
  case round =>
    obtain ⟨k, y, r, hk, hy, rfl, rfl, rfl⟩ := hrel
    have hyb := shO_bd (op := 2) hw hA0 hA1 k
    rw [← hy.1] at hyb
    have hyu := shO_u (op := 2) hw hA0 hA1 k
    rw [← hy.1] at hyu
    by_cases hlt : k < n
    · go_wp2_with (first | (go_at_call 49; refine (step_any _ _ _ _ hw hyu hyb.2 (by omega)).mono ?_; rintro e w1 ⟨rfl, rfl⟩))
      exact ⟨⟨k + 1, _, _, by omega, ShR_step hw hA0 hA1 (by omega) hy, by go_num, rfl, rfl⟩, by simp [intOf]; omega⟩
    · obtain rfl : k = n := by omega
      obtain ⟨hy1, hy2⟩ := hy
      have hy1' := Lib.hid hy1
      have hy2' := Lib.hid (hy2 hn1)
      clear hy1 hy2
      go_wp2_with (first | (go_at_call 44; refine (Top_any _ _ _ hp1 hp2 (by assumption)).mono ?_; rintro e w1 ⟨rfl, rfl⟩))
      all_goals
        refine (By_any _ _ _ _ _ _ _ _ hp1 hp2 hyu).mono ?_
        rintro e w3 ⟨rfl, hb3⟩
        have hz5 := hb3.size
        have hz6 : w.heap.size + 1 < w3.heap.size := by simp at hz5; omega
        have hblk : w3.heap[w.heap.size + 1]? = some (.cells #[.bool false, .bool false, .bool false, .bool false, .bool false] 34 (0, 0)) := by
          rw [hb3.block _ (by simp)]
          exact two_blocks w _ _
        obtain ⟨g0, g1, g2, g3, g4, f0⟩ := cells5 hblk
        have hfin : Below w.heap.size w w3 := (((Below.refl _ _).alloc (Nat.le_refl _) _).alloc (by simp) _).trans (hb3.mono (by simp; omega))
        have hfin' := Lib.hid hfin
        clear hb3 hblk hfin hz5
        go_wp2_with fail
        refine bodyPost_ret (v := .tuple #[.int .u64 y, .agg #[.bool (r), .bool (y == 0), .bool (topB wd y), .bool (topB wd A), .bool (parB y)]]) (by simp [results, Try.results22, go_sem, g0, g1, g2, g3, g4, bne]) rfl ⟨?_, ?_⟩
        · have hcc : shC 2 wd A k = r := by rw [shC_2 hw hA0 hA1 hn1, ← hy2'.out, decide_eq_true (by simp at hbig; omega)]; simp
          have hvv : shV 2 wd A k = topB wd A := by simp [shV]
          simp only [shFl]
          rw [if_pos (by omega), hcc, hvv, hy1'.out]
        · exact below_set5 hfin'.out (by omega) _ _ _ _ _

set_option maxHeartbeats 1000000 in
theorem refShift_2hB (wd a cn : Int) (n : Nat) (c z s o p : Bool) (w : World) (hw : MayW wd) (h : U64 a) (hc : U64 cn) (h64 : (wd == 64) = false) (hn : cn % 32 = (n : Int)) (hn1 : 1 ≤ n) (hn2 : n < 64) (hbig : decide (wd < (n : Int)) = true) :
    Calls Try.prog 22 #[.int .i64 2, .int .i64 wd, .int .u64 a, .int .u64 cn, .agg #[.bool c, .bool z, .bool s, .bool o, .bool p]] w (RefShPost 2 wd (lowI wd a) n z s p w) := by
  obtain ⟨hW1, hW2, hW3⟩ := W_bd hw
  have hp1 : 1 ≤ wd := by omega
  have hp2 : wd ≤ 64 := by omega
  have hlb := low_bd wd a
  obtain ⟨A, hA⟩ : ∃ A, A = lowI wd a := ⟨_, rfl⟩
  have hAu : U64 A := by rw [hA]; exact low_lt hw
  rw [← hA] at hlb ⊢
  obtain ⟨hA0, hA1⟩ := hlb
  have hA' := Lib.hid hA
  have hc0 := hc.1
  have hn0 : ((n : Int) == 0) = false := by simp; omega
  have hW4 : wd.toNat ≤ n → wd ≤ n := by omega
  clear hA hW3
  go_enter Try.func22, Try.ntmps22
  go_wp2_with (first | (go_at_call 32; refine (Low_any _ _ _ hw h).mono ?_; rw [← hA'.out]; rintro e w1 ⟨rfl, rfl⟩))
  go_loop [13, 14, 15] (fun v q i => ∃ (k : Nat) (y : Int) (r : Bool), k ≤ n ∧ ShR 2 wd A k y r ∧ i = .int .i64 k ∧ v = .int .u64 y ∧ q = .bool r) (fun _ _ i => n - (intOf i).toNat)
  case atStart => exact ⟨0, _, _, by omega, ShR_0 hw hA0 hA1, rfl, rfl, rfl⟩
  case round =>
    obtain ⟨k, y, r, hk, hy, rfl, rfl, rfl⟩ := hrel
    have hyb := shO_bd (op := 2) hw hA0 hA1 k
    rw [← hy.1] at hyb
    have hyu := shO_u (op := 2) hw hA0 hA1 k
    rw [← hy.1] at hyu
    by_cases hlt : k < n
    · go_wp2_with (first | (go_at_call 49; refine (step_any _ _ _ _ hw hyu hyb.2 (by omega)).mono ?_; rintro e w1 ⟨rfl, rfl⟩))
      exact ⟨⟨k + 1, _, _, by omega, ShR_step hw hA0 hA1 (by omega) hy, by go_num, rfl, rfl⟩, by simp [intOf]; omega⟩
    · obtain rfl : k = n := by omega
      obtain ⟨hy1, hy2⟩ := hy
      have hy1' := Lib.hid hy1
      have hy2' := Lib.hid (hy2 hn1)
      clear hy1 hy2
      go_wp2_with (first | (go_at_call 44; refine (Top_any _ _ _ hp1 hp2 (by assumption)).mono ?_; rintro e w1 ⟨rfl, rfl⟩))
      all_goals
        refine (By_any _ _ _ _ _ _ _ _ hp1 hp2 hyu).mono ?_
        rintro e w3 ⟨rfl, hb3⟩
        have hz5 := hb3.size
        have hz6 : w.heap.size + 1 < w3.heap.size := by simp at hz5; omega
        have hblk : w3.heap[w.heap.size + 1]? = some (.cells #[.bool false, .bool false, .bool false, .bool false, .bool false] 34 (0, 0)) := by
          rw [hb3.block _ (by simp)]
          exact two_blocks w _ _
        obtain ⟨g0, g1, g2, g3, g4, f0⟩ := cells5 hblk
        have hfin : Below w.heap.size w w3 := (((Below.refl _ _).alloc (Nat.le_refl _) _).alloc (by simp) _).trans (hb3.mono (by simp; omega))
        have hfin' := Lib.hid hfin
        clear hb3 hblk hfin hz5
        go_wp2_with fail
        refine bodyPost_ret (v := .tuple #[.int .u64 y, .agg #[.bool (false), .bool (y == 0), .bool (topB wd y), .bool (topB wd A), .bool (parB y)]]) (by simp [results, Try.results22, go_sem, g0, g1, g2, g3, g4, bne]) rfl ⟨?_, ?_⟩
        · have hcc : shC 2 wd A k = false := by rw [shC_2 hw hA0 hA1 hn1, ← hy2'.out, decide_eq_false (by simp at hbig; omega)]; simp
          have hvv : shV 2 wd A k = topB wd A := by simp [shV]
          simp only [shFl]
          rw [if_pos (by omega), hcc, hvv, hy1'.out]
        · exact below_set5 hfin'.out (by omega) _ _ _ _ _

set_option maxHeartbeats 1000000 in
theorem refShift_2qS (wd a cn : Int) (n : Nat) (c z s o p : Bool) (w : World) (hw : MayW wd) (h : U64 a) (hc : U64 cn) (h64 : (wd == 64) = true) (hn : cn % 64 = (n : Int)) (hn1 : 1 ≤ n) (hn2 : n < 64) (hbig : decide (wd < (n : Int)) = false) :
    Calls Try.prog 22 #[.int .i64 2, .int .i64 wd, .int .u64 a, .int .u64 cn, .agg #[.bool c, .bool z, .bool s, .bool o, .bool p]] w (RefShPost 2 wd (lowI wd a) n z s p w) := by
  obtain ⟨hW1, hW2, hW3⟩ := W_bd hw
  have hp1 : 1 ≤ wd := by omega
  have hp2 : wd ≤ 64 := by omega
  have hlb := low_bd wd a
  obtain ⟨A, hA⟩ : ∃ A, A = lowI wd a := ⟨_, rfl⟩
  have hAu : U64 A := by rw [hA]; exact low_lt hw
  rw [← hA] at hlb ⊢
  obtain ⟨hA0, hA1⟩ := hlb
  have hA' := Lib.hid hA
  have hc0 := hc.1
  have hn0 : ((n : Int) == 0) = false := by simp; omega
  have hW4 : wd.toNat ≤ n → wd ≤ n := by omega
  clear hA hW3
  go_enter Try.func22, Try.ntmps22
  go_wp2_with (first | (go_at_call 32; refine (Low_any _ _ _ hw h).mono ?_; rw [← hA'.out]; rintro e w1 ⟨rfl, rfl⟩))
  go_loop [13, 14, 15] (fun v q i => ∃ (k : Nat) (y : Int) (r : Bool), k ≤ n ∧ ShR 2 wd A k y r ∧ i = .int .i64 k ∧ v = .int .u64 y ∧ q = .bool r) (fun _ _ i => n - (intOf i).toNat)
  case atStart => exact ⟨0, _, _, by omega, ShR_0 hw hA0 hA1, rfl, rfl, rfl⟩
  case round =>
    obtain ⟨k, y, r, hk, hy, rfl, rfl, rfl⟩ := hrel
    have hyb := shO_bd (op := 2) hw hA0 hA1 k
    rw [← hy.1] at hyb
    have hyu := shO_u (op := 2) hw hA0 hA1 k
    rw [← hy.1] at hyu
    by_cases hlt : k < n
    · go_wp2_with (first | (go_at_call 49; refine (step_any _ _ _ _ hw hyu hyb.2 (by omega)).mono ?_; rintro e w1 ⟨rfl, rfl⟩))
      exact ⟨⟨k + 1, _, _, by omega, ShR_step hw hA0 hA1 (by omega) hy, by go_num, rfl, rfl⟩, by simp [intOf]; omega⟩
    · obtain rfl : k = n := by omega
      obtain ⟨hy1, hy2⟩ := hy
      have hy1' := Lib.hid hy1
      have hy2' := Lib.hid (hy2 hn1)
      clear hy1 hy2
      go_wp2_with (first | (go_at_call 44; refine (Top_any _ _ _ hp1 hp2 (by assumption)).mono ?_; rintro e w1 ⟨rfl, rfl⟩))
      all_goals
        refine (By_any _ _ _ _ _ _ _ _ hp1 hp2 hyu).mono ?_
        rintro e w3 ⟨rfl, hb3⟩
        have hz5 := hb3.size
        have hz6 : w.heap.size + 1 < w3.heap.size := by simp at hz5; omega
        have hblk : w3.heap[w.heap.size + 1]? = some (.cells #[.bool false, .bool false, .bool false, .bool false, .bool false] 34 (0, 0)) := by
          rw [hb3.block _ (by simp)]
          exact two_blocks w _ _
        obtain ⟨g0, g1, g2, g3, g4, f0⟩ := cells5 hblk
        have hfin : Below w.heap.size w w3 := (((Below.refl _ _).alloc (Nat.le_refl _) _).alloc (by simp) _).trans (hb3.mono (by simp; omega))
        have hfin' := Lib.hid hfin
        clear hb3 hblk hfin hz5
        go_wp2_with fail
        refine bodyPost_ret (v := .tuple #[.int .u64 y, .agg #[.bool (r), .bool (y == 0), .bool (topB wd y), .bool (topB wd A), .bool (parB y)]]) (by simp [results, Try.results22, go_sem, g0, g1, g2, g3, g4, bne]) rfl ⟨?_, ?_⟩
        · have hcc : shC 2 wd A k = r := by rw [shC_2 hw hA0 hA1 hn1, ← hy2'.out, decide_eq_true (by simp at hbig; omega)]; simp
          have hvv : shV 2 wd A k = topB wd A := by simp [shV]
          simp only [shFl]
          rw [if_pos (by omega), hcc, hvv, hy1'.out]
        · exact below_set5 hfin'.out (by omega) _ _ _ _ _

set_option maxHeartbeats 1000000 in
theorem refShift_3hS (wd a cn : Int) (n : Nat) (c z s o p : Bool) (w : World) (hw : MayW wd) (h : U64 a) (hc : U64 cn) (h64 : (wd == 64) = false) (hn : cn % 32 = (n : Int)) (hn1 : 1 ≤ n) (hn2 : n < 64) (hbig : decide (wd < (n : Int)) = false) :
    Calls Try.prog 22 #[.int .i64 3, .int .i64 wd, .int .u64 a, .int .u64 cn, .agg #[.bool c, .bool z, .bool s, .bool o, .bool p]] w (RefShPost 3 wd (lowI wd a) n z s p w) := by
  obtain ⟨hW1, hW2, hW3⟩ := W_bd hw
  have hp1 : 1 ≤ wd := by omega
  have hp2 : wd ≤ 64 := by omega
  have hlb := low_bd wd a
  obtain ⟨A, hA⟩ : ∃ A, A = lowI wd a := ⟨_, rfl⟩
  have hAu : U64 A := by rw [hA]; exact low_lt hw
  rw [← hA] at hlb ⊢
  obtain ⟨hA0, hA1⟩ := hlb
  have hA' := Lib.hid hA
  have hc0 := hc.1
  have hn0 : ((n : Int) == 0) = false := by simp; omega
  have hW4 : wd.toNat ≤ n → wd ≤ n := by omega
  clear hA hW3
  go_enter Try.func22, Try.ntmps22
  go_wp2_with (first | (go_at_call 32; refine (Low_any _ _ _ hw h).mono ?_; rw [← hA'.out]; rintro e w1 ⟨rfl, rfl⟩))
  go_loop [13, 14, 15] (fun v q i => ∃ (k : Nat) (y : Int) (r : Bool), k ≤ n ∧ ShR 3 wd A k y r ∧ i = .int .i64 k ∧ v = .int .u64 y ∧ q = .bool r) (fun _ _ i => n - (intOf i).toNat)
  case atStart => exact ⟨0, _, _, by omega, ShR_0 hw hA0 hA1, rfl, rfl, rfl⟩
  case round =>
    obtain ⟨k, y, r, hk, hy, rfl, rfl, rfl⟩ := hrel
    have hyb := shO_bd (op := 3) hw hA0 hA1 k
    rw [← hy.1] at hyb
    have hyu := shO_u (op := 3) hw hA0 hA1 k
    rw [← hy.1] at hyu
    by_cases hlt : k < n
    · go_wp2_with (first | (go_at_call 49; refine (step_any _ _ _ _ hw hyu hyb.2 (by omega)).mono ?_; rintro e w1 ⟨rfl, rfl⟩))
      exact ⟨⟨k + 1, _, _, by omega, ShR_step hw hA0 hA1 (by omega) hy, by go_num, rfl, rfl⟩, by simp [intOf]; omega⟩
    · obtain rfl : k = n := by omega
      obtain ⟨hy1, hy2⟩ := hy
      have hy1' := Lib.hid hy1
      have hy2' := Lib.hid (hy2 hn1)
      clear hy1 hy2
      go_wp2_with (first | (go_at_call 44; refine (Top_any _ _ _ hp1 hp2 (by assumption)).mono ?_; rintro e w1 ⟨rfl, rfl⟩))
      all_goals
        refine (By_any _ _ _ _ _ _ _ _ hp1 hp2 hyu).mono ?_
        rintro e w3 ⟨rfl, hb3⟩
        have hz5 := hb3.size
        have hz6 : w.heap.size + 1 < w3.heap.size := by simp at hz5; omega
        have hblk : w3.heap[w.heap.size + 1]? = some (.cells #[.bool false, .bool false, .bool false, .bool false, .bool false] 34 (0, 0)) := by
          rw [hb3.block _ (by simp)]
          exact two_blocks w _ _
        obtain ⟨g0, g1, g2, g3, g4, f0⟩ := cells5 hblk
        have hfin : Below w.heap.size w w3 := (((Below.refl _ _).alloc (Nat.le_refl _) _).alloc (by simp) _).trans (hb3.mono (by simp; omega))
        have hfin' := Lib.hid hfin
        clear hb3 hblk hfin hz5
        go_wp2_with fail
        refine bodyPost_ret (v := .tuple #[.int .u64 y, .agg #[.bool (r), .bool (y == 0), .bool (topB wd y), .bool (false), .bool (parB y)]]) (by simp [results, Try.results22, go_sem, g0, g1, g2, g3, g4, bne]) rfl ⟨?_, ?_⟩
        · have hcc : shC 3 wd A k = r := by rw [shC_3 hw hA0 hA1 hn1, ← hy2'.out, if_pos (by simp at hbig; omega)]
          have hvv : shV 3 wd A k = false := by simp [shV]
          simp only [shFl]
          rw [if_pos (by omega), hcc, hvv, hy1'.out]
        · exact below_set5 hfin'.out (by omega) _ _ _ _ _

set_option maxHeartbeats 1000000 in
theorem refShift_3hB (wd a cn : Int) (n : Nat) (c z s o p : Bool) (w : World) (hw : MayW wd) (h : U64 a) (hc : U64 cn) (h64 : (wd == 64) = false) (hn : cn % 32 = (n : Int)) (hn1 : 1 ≤ n) (hn2 : n < 64) (hbig : decide (wd < (n : Int)) = true) :
    Calls Try.prog 22 #[.int .i64 3, .int .i64 wd, .int .u64 a, .int .u64 cn, .agg #[.bool c, .bool z, .bool s, .bool o, .bool p]] w (RefShPost 3 wd (lowI wd a) n z s p w) := by
  obtain ⟨hW1, hW2, hW3⟩ := W_bd hw
  have hp1 : 1 ≤ wd := by omega
  have hp2 : wd ≤ 64 := by omega
  have hlb := low_bd wd a
  obtain ⟨A, hA⟩ : ∃ A, A = lowI wd a := ⟨_, rfl⟩
  have hAu : U64 A := by rw [hA]; exact low_lt hw
  rw [← hA] at hlb ⊢
  obtain ⟨hA0, hA1⟩ := hlb
  have hA' := Lib.hid hA
  have hc0 := hc.1
  have hn0 : ((n : Int) == 0) = false := by simp; omega
  have hW4 : wd.toNat ≤ n → wd ≤ n := by omega
  clear hA hW3
  go_enter Try.func22, Try.ntmps22
  go_wp2_with (first | (go_at_call 32; refine (Low_any _ _ _ hw h).mono ?_; rw [← hA'.out]; rintro e w1 ⟨rfl, rfl⟩))
  go_loop [13, 14, 15] (fun v q i => ∃ (k : Nat) (y : Int) (r : Bool), k ≤ n ∧ ShR 3 wd A k y r ∧ i = .int .i64 k ∧ v = .int .u64 y ∧ q = .bool r) (fun _ _ i => n - (intOf i).toNat)
  case atStart => exact ⟨0, _, _, by omega, ShR_0 hw hA0 hA1, rfl, rfl, rfl⟩
  case round =>
    obtain ⟨k, y, r, hk, hy, rfl, rfl, rfl⟩ := hrel
    have hyb := shO_bd (op := 3) hw hA0 hA1 k
    rw [← hy.1] at hyb
    have hyu := shO_u (op := 3) hw hA0 hA1 k
    rw [← hy.1] at hyu
    by_cases hlt : k < n
    · go_wp2_with (first | (go_at_call 49; refine (step_any _ _ _ _ hw hyu hyb.2 (by omega)).mono ?_; rintro e w1 ⟨rfl, rfl⟩))
      exact ⟨⟨k + 1, _, _, by omega, ShR_step hw hA0 hA1 (by omega) hy, by go_num, rfl, rfl⟩, by simp [intOf]; omega⟩
    · obtain rfl : k = n := by omega
      obtain ⟨hy1, hy2⟩ := hy
      have hy1' := Lib.hid hy1
      have hy2' := Lib.hid (hy2 hn1)
      clear hy1 hy2
      go_wp2_with (first | (go_at_call 44; refine (Top_any _ _ _ hp1 hp2 (by assumption)).mono ?_; rintro e w1 ⟨rfl, rfl⟩))
      all_goals
        refine (By_any _ _ _ _ _ _ _ _ hp1 hp2 hyu).mono ?_
        rintro e w3 ⟨rfl, hb3⟩
        have hz5 := hb3.size
        have hz6 : w.heap.size + 1 < w3.heap.size := by simp at hz5; omega
        have hblk : w3.heap[w.heap.size + 1]? = some (.cells #[.bool false, .bool false, .bool false, .bool false, .bool false] 34 (0, 0)) := by
          rw [hb3.block _ (by simp)]
          exact two_blocks w _ _
        obtain ⟨g0, g1, g2, g3, g4, f0⟩ := cells5 hblk
        have hfin : Below w.heap.size w w3 := (((Below.refl _ _).alloc (Nat.le_refl _) _).alloc (by simp) _).trans (hb3.mono (by simp; omega))
        have hfin' := Lib.hid hfin
        clear hb3 hblk hfin hz5
        go_wp2_with fail
        refine bodyPost_ret (v := .tuple #[.int .u64 y, .agg #[.bool (topB wd A), .bool (y == 0), .bool (topB wd y), .bool (false), .bool (parB y)]]) (by simp [results, Try.results22, go_sem, g0, g1, g2, g3, g4, bne]) rfl ⟨?_, ?_⟩
        · have hcc : shC 3 wd A k = topB wd A := by rw [shC_3 hw hA0 hA1 hn1, ← hy2'.out, if_neg (by simp at hbig; omega)]
          have hvv : shV 3 wd A k = false := by simp [shV]
          simp only [shFl]
          rw [if_pos (by omega), hcc, hvv, hy1'.out]
        · exact below_set5 hfin'.out (by omega) _ _ _ _ _

set_option maxHeartbeats 1000000 in
theorem refShift_3qS (wd a cn : Int) (n : Nat) (c z s o p : Bool) (w : World) (hw : MayW wd) (h : U64 a) (hc : U64 cn) (h64 : (wd == 64) = true) (hn : cn % 64 = (n : Int)) (hn1 : 1 ≤ n) (hn2 : n < 64) (hbig : decide (wd < (n : Int)) = false) :
    Calls Try.prog 22 #[.int .i64 3, .int .i64 wd, .int .u64 a, .int .u64 cn, .agg #[.bool c, .bool z, .bool s, .bool o, .bool p]] w (RefShPost 3 wd (lowI wd a) n z s p w) := by
  obtain ⟨hW1, hW2, hW3⟩ := W_bd hw
  have hp1 : 1 ≤ wd := by omega
  have hp2 : wd ≤ 64 := by omega
  have hlb := low_bd wd a
  obtain ⟨A, hA⟩ : ∃ A, A = lowI wd a := ⟨_, rfl⟩
  have hAu : U64 A := by rw [hA]; exact low_lt hw
  rw [← hA] at hlb ⊢
  obtain ⟨hA0, hA1⟩ := hlb
  have hA' := Lib.hid hA
  have hc0 := hc.1
  have hn0 : ((n : Int) == 0) = false := by simp; omega
  have hW4 : wd.toNat ≤ n → wd ≤ n := by omega
  clear hA hW3
  go_enter Try.func22, Try.ntmps22
  go_wp2_with (first | (go_at_call 32; refine (Low_any _ _ _ hw h).mono ?_; rw [← hA'.out]; rintro e w1 ⟨rfl, rfl⟩))
  go_loop [13, 14, 15] (fun v q i => ∃ (k : Nat) (y : Int) (r : Bool), k ≤ n ∧ ShR 3 wd A k y r ∧ i = .int .i64 k ∧ v = .int .u64 y ∧ q = .bool r) (fun _ _ i => n - (intOf i).toNat)
  case atStart => exact ⟨0, _, _, by omega, ShR_0 hw hA0 hA1, rfl, rfl, rfl⟩
  case round =>
    obtain ⟨k, y, r, hk, hy, rfl, rfl, rfl⟩ := hrel
    have hyb := shO_bd (op := 3) hw hA0 hA1 k
    rw [← hy.1] at hyb
    have hyu := shO_u (op := 3) hw hA0 hA1 k
    rw [← hy.1] at hyu
    by_cases hlt : k < n
    · go_wp2_with (first | (go_at_call 49; refine (step_any _ _ _ _ hw hyu hyb.2 (by omega)).mono ?_; rintro e w1 ⟨rfl, rfl⟩))
      exact ⟨⟨k + 1, _, _, by omega, ShR_step hw hA0 hA1 (by omega) hy, by go_num, rfl, rfl⟩, by simp [intOf]; omega⟩
    · obtain rfl : k = n := by omega
      obtain ⟨hy1, hy2⟩ := hy
      have hy1' := Lib.hid hy1
      have hy2' := Lib.hid (hy2 hn1)
      clear hy1 hy2
      go_wp2_with (first | (go_at_call 44; refine (Top_any _ _ _ hp1 hp2 (by assumption)).mono ?_; rintro e w1 ⟨rfl, rfl⟩))
      all_goals
        refine (By_any _ _ _ _ _ _ _ _ hp1 hp2 hyu).mono ?_
        rintro e w3 ⟨rfl, hb3⟩
        have hz5 := hb3.size
        have hz6 : w.heap.size + 1 < w3.heap.size := by simp at hz5; omega
        have hblk : w3.heap[w.heap.size + 1]? = some (.cells #[.bool false, .bool false, .bool false, .bool false, .bool false] 34 (0, 0)) := by
          rw [hb3.block _ (by simp)]
          exact two_blocks w _ _
        obtain ⟨g0, g1, g2, g3, g4, f0⟩ := cells5 hblk
        have hfin : Below w.heap.size w w3 := (((Below.refl _ _).alloc (Nat.le_refl _) _).alloc (by simp) _).trans (hb3.mono (by simp; omega))
        have hfin' := Lib.hid hfin
        clear hb3 hblk hfin hz5
        go_wp2_with fail
        refine bodyPost_ret (v := .tuple #[.int .u64 y, .agg #[.bool (r), .bool (y == 0), .bool (topB wd y), .bool (false), .bool (parB y)]]) (by simp [results, Try.results22, go_sem, g0, g1, g2, g3, g4, bne]) rfl ⟨?_, ?_⟩
        · have hcc : shC 3 wd A k = r := by rw [shC_3 hw hA0 hA1 hn1, ← hy2'.out, if_pos (by simp at hbig; omega)]
          have hvv : shV 3 wd A k = false := by simp [shV]
          simp only [shFl]
          rw [if_pos (by omega), hcc, hvv, hy1'.out]
        · exact below_set5 hfin'.out (by omega) _ _ _ _ _

set_option maxHeartbeats 1000000 in
theorem refShift_4h (wd a cn : Int) (n : Nat) (c z s o p : Bool) (w : World) (hw : MayW wd) (h : U64 a) (hc : U64 cn) (h64 : (wd == 64) = false) (hn : cn % 32 = (n : Int)) (hn1 : 1 ≤ n) (hn2 : n < 64) :
    Calls Try.prog 22 #[.int .i64 4, .int .i64 wd, .int .u64 a, .int .u64 cn, .agg #[.bool c, .bool z, .bool s, .bool o, .bool p]] w (RefShPost 4 wd (lowI wd a) n z s p w) := by
  obtain ⟨hW1, hW2, hW3⟩ := W_bd hw
  have hp1 : 1 ≤ wd := by omega
  have hp2 : wd ≤ 64 := by omega
  have hlb := low_bd wd a
  obtain ⟨A, hA⟩ : ∃ A, A = lowI wd a := ⟨_, rfl⟩
  have hAu : U64 A := by rw [hA]; exact low_lt hw
  rw [← hA] at hlb ⊢
  obtain ⟨hA0, hA1⟩ := hlb
  have hA' := Lib.hid hA
  have hc0 := hc.1
  have hn0 : ((n : Int) == 0) = false := by simp; omega
  have hW4 : wd.toNat ≤ n → wd ≤ n := by omega
  clear hA hW3
  go_enter Try.func22, Try.ntmps22
  go_wp2_with (first | (go_at_call 32; refine (Low_any _ _ _ hw h).mono ?_; rw [← hA'.out]; rintro e w1 ⟨rfl, rfl⟩))
  go_loop [13, 14, 15] (fun v q i => ∃ (k : Nat) (y : Int) (r : Bool), k ≤ n ∧ ShR 4 wd A k y r ∧ i = .int .i64 k ∧ v = .int .u64 y ∧ q = .bool r) (fun _ _ i => n - (intOf i).toNat)
  case atStart => exact ⟨0, _, _, by omega, ShR_0 hw hA0 hA1, rfl, rfl, rfl⟩
  case round =>
    obtain ⟨k, y, r, hk, hy, rfl, rfl, rfl⟩ := hrel
    have hyb := shO_bd (op := 4) hw hA0 hA1 k
    rw [← hy.1] at hyb
    have hyu := shO_u (op := 4) hw hA0 hA1 k
    rw [← hy.1] at hyu
    by_cases hlt : k < n
    · go_wp2_with (first | (go_at_call 49; refine (step_any _ _ _ _ hw hyu hyb.2 (by omega)).mono ?_; rintro e w1 ⟨rfl, rfl⟩))
      exact ⟨⟨k + 1, _, _, by omega, ShR_step hw hA0 hA1 (by omega) hy, by go_num, rfl, rfl⟩, by simp [intOf]; omega⟩
    · obtain rfl : k = n := by omega
      obtain ⟨hy1, hy2⟩ := hy
      have hy1' := Lib.hid hy1
      have hy2' := Lib.hid (hy2 hn1)
      clear hy1 hy2
      go_wp2_with fail
      all_goals go_region_with (go_at_call 44; refine (Top_any _ _ _ hp1 hp2 (by assumption)).mono ?_; rintro e w1 ⟨rfl, rfl⟩)
      all_goals go_wp2_with fail
      all_goals go_region
      all_goals go_wp2_with fail
      all_goals
        refine bodyPost_ret (v := .tuple #[.int .u64 y, .agg #[.bool (y % 2 == 1), .bool z, .bool s, .bool ((y % 2 == 1) != topB wd y), .bool p]]) (by simp [results, Try.results22, go_sem, bne]) rfl ⟨?_, ?_⟩
        · rw [hy1'.out]; rfl
        · exact (((Below.refl _ _).alloc (Nat.le_refl _) _).alloc (by simp) _).drew.drew

set_option maxHeartbeats 1000000 in
theorem refShift_4q (wd a cn : Int) (n : Nat) (c z s o p : Bool) (w : World) (hw : MayW wd) (h : U64 a) (hc : U64 cn) (h64 : (wd == 64) = true) (hn : cn % 64 = (n : Int)) (hn1 : 1 ≤ n) (hn2 : n < 64) :
    Calls Try.prog 22 #[.int .i64 4, .int .i64 wd, .int .u64 a, .int .u64 cn, .agg #[.bool c, .bool z, .bool s, .bool o, .bool p]] w (RefShPost 4 wd (lowI wd a) n z s p w) := by
  obtain ⟨hW1, hW2, hW3⟩ := W_bd hw
  have hp1 : 1 ≤ wd := by omega
  have hp2 : wd ≤ 64 := by omega
  have hlb := low_bd wd a
  obtain ⟨A, hA⟩ : ∃ A, A = lowI wd a := ⟨_, rfl⟩
  have hAu : U64 A := by rw [hA]; exact low_lt hw
  rw [← hA] at hlb ⊢
  obtain ⟨hA0, hA1⟩ := hlb
  have hA' := Lib.hid hA
  have hc0 := hc.1
  have hn0 : ((n : Int) == 0) = false := by simp; omega
  have hW4 : wd.toNat ≤ n → wd ≤ n := by omega
  clear hA hW3
  go_enter Try.func22, Try.ntmps22
  go_wp2_with (first | (go_at_call 32; refine (Low_any _ _ _ hw h).mono ?_; rw [← hA'.out]; rintro e w1 ⟨rfl, rfl⟩))
  go_loop [13, 14, 15] (fun v q i => ∃ (k : Nat) (y : Int) (r : Bool), k ≤ n ∧ ShR 4 wd A k y r ∧ i = .int .i64 k ∧ v = .int .u64 y ∧ q = .bool r) (fun _ _ i => n - (intOf i).toNat)
  case atStart => exact ⟨0, _, _, by omega, ShR_0 hw hA0 hA1, rfl, rfl, rfl⟩
  case round =>
    obtain ⟨k, y, r, hk, hy, rfl, rfl, rfl⟩ := hrel
    have hyb := shO_bd (op := 4) hw hA0 hA1 k
    rw [← hy.1] at hyb
    have hyu := shO_u (op := 4) hw hA0 hA1 k
    rw [← hy.1] at hyu
    by_cases hlt : k < n
    · go_wp2_with (first | (go_at_call 49; refine (step_any _ _ _ _ hw hyu hyb.2 (by omega)).mono ?_; rintro e w1 ⟨rfl, rfl⟩))
      exact ⟨⟨k + 1, _, _, by omega, ShR_step hw hA0 hA1 (by omega) hy, by go_num, rfl, rfl⟩, by simp [intOf]; omega⟩
    · obtain rfl : k = n := by omega
      obtain ⟨hy1, hy2⟩ := hy
      have hy1' := Lib.hid hy1
      have hy2' := Lib.hid (hy2 hn1)
      clear hy1 hy2
      go_wp2_with fail
      all_goals go_region_with (go_at_call 44; refine (Top_any _ _ _ hp1 hp2 (by assumption)).mono ?_; rintro e w1 ⟨rfl, rfl⟩)
      all_goals go_wp2_with fail
      all_goals go_region
      all_goals go_wp2_with fail
      all_goals
        refine bodyPost_ret (v := .tuple #[.int .u64 y, .agg #[.bool (y % 2 == 1), .bool z, .bool s, .bool ((y % 2 == 1) != topB wd y), .bool p]]) (by simp [results, Try.results22, go_sem, bne]) rfl ⟨?_, ?_⟩
        · rw [hy1'.out]; rfl
        · exact (((Below.refl _ _).alloc (Nat.le_refl _) _).alloc (by simp) _).drew.drew

set_option maxHeartbeats 1000000 in
theorem refShift_5h (wd a cn : Int) (n : Nat) (c z s o p : Bool) (w : World) (hw : MayW wd) (h : U64 a) (hc : U64 cn) (h64 : (wd == 64) = false) (hn : cn % 32 = (n : Int)) (hn1 : 1 ≤ n) (hn2 : n < 64) :
    Calls Try.prog 22 #[.int .i64 5, .int .i64 wd, .int .u64 a, .int .u64 cn, .agg #[.bool c, .bool z, .bool s, .bool o, .bool p]] w (RefShPost 5 wd (lowI wd a) n z s p w) := by
  obtain ⟨hW1, hW2, hW3⟩ := W_bd hw
  have hp1 : 1 ≤ wd := by omega
  have hp2 : wd ≤ 64 := by omega
  have hlb := low_bd wd a
  obtain ⟨A, hA⟩ : ∃ A, A = lowI wd a := ⟨_, rfl⟩
  have hAu : U64 A := by rw [hA]; exact low_lt hw
  rw [← hA] at hlb ⊢
  obtain ⟨hA0, hA1⟩ := hlb
  have hA' := Lib.hid hA
  have hc0 := hc.1
  have hn0 : ((n : Int) == 0) = false := by simp; omega
  have hW4 : wd.toNat ≤ n → wd ≤ n := by omega
  clear hA hW3
  go_enter Try.func22, Try.ntmps22
  go_wp2_with (first | (go_at_call 32; refine (Low_any _ _ _ hw h).mono ?_; rw [← hA'.out]; rintro e w1 ⟨rfl, rfl⟩))
  go_loop [13, 14, 15] (fun v q i => ∃ (k : Nat) (y : Int) (r : Bool), k ≤ n ∧ ShR 5 wd A k y r ∧ i = .int .i64 k ∧ v = .int .u64 y ∧ q = .bool r) (fun _ _ i => n - (intOf i).toNat)
  case atStart => exact ⟨0, _, _, by omega, ShR_0 hw hA0 hA1, rfl, rfl, rfl⟩
  case round =>
    obtain ⟨k, y, r, hk, hy, rfl, rfl, rfl⟩ := hrel
    have hyb := shO_bd (op := 5) hw hA0 hA1 k
    rw [← hy.1] at hyb
    have hyu := shO_u (op := 5) hw hA0 hA1 k
    rw [← hy.1] at hyu
    by_cases hlt : k < n
    · go_wp2_with (first | (go_at_call 49; refine (step_any _ _ _ _ hw hyu hyb.2 (by omega)).mono ?_; rintro e w1 ⟨rfl, rfl⟩))
      exact ⟨⟨k + 1, _, _, by omega, ShR_step hw hA0 hA1 (by omega) hy, by go_num, rfl, rfl⟩, by simp [intOf]; omega⟩
    · obtain rfl : k = n := by omega
      obtain ⟨hy1, hy2⟩ := hy
      have hy1' := Lib.hid hy1
      have hy2' := Lib.hid (hy2 hn1)
      clear hy1 hy2
      have hl2 := Lib.hid (low_wrap2 hw y)
      have hwu := wrap_u (y * 2)
      have hlu : U64 (lowI wd (y * 2)) := low_lt hw
      go_wp2_with (first | (go_at_call 44; refine (Top_any _ _ _ hp1 hp2 (by assumption)).mono ?_; rintro e w1 ⟨rfl, rfl⟩) | (go_at_call 32; refine (Low_any _ _ _ hw hwu).mono ?_; rw [hl2.out]; rintro e w1 ⟨rfl, rfl⟩))
      all_goals go_region
      all_goals go_wp2_with fail
      all_goals
        refine bodyPost_ret (v := .tuple #[.int .u64 y, .agg #[.bool (topB wd y), .bool z, .bool s, .bool (topB wd y != topB wd (lowI wd (y * 2))), .bool p]]) (by simp [results, Try.results22, go_sem, bne]) rfl ⟨?_, ?_⟩
        · rw [topB_twice hw, hy1'.out]; rfl
        · exact (((Below.refl _ _).alloc (Nat.le_refl _) _).alloc (by simp) _).drew

set_option maxHeartbeats 1000000 in
theorem refShift_5q (wd a cn : Int) (n : Nat) (c z s o p : Bool) (w : World) (hw : MayW wd) (h : U64 a) (hc : U64 cn) (h64 : (wd == 64) = true) (hn : cn % 64 = (n : Int)) (hn1 : 1 ≤ n) (hn2 : n < 64) :
    Calls Try.prog 22 #[.int .i64 5, .int .i64 wd, .int .u64 a, .int .u64 cn, .agg #[.bool c, .bool z, .bool s, .bool o, .bool p]] w (RefShPost 5 wd (lowI wd a) n z s p w) := by
  obtain ⟨hW1, hW2, hW3⟩ := W_bd hw
  have hp1 : 1 ≤ wd := by omega
  have hp2 : wd ≤ 64 := by omega
  have hlb := low_bd wd a
  obtain ⟨A, hA⟩ : ∃ A, A = lowI wd a := ⟨_, rfl⟩
  have hAu : U64 A := by rw [hA]; exact low_lt hw
  rw [← hA] at hlb ⊢
  obtain ⟨hA0, hA1⟩ := hlb
  have hA' := Lib.hid hA
  have hc0 := hc.1
  have hn0 : ((n : Int) == 0) = false := by simp; omega
  have hW4 : wd.toNat ≤ n → wd ≤ n := by omega
  clear hA hW3
  go_enter Try.func22, Try.ntmps22
  go_wp2_with (first | (go_at_call 32; refine (Low_any _ _ _ hw h).mono ?_; rw [← hA'.out]; rintro e w1 ⟨rfl, rfl⟩))
  go_loop [13, 14, 15] (fun v q i => ∃ (k : Nat) (y : Int) (r : Bool), k ≤ n ∧ ShR 5 wd A k y r ∧ i = .int .i64 k ∧ v = .int .u64 y ∧ q = .bool r) (fun _ _ i => n - (intOf i).toNat)
  case atStart => exact ⟨0, _, _, by omega, ShR_0 hw hA0 hA1, rfl, rfl, rfl⟩
  case round =>
    obtain ⟨k, y, r, hk, hy, rfl, rfl, rfl⟩ := hrel
    have hyb := shO_bd (op := 5) hw hA0 hA1 k
    rw [← hy.1] at hyb
    have hyu := shO_u (op := 5) hw hA0 hA1 k
    rw [← hy.1] at hyu
    by_cases hlt : k < n
    · go_wp2_with (first | (go_at_call 49; refine (step_any _ _ _ _ hw hyu hyb.2 (by omega)).mono ?_; rintro e w1 ⟨rfl, rfl⟩))
      exact ⟨⟨k + 1, _, _, by omega, ShR_step hw hA0 hA1 (by omega) hy, by go_num, rfl, rfl⟩, by simp [intOf]; omega⟩
    · obtain rfl : k = n := by omega
      obtain ⟨hy1, hy2⟩ := hy
      have hy1' := Lib.hid hy1
      have hy2' := Lib.hid (hy2 hn1)
      clear hy1 hy2
      have hl2 := Lib.hid (low_wrap2 hw y)
      have hwu := wrap_u (y * 2)
      have hlu : U64 (lowI wd (y * 2)) := low_lt hw
      go_wp2_with (first | (go_at_call 44; refine (Top_any _ _ _ hp1 hp2 (by assumption)).mono ?_; rintro e w1 ⟨rfl, rfl⟩) | (go_at_call 32; refine (Low_any _ _ _ hw hwu).mono ?_; rw [hl2.out]; rintro e w1 ⟨rfl, rfl⟩))
      all_goals go_region
      all_goals go_wp2_with fail
      all_goals
        refine bodyPost_ret (v := .tuple #[.int .u64 y, .agg #[.bool (topB wd y), .bool z, .bool s, .bool (topB wd y != topB wd (lowI wd (y * 2))), .bool p]]) (by simp [results, Try.results22, go_sem, bne]) rfl ⟨?_, ?_⟩
        · rw [topB_twice hw, hy1'.out]; rfl
        · exact (((Below.refl _ _).alloc (Nat.le_refl _) _).alloc (by simp) _).drew

end Go.Proofs.Ytkfenljldmbmcaa
