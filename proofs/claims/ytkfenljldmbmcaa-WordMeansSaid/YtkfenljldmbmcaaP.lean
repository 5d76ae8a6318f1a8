/- The contract of Shift. -/
import Derived.Test.YtkfenljldmbmcaaO
import Derived.Test.YtkfenljldmbmcaaP0
set_option linter.unusedSimpArgs false
set_option linter.unusedVariables false
namespace Go.Proofs.Ytkfenljldmbmcaa
open Go.RowKit Go.MapKept

def ShPost (op wd A : Int) (n : Nat) (z s p : Bool) (w : World) (e : Ending) (w' : World) : Prop :=
  e = .returned (.tuple #[.int .u64 (shO op wd A n), shFl op wd A n z s p, .int .i64 0]) ∧ Below w.heap.size w w'

set_option maxRecDepth 100000 in
set_option maxHeartbeats 2000000 in
theorem Shift_1hS (wd a cn : Int) (n : Nat) (c z s o p : Bool) (w : World) (hw : MayW wd) (h : U64 a) (h64 : (wd == 64) = false) (hn : bits BinOp.and IntKind.u64 cn 31 = (n : Int)) (hn1 : 1 ≤ n) (hn2 : n < 64) (hbig : decide ((n : Int) ≤ wd) = true) :
    Calls Try.prog 21 #[.int .i64 1, .int .i64 wd, .int .u64 a, .int .u64 cn, .agg #[.bool c, .bool z, .bool s, .bool o, .bool p]] w (ShPost 1 wd (lowI wd a) n z s p w) := by
  have hmay := mayB_of hw
  obtain ⟨hW1, hW2, hW3⟩ := W_bd hw
  have hp1 : 8 ≤ wd := by omega
  have hp2 : wd ≤ 64 := by omega
  have hlb := low_bd wd a
  obtain ⟨A, hA⟩ : ∃ A, A = lowI wd a := ⟨_, rfl⟩
  have hAu : U64 A := by rw [hA]; exact low_lt hw
  rw [← hA] at hlb ⊢
  obtain ⟨hA0, hA1⟩ := hlb
  have hA' := Lib.hid hA
  have hn0 : ((n : Int) == 0) = false := by simp; omega
  obtain ⟨y, hy⟩ : ∃ y, y = shO 1 wd A n := ⟨_, rfl⟩
  have hyu : U64 y := by rw [hy]; exact shO_u hw hA0 hA1 n
  have hy' := Lib.hid hy
  have hwu := wrap_u (A * 2 ^ n)
  have hwu2 := wrap_u (A * 2 ^ (n - 1))
  have hl := Lib.hid ((low_shl hw n).trans hy.symm)
  have ht := Lib.hid (top_shl (A := A) hw (n - 1))
  have hyu2 := hyu
  have hA0' := hA0
  have hWn : n ≤ wd.toNat ↔ (n : Int) ≤ wd := by omega
  clear hA hy hA1 hW3
  go_enter Try.func21, Try.ntmps21
  go_wp2_with fail
  refine (may_any _ _).mono ?_; rintro e w1 ⟨rfl, rfl⟩
  go_wp2_with fail
  refine (low_any _ _ _ hw h).mono ?_; rw [← hA'.out]; rintro e w1 ⟨rfl, rfl⟩
  go_wp2_with fail
  refine (low_any _ _ _ hw hwu).mono ?_; rw [hl.out]; rintro e w1 ⟨rfl, rfl⟩
  go_wp2_with fail
  refine (top_any _ _ _ (by omega) (by omega) hwu2).mono ?_; rw [ht.out]; rintro e w1 ⟨rfl, rfl⟩
  go_wp2_with fail
  all_goals go_region_with (go_at_call 47; refine (top_any _ _ _ (by omega) (by omega) (by assumption)).mono ?_; rintro e w1 ⟨rfl, rfl⟩)
  all_goals go_wp2_with fail
  all_goals
    refine (by_any _ _ _ _ _ _ _ _ (by omega) (by omega) hyu2).mono ?_
    rintro e w3 ⟨rfl, hb3⟩
    have hz5 := hb3.size
    have hz6 : w.heap.size + 1 < w3.heap.size := by simp at hz5; omega
    have hblk : w3.heap[w.heap.size + 1]? = some (.cells #[.bool false, .bool false, .bool false, .bool false, .bool false] 34 (0, 0)) := by
      rw [hb3.block _ (by simp)]
      exact two_blocks w _ _
    obtain ⟨g0, g1, g2, g3, g4, f0⟩ := cells5 hblk
    have hfin : Below w.heap.size w w3 := (((Below.refl _ _).alloc (Nat.le_refl _) _).alloc (by simp) _).drew.trans (hb3.mono (by simp; omega))
    have hfin' := Lib.hid hfin
    clear hb3 hblk hfin hz5
    go_wp2_with fail
    refine bodyPost_ret (v := .tuple #[.int .u64 y, .agg #[.bool (topB wd (A * 2 ^ (n - 1))), .bool (y == 0), .bool (topB wd y), .bool ((topB wd (A * 2 ^ (n - 1))) != topB wd y), .bool (parB y)], .int .i64 0]) (by simp [results, Try.results21, go_sem, g0, g1, g2, g3, g4, bne]) rfl ⟨?_, ?_⟩
    · have hcc : shC 1 wd A n = (topB wd (A * 2 ^ (n - 1))) := by simp only [shC, if_true]; rw [decide_eq_true (by simp at hbig; omega)]; simp
      have hvv : shV 1 wd A n = ((topB wd (A * 2 ^ (n - 1))) != topB wd y) := by rw [← hcc, hy'.out]; simp [shV]
      simp only [shFl]
      rw [if_pos (by omega), hcc, hvv, hy'.out]
    · exact below_set5 hfin'.out (by omega) _ _ _ _ _

set_option maxRecDepth 100000 in
set_option maxHeartbeats 2000000 in
theorem Shift_1hB (wd a cn : Int) (n : Nat) (c z s o p : Bool) (w : World) (hw : MayW wd) (h : U64 a) (h64 : (wd == 64) = false) (hn : bits BinOp.and IntKind.u64 cn 31 = (n : Int)) (hn1 : 1 ≤ n) (hn2 : n < 64) (hbig : decide ((n : Int) ≤ wd) = false) :
    Calls Try.prog 21 #[.int .i64 1, .int .i64 wd, .int .u64 a, .int .u64 cn, .agg #[.bool c, .bool z, .bool s, .bool o, .bool p]] w (ShPost 1 wd (lowI wd a) n z s p w) := by
  have hmay := mayB_of hw
  obtain ⟨hW1, hW2, hW3⟩ := W_bd hw
  have hp1 : 8 ≤ wd := by omega
  have hp2 : wd ≤ 64 := by omega
  have hlb := low_bd wd a
  obtain ⟨A, hA⟩ : ∃ A, A = lowI wd a := ⟨_, rfl⟩
  have hAu : U64 A := by rw [hA]; exact low_lt hw
  rw [← hA] at hlb ⊢
  obtain ⟨hA0, hA1⟩ := hlb
  have hA' := Lib.hid hA
  have hn0 : ((n : Int) == 0) = false := by simp; omega
  obtain ⟨y, hy⟩ : ∃ y, y = shO 1 wd A n := ⟨_, rfl⟩
  have hyu : U64 y := by rw [hy]; exact shO_u hw hA0 hA1 n
  have hy' := Lib.hid hy
  have hwu := wrap_u (A * 2 ^ n)
  have hwu2 := wrap_u (A * 2 ^ (n - 1))
  have hl := Lib.hid ((low_shl hw n).trans hy.symm)
  have ht := Lib.hid (top_shl (A := A) hw (n - 1))
  have hyu2 := hyu
  have hA0' := hA0
  have hWn : n ≤ wd.toNat ↔ (n : Int) ≤ wd := by omega
  clear hA hy hA1 hW3
  go_enter Try.func21, Try.ntmps21
  go_wp2_with fail
  refine (may_any _ _).mono ?_; rintro e w1 ⟨rfl, rfl⟩
  go_wp2_with fail
  refine (low_any _ _ _ hw h).mono ?_; rw [← hA'.out]; rintro e w1 ⟨rfl, rfl⟩
  go_wp2_with fail
  refine (low_any _ _ _ hw hwu).mono ?_; rw [hl.out]; rintro e w1 ⟨rfl, rfl⟩
  go_wp2_with fail
  all_goals go_region_with (go_at_call 47; refine (top_any _ _ _ (by omega) (by omega) (by assumption)).mono ?_; rintro e w1 ⟨rfl, rfl⟩)
  all_goals go_wp2_with fail
  all_goals
    refine (by_any _ _ _ _ _ _ _ _ (by omega) (by omega) hyu2).mono ?_
    rintro e w3 ⟨rfl, hb3⟩
    have hz5 := hb3.size
    have hz6 : w.heap.size + 1 < w3.heap.size := by simp at hz5; omega
    have hblk : w3.heap[w.heap.size + 1]? = some (.cells #[.bool false, .bool false, .bool false, .bool false, .bool false] 34 (0, 0)) := by
      rw [hb3.block _ (by simp)]
      exact two_blocks w _ _
    obtain ⟨g0, g1, g2, g3, g4, f0⟩ := cells5 hblk
    have hfin : Below w.heap.size w w3 := (((Below.refl _ _).alloc (Nat.le_refl _) _).alloc (by simp) _).drew.trans (hb3.mono (by simp; omega))
    have hfin' := Lib.hid hfin
    clear hb3 hblk hfin hz5
    go_wp2_with fail
    refine bodyPost_ret (v := .tuple #[.int .u64 y, .agg #[.bool false, .bool (y == 0), .bool (topB wd y), .bool (false != topB wd y), .bool (parB y)], .int .i64 0]) (by simp [results, Try.results21, go_sem, g0, g1, g2, g3, g4, bne]) rfl ⟨?_, ?_⟩
    · have hcc : shC 1 wd A n = false := by simp only [shC, if_true]; rw [decide_eq_false (by simp at hbig; omega)]; simp
      have hvv : shV 1 wd A n = (false != topB wd y) := by rw [← hcc, hy'.out]; simp [shV]
      simp only [shFl]
      rw [if_pos (by omega), hcc, hvv, hy'.out]
    · exact below_set5 hfin'.out (by omega) _ _ _ _ _

set_option maxRecDepth 100000 in
set_option maxHeartbeats 2000000 in
theorem Shift_1qS (wd a cn : Int) (n : Nat) (c z s o p : Bool) (w : World) (hw : MayW wd) (h : U64 a) (h64 : (wd == 64) = true) (m : Nat) (hm : m < 32) (hn0' : bits BinOp.and IntKind.u64 cn 31 = (m : Int)) (hn : bits BinOp.and IntKind.u64 cn 63 = (n : Int)) (hn1 : 1 ≤ n) (hn2 : n < 64) (hbig : decide ((n : Int) ≤ wd) = true) :
    Calls Try.prog 21 #[.int .i64 1, .int .i64 wd, .int .u64 a, .int .u64 cn, .agg #[.bool c, .bool z, .bool s, .bool o, .bool p]] w (ShPost 1 wd (lowI wd a) n z s p w) := by
  have hmay := mayB_of hw
  obtain ⟨hW1, hW2, hW3⟩ := W_bd hw
  have hp1 : 8 ≤ wd := by omega
  have hp2 : wd ≤ 64 := by omega
  have hlb := low_bd wd a
  obtain ⟨A, hA⟩ : ∃ A, A = lowI wd a := ⟨_, rfl⟩
  have hAu : U64 A := by rw [hA]; exact low_lt hw
  rw [← hA] at hlb ⊢
  obtain ⟨hA0, hA1⟩ := hlb
  have hA' := Lib.hid hA
  have hn0 : ((n : Int) == 0) = false := by simp; omega
  obtain ⟨y, hy⟩ : ∃ y, y = shO 1 wd A n := ⟨_, rfl⟩
  have hyu : U64 y := by rw [hy]; exact shO_u hw hA0 hA1 n
  have hy' := Lib.hid hy
  have hwu := wrap_u (A * 2 ^ n)
  have hwu2 := wrap_u (A * 2 ^ (n - 1))
  have hl := Lib.hid ((low_shl hw n).trans hy.symm)
  have ht := Lib.hid (top_shl (A := A) hw (n - 1))
  have hyu2 := hyu
  have hA0' := hA0
  have hWn : n ≤ wd.toNat ↔ (n : Int) ≤ wd := by omega
  clear hA hy hA1 hW3
  go_enter Try.func21, Try.ntmps21
  go_wp2_with fail
  refine (may_any _ _).mono ?_; rintro e w1 ⟨rfl, rfl⟩
  go_wp2_with fail
  refine (low_any _ _ _ hw h).mono ?_; rw [← hA'.out]; rintro e w1 ⟨rfl, rfl⟩
  go_wp2_with fail
  refine (low_any _ _ _ hw hwu).mono ?_; rw [hl.out]; rintro e w1 ⟨rfl, rfl⟩
  go_wp2_with fail
  refine (top_any _ _ _ (by omega) (by omega) hwu2).mono ?_; rw [ht.out]; rintro e w1 ⟨rfl, rfl⟩
  go_wp2_with fail
  all_goals go_region_with (go_at_call 47; refine (top_any _ _ _ (by omega) (by omega) (by assumption)).mono ?_; rintro e w1 ⟨rfl, rfl⟩)
  all_goals go_wp2_with fail
  all_goals
    refine (by_any _ _ _ _ _ _ _ _ (by omega) (by omega) hyu2).mono ?_
    rintro e w3 ⟨rfl, hb3⟩
    have hz5 := hb3.size
    have hz6 : w.heap.size + 1 < w3.heap.size := by simp at hz5; omega
    have hblk : w3.heap[w.heap.size + 1]? = some (.cells #[.bool false, .bool false, .bool false, .bool false, .bool false] 34 (0, 0)) := by
      rw [hb3.block _ (by simp)]
      exact two_blocks w _ _
    obtain ⟨g0, g1, g2, g3, g4, f0⟩ := cells5 hblk
    have hfin : Below w.heap.size w w3 := (((Below.refl _ _).alloc (Nat.le_refl _) _).alloc (by simp) _).drew.trans (hb3.mono (by simp; omega))
    have hfin' := Lib.hid hfin
    clear hb3 hblk hfin hz5
    go_wp2_with fail
    refine bodyPost_ret (v := .tuple #[.int .u64 y, .agg #[.bool (topB wd (A * 2 ^ (n - 1))), .bool (y == 0), .bool (topB wd y), .bool ((topB wd (A * 2 ^ (n - 1))) != topB wd y), .bool (parB y)], .int .i64 0]) (by simp [results, Try.results21, go_sem, g0, g1, g2, g3, g4, bne]) rfl ⟨?_, ?_⟩
    · have hcc : shC 1 wd A n = (topB wd (A * 2 ^ (n - 1))) := by simp only [shC, if_true]; rw [decide_eq_true (by simp at hbig; omega)]; simp
      have hvv : shV 1 wd A n = ((topB wd (A * 2 ^ (n - 1))) != topB wd y) := by rw [← hcc, hy'.out]; simp [shV]
      simp only [shFl]
      rw [if_pos (by omega), hcc, hvv, hy'.out]
    · exact below_set5 hfin'.out (by omega) _ _ _ _ _

set_option maxRecDepth 100000 in
set_option maxHeartbeats 2000000 in
theorem Shift_2h (wd a cn : Int) (n : Nat) (c z s o p : Bool) (w : World) (hw : MayW wd) (h : U64 a) (h64 : (wd == 64) = false) (hn : bits BinOp.and IntKind.u64 cn 31 = (n : Int)) (hn1 : 1 ≤ n) (hn2 : n < 64) :
    Calls Try.prog 21 #[.int .i64 2, .int .i64 wd, .int .u64 a, .int .u64 cn, .agg #[.bool c, .bool z, .bool s, .bool o, .bool p]] w (ShPost 2 wd (lowI wd a) n z s p w) := by
  have hmay := mayB_of hw
  obtain ⟨hW1, hW2, hW3⟩ := W_bd hw
  have hp1 : 8 ≤ wd := by omega
  have hp2 : wd ≤ 64 := by omega
  have hlb := low_bd wd a
  obtain ⟨A, hA⟩ : ∃ A, A = lowI wd a := ⟨_, rfl⟩
  have hAu : U64 A := by rw [hA]; exact low_lt hw
  rw [← hA] at hlb ⊢
  obtain ⟨hA0, hA1⟩ := hlb
  have hA' := Lib.hid hA
  have hn0 : ((n : Int) == 0) = false := by simp; omega
  obtain ⟨y, hy⟩ : ∃ y, y = shO 2 wd A n := ⟨_, rfl⟩
  have hyu : U64 y := by rw [hy]; exact shO_u hw hA0 hA1 n
  have hy' := Lib.hid hy
  have hyu2 : U64 (A / 2 ^ n) := by rw [hy] at hyu; simpa [shO] using hyu
  have hA0' := hA0
  have hWn : n ≤ wd.toNat ↔ (n : Int) ≤ wd := by omega
  clear hA hy hA1 hW3
  go_enter Try.func21, Try.ntmps21
  go_wp2_with fail
  refine (may_any _ _).mono ?_; rintro e w1 ⟨rfl, rfl⟩
  go_wp2_with fail
  refine (low_any _ _ _ hw h).mono ?_; rw [← hA'.out]; rintro e w1 ⟨rfl, rfl⟩
  go_wp2_with fail
  have e1 : IntKind.i64.wrap ((n : Int) - 1) = (n : Int) - 1 := IntWalk.i64_in _ (by omega)
  have e2 : 0 ≤ (n : Int) - 1 := by omega
  have e3 : ((n : Int) - 1).toNat = n - 1 := by omega
  go_region_with (go_at_call 47; refine (top_any _ _ _ (by omega) (by omega) (by assumption)).mono ?_; rintro e w1 ⟨rfl, rfl⟩)
  all_goals go_wp2_with fail
  all_goals
    refine (by_any _ _ _ _ _ _ _ _ (by omega) (by omega) hyu2).mono ?_
    rintro e w3 ⟨rfl, hb3⟩
    have hz5 := hb3.size
    have hz6 : w.heap.size + 1 < w3.heap.size := by simp at hz5; omega
    have hblk : w3.heap[w.heap.size + 1]? = some (.cells #[.bool false, .bool false, .bool false, .bool false, .bool false] 34 (0, 0)) := by
      rw [hb3.block _ (by simp)]
      exact two_blocks w _ _
    obtain ⟨g0, g1, g2, g3, g4, f0⟩ := cells5 hblk
    have hfin : Below w.heap.size w w3 := (((Below.refl _ _).alloc (Nat.le_refl _) _).alloc (by simp) _).drew.trans (hb3.mono (by simp; omega))
    have hfin' := Lib.hid hfin
    clear hb3 hblk hfin hz5
    go_wp2_with fail
    refine bodyPost_ret (v := .tuple #[.int .u64 (A / 2 ^ n), .agg #[.bool (bits BinOp.and IntKind.u64 (A / 2 ^ (n - 1)) 1 == 1), .bool ((A / 2 ^ n) == 0), .bool (topB wd (A / 2 ^ n)), .bool (topB wd A), .bool (parB (A / 2 ^ n))], .int .i64 0]) (by simp [results, Try.results21, go_sem, g0, g1, g2, g3, g4, bne]) rfl ⟨?_, ?_⟩
    · have hcc : shC 2 wd A n = (bits BinOp.and IntKind.u64 (A / 2 ^ (n - 1)) 1 == 1) := by rw [and_one_u64 _ (sh_bd A hA0' _) (by have := Int.ediv_le_self (2 ^ (n - 1)) hA0'; have := hAu.2; omega)]; rfl
      have hvv : shV 2 wd A n = (topB wd A) := by simp [shV]
      simp only [shFl]
      rw [if_pos (by omega), hcc, hvv, (show A / 2 ^ n = shO 2 wd A n from by simp [shO])]
    · exact below_set5 hfin'.out (by omega) _ _ _ _ _

set_option maxRecDepth 100000 in
set_option maxHeartbeats 2000000 in
theorem Shift_2q (wd a cn : Int) (n : Nat) (c z s o p : Bool) (w : World) (hw : MayW wd) (h : U64 a) (h64 : (wd == 64) = true) (m : Nat) (hm : m < 32) (hn0' : bits BinOp.and IntKind.u64 cn 31 = (m : Int)) (hn : bits BinOp.and IntKind.u64 cn 63 = (n : Int)) (hn1 : 1 ≤ n) (hn2 : n < 64) :
    Calls Try.prog 21 #[.int .i64 2, .int .i64 wd, .int .u64 a, .int .u64 cn, .agg #[.bool c, .bool z, .bool s, .bool o, .bool p]] w (ShPost 2 wd (lowI wd a) n z s p w) := by
  have hmay := mayB_of hw
  obtain ⟨hW1, hW2, hW3⟩ := W_bd hw
  have hp1 : 8 ≤ wd := by omega
  have hp2 : wd ≤ 64 := by omega
  have hlb := low_bd wd a
  obtain ⟨A, hA⟩ : ∃ A, A = lowI wd a := ⟨_, rfl⟩
  have hAu : U64 A := by rw [hA]; exact low_lt hw
  rw [← hA] at hlb ⊢
  obtain ⟨hA0, hA1⟩ := hlb
  have hA' := Lib.hid hA
  have hn0 : ((n : Int) == 0) = false := by simp; omega
  obtain ⟨y, hy⟩ : ∃ y, y = shO 2 wd A n := ⟨_, rfl⟩
  have hyu : U64 y := by rw [hy]; exact shO_u hw hA0 hA1 n
  have hy' := Lib.hid hy
  have hyu2 : U64 (A / 2 ^ n) := by rw [hy] at hyu; simpa [shO] using hyu
  have hA0' := hA0
  have hWn : n ≤ wd.toNat ↔ (n : Int) ≤ wd := by omega
  clear hA hy hA1 hW3
  go_enter Try.func21, Try.ntmps21
  go_wp2_with fail
  refine (may_any _ _).mono ?_; rintro e w1 ⟨rfl, rfl⟩
  go_wp2_with fail
  refine (low_any _ _ _ hw h).mono ?_; rw [← hA'.out]; rintro e w1 ⟨rfl, rfl⟩
  go_wp2_with fail
  have e1 : IntKind.i64.wrap ((n : Int) - 1) = (n : Int) - 1 := IntWalk.i64_in _ (by omega)
  have e2 : 0 ≤ (n : Int) - 1 := by omega
  have e3 : ((n : Int) - 1).toNat = n - 1 := by omega
  go_region_with (go_at_call 47; refine (top_any _ _ _ (by omega) (by omega) (by assumption)).mono ?_; rintro e w1 ⟨rfl, rfl⟩)
  all_goals go_wp2_with fail
  all_goals
    refine (by_any _ _ _ _ _ _ _ _ (by omega) (by omega) hyu2).mono ?_
    rintro e w3 ⟨rfl, hb3⟩
    have hz5 := hb3.size
    have hz6 : w.heap.size + 1 < w3.heap.size := by simp at hz5; omega
    have hblk : w3.heap[w.heap.size + 1]? = some (.cells #[.bool false, .bool false, .bool false, .bool false, .bool false] 34 (0, 0)) := by
      rw [hb3.block _ (by simp)]
      exact two_blocks w _ _
    obtain ⟨g0, g1, g2, g3, g4, f0⟩ := cells5 hblk
    have hfin : Below w.heap.size w w3 := (((Below.refl _ _).alloc (Nat.le_refl _) _).alloc (by simp) _).drew.trans (hb3.mono (by simp; omega))
    have hfin' := Lib.hid hfin
    clear hb3 hblk hfin hz5
    go_wp2_with fail
    refine bodyPost_ret (v := .tuple #[.int .u64 (A / 2 ^ n), .agg #[.bool (bits BinOp.and IntKind.u64 (A / 2 ^ (n - 1)) 1 == 1), .bool ((A / 2 ^ n) == 0), .bool (topB wd (A / 2 ^ n)), .bool (topB wd A), .bool (parB (A / 2 ^ n))], .int .i64 0]) (by simp [results, Try.results21, go_sem, g0, g1, g2, g3, g4, bne]) rfl ⟨?_, ?_⟩
    · have hcc : shC 2 wd A n = (bits BinOp.and IntKind.u64 (A / 2 ^ (n - 1)) 1 == 1) := by rw [and_one_u64 _ (sh_bd A hA0' _) (by have := Int.ediv_le_self (2 ^ (n - 1)) hA0'; have := hAu.2; omega)]; rfl
      have hvv : shV 2 wd A n = (topB wd A) := by simp [shV]
      simp only [shFl]
      rw [if_pos (by omega), hcc, hvv, (show A / 2 ^ n = shO 2 wd A n from by simp [shO])]
    · exact below_set5 hfin'.out (by omega) _ _ _ _ _

set_option maxRecDepth 100000 in
set_option maxHeartbeats 2000000 in
theorem Shift_3h (wd a cn : Int) (n : Nat) (c z s o p : Bool) (w : World) (hw : MayW wd) (h : U64 a) (h64 : (wd == 64) = false) (hn : bits BinOp.and IntKind.u64 cn 31 = (n : Int)) (hn1 : 1 ≤ n) (hn2 : n < 64) :
    Calls Try.prog 21 #[.int .i64 3, .int .i64 wd, .int .u64 a, .int .u64 cn, .agg #[.bool c, .bool z, .bool s, .bool o, .bool p]] w (ShPost 3 wd (lowI wd a) n z s p w) := by
  have hmay := mayB_of hw
  obtain ⟨hW1, hW2, hW3⟩ := W_bd hw
  have hp1 : 8 ≤ wd := by omega
  have hp2 : wd ≤ 64 := by omega
  have hlb := low_bd wd a
  obtain ⟨A, hA⟩ : ∃ A, A = lowI wd a := ⟨_, rfl⟩
  have hAu : U64 A := by rw [hA]; exact low_lt hw
  rw [← hA] at hlb ⊢
  obtain ⟨hA0, hA1⟩ := hlb
  have hA' := Lib.hid hA
  have hn0 : ((n : Int) == 0) = false := by simp; omega
  obtain ⟨y, hy⟩ : ∃ y, y = shO 3 wd A n := ⟨_, rfl⟩
  have hyu : U64 y := by rw [hy]; exact shO_u hw hA0 hA1 n
  have hy' := Lib.hid hy
  have hwu := wrap_u (wrap64 (signI wd A) / 2 ^ n)
  have hl := Lib.hid ((low_sar (A := A) hw n).trans hy.symm)
  have hyu2 := hyu
  have hA0' := hA0
  have hWn : n ≤ wd.toNat ↔ (n : Int) ≤ wd := by omega
  clear hA hy hA1 hW3
  go_enter Try.func21, Try.ntmps21
  go_wp2_with fail
  refine (may_any _ _).mono ?_; rintro e w1 ⟨rfl, rfl⟩
  go_wp2_with fail
  refine (low_any _ _ _ hw h).mono ?_; rw [← hA'.out]; rintro e w1 ⟨rfl, rfl⟩
  go_wp2_with fail
  refine (signed_any _ _ _ hw hAu).mono ?_; rintro e w1 ⟨rfl, rfl⟩
  go_wp2_with fail
  refine (low_any _ _ _ hw hwu).mono ?_; rw [hl.out]; rintro e w1 ⟨rfl, rfl⟩
  go_wp2_with fail
  all_goals
    refine (by_any _ _ _ _ _ _ _ _ (by omega) (by omega) hyu2).mono ?_
    rintro e w3 ⟨rfl, hb3⟩
    have hz5 := hb3.size
    have hz6 : w.heap.size + 1 < w3.heap.size := by simp at hz5; omega
    have hblk : w3.heap[w.heap.size + 1]? = some (.cells #[.bool false, .bool false, .bool false, .bool false, .bool false] 34 (0, 0)) := by
      rw [hb3.block _ (by simp)]
      exact two_blocks w _ _
    obtain ⟨g0, g1, g2, g3, g4, f0⟩ := cells5 hblk
    have hfin : Below w.heap.size w w3 := (((Below.refl _ _).alloc (Nat.le_refl _) _).alloc (by simp) _).trans (hb3.mono (by simp; omega))
    have hfin' := Lib.hid hfin
    clear hb3 hblk hfin hz5
    go_wp2_with fail
    refine bodyPost_ret (v := .tuple #[.int .u64 y, .agg #[.bool (bits BinOp.and IntKind.i64 (wrap64 (signI wd A) / 2 ^ (n - 1)) 1 == 1), .bool (y == 0), .bool (topB wd y), .bool false, .bool (parB y)], .int .i64 0]) (by simp [results, Try.results21, go_sem, g0, g1, g2, g3, g4, bne]) rfl ⟨?_, ?_⟩
    · have hcc : shC 3 wd A n = (bits BinOp.and IntKind.i64 (wrap64 (signI wd A) / 2 ^ (n - 1)) 1 == 1) := by rw [and1_i64, wrap64_sign hw]; rfl
      have hvv : shV 3 wd A n = false := by simp [shV]
      simp only [shFl]
      rw [if_pos (by omega), hcc, hvv, hy'.out]
    · exact below_set5 hfin'.out (by omega) _ _ _ _ _

set_option maxRecDepth 100000 in
set_option maxHeartbeats 2000000 in
theorem Shift_3q (wd a cn : Int) (n : Nat) (c z s o p : Bool) (w : World) (hw : MayW wd) (h : U64 a) (h64 : (wd == 64) = true) (m : Nat) (hm : m < 32) (hn0' : bits BinOp.and IntKind.u64 cn 31 = (m : Int)) (hn : bits BinOp.and IntKind.u64 cn 63 = (n : Int)) (hn1 : 1 ≤ n) (hn2 : n < 64) :
    Calls Try.prog 21 #[.int .i64 3, .int .i64 wd, .int .u64 a, .int .u64 cn, .agg #[.bool c, .bool z, .bool s, .bool o, .bool p]] w (ShPost 3 wd (lowI wd a) n z s p w) := by
  have hmay := mayB_of hw
  obtain ⟨hW1, hW2, hW3⟩ := W_bd hw
  have hp1 : 8 ≤ wd := by omega
  have hp2 : wd ≤ 64 := by omega
  have hlb := low_bd wd a
  obtain ⟨A, hA⟩ : ∃ A, A = lowI wd a := ⟨_, rfl⟩
  have hAu : U64 A := by rw [hA]; exact low_lt hw
  rw [← hA] at hlb ⊢
  obtain ⟨hA0, hA1⟩ := hlb
  have hA' := Lib.hid hA
  have hn0 : ((n : Int) == 0) = false := by simp; omega
  obtain ⟨y, hy⟩ : ∃ y, y = shO 3 wd A n := ⟨_, rfl⟩
  have hyu : U64 y := by rw [hy]; exact shO_u hw hA0 hA1 n
  have hy' := Lib.hid hy
  have hwu := wrap_u (wrap64 (signI wd A) / 2 ^ n)
  have hl := Lib.hid ((low_sar (A := A) hw n).trans hy.symm)
  have hyu2 := hyu
  have hA0' := hA0
  have hWn : n ≤ wd.toNat ↔ (n : Int) ≤ wd := by omega
  clear hA hy hA1 hW3
  go_enter Try.func21, Try.ntmps21
  go_wp2_with fail
  refine (may_any _ _).mono ?_; rintro e w1 ⟨rfl, rfl⟩
  go_wp2_with fail
  refine (low_any _ _ _ hw h).mono ?_; rw [← hA'.out]; rintro e w1 ⟨rfl, rfl⟩
  go_wp2_with fail
  refine (signed_any _ _ _ hw hAu).mono ?_; rintro e w1 ⟨rfl, rfl⟩
  go_wp2_with fail
  refine (low_any _ _ _ hw hwu).mono ?_; rw [hl.out]; rintro e w1 ⟨rfl, rfl⟩
  go_wp2_with fail
  all_goals
    refine (by_any _ _ _ _ _ _ _ _ (by omega) (by omega) hyu2).mono ?_
    rintro e w3 ⟨rfl, hb3⟩
    have hz5 := hb3.size
    have hz6 : w.heap.size + 1 < w3.heap.size := by simp at hz5; omega
    have hblk : w3.heap[w.heap.size + 1]? = some (.cells #[.bool false, .bool false, .bool false, .bool false, .bool false] 34 (0, 0)) := by
      rw [hb3.block _ (by simp)]
      exact two_blocks w _ _
    obtain ⟨g0, g1, g2, g3, g4, f0⟩ := cells5 hblk
    have hfin : Below w.heap.size w w3 := (((Below.refl _ _).alloc (Nat.le_refl _) _).alloc (by simp) _).trans (hb3.mono (by simp; omega))
    have hfin' := Lib.hid hfin
    clear hb3 hblk hfin hz5
    go_wp2_with fail
    refine bodyPost_ret (v := .tuple #[.int .u64 y, .agg #[.bool (bits BinOp.and IntKind.i64 (wrap64 (signI wd A) / 2 ^ (n - 1)) 1 == 1), .bool (y == 0), .bool (topB wd y), .bool false, .bool (parB y)], .int .i64 0]) (by simp [results, Try.results21, go_sem, g0, g1, g2, g3, g4, bne]) rfl ⟨?_, ?_⟩
    · have hcc : shC 3 wd A n = (bits BinOp.and IntKind.i64 (wrap64 (signI wd A) / 2 ^ (n - 1)) 1 == 1) := by rw [and1_i64, wrap64_sign hw]; rfl
      have hvv : shV 3 wd A n = false := by simp [shV]
      simp only [shFl]
      rw [if_pos (by omega), hcc, hvv, hy'.out]
    · exact below_set5 hfin'.out (by omega) _ _ _ _ _

set_option maxRecDepth 100000 in
set_option maxHeartbeats 2000000 in
theorem Shift_4h (wd a cn : Int) (n : Nat) (c z s o p : Bool) (w : World) (hw : MayW wd) (h : U64 a) (h64 : (wd == 64) = false) (hn : bits BinOp.and IntKind.u64 cn 31 = (n : Int)) (hn1 : 1 ≤ n) (hn2 : n < 64) :
    Calls Try.prog 21 #[.int .i64 4, .int .i64 wd, .int .u64 a, .int .u64 cn, .agg #[.bool c, .bool z, .bool s, .bool o, .bool p]] w (ShPost 4 wd (lowI wd a) n z s p w) := by
  have hmay := mayB_of hw
  obtain ⟨hW1, hW2, hW3⟩ := W_bd hw
  have hp1 : 8 ≤ wd := by omega
  have hp2 : wd ≤ 64 := by omega
  have hlb := low_bd wd a
  obtain ⟨A, hA⟩ : ∃ A, A = lowI wd a := ⟨_, rfl⟩
  have hAu : U64 A := by rw [hA]; exact low_lt hw
  rw [← hA] at hlb ⊢
  obtain ⟨hA0, hA1⟩ := hlb
  have hA' := Lib.hid hA
  have hn0 : ((n : Int) == 0) = false := by simp; omega
  obtain ⟨y, hy⟩ : ∃ y, y = shO 4 wd A n := ⟨_, rfl⟩
  have hyu : U64 y := by rw [hy]; exact shO_u hw hA0 hA1 n
  have hy' := Lib.hid hy
  have hrlt : n % wd.toNat < wd.toNat := Nat.mod_lt _ (by omega)
  obtain ⟨r, hrd⟩ : ∃ r, r = n % wd.toNat := ⟨_, rfl⟩
  rw [← hrd] at hrlt
  have hr : (n : Int) % wd = (r : Int) := by rw [hrd]; simp [hW3]
  obtain ⟨q, hqd⟩ : ∃ q, q = wd.toNat - r := ⟨_, rfl⟩
  have hq : wd - (r : Int) = (q : Int) := by omega
  have hq0 : q ≤ 64 := by omega
  have hr0 : r ≤ 63 := by omega
  have hro := Lib.hid ((rot_or hw hA0 hA1 r q hrlt hqd).trans (show rotl wd.toNat r A = y by rw [hy, hrd]; simp [shO]))
  clear hrd hqd hrlt
  have hou : U64 (bits BinOp.or IntKind.u64 (IntKind.u64.wrap (A * 2 ^ r)) (A / 2 ^ q)) := bits_or_u (wrap_u _) (by have := Int.ediv_le_self (2 ^ q) hAu.1; have := sh_bd A hAu.1 q; have := hAu.2; exact ⟨by omega, by omega⟩)
  have hyu2 := hyu
  have hA0' := hA0
  have hWn : n ≤ wd.toNat ↔ (n : Int) ≤ wd := by omega
  clear hA hy hA1 hW3
  go_enter Try.func21, Try.ntmps21
  go_wp2_with fail
  refine (may_any _ _).mono ?_; rintro e w1 ⟨rfl, rfl⟩
  go_wp2_with fail
  refine (low_any _ _ _ hw h).mono ?_; rw [← hA'.out]; rintro e w1 ⟨rfl, rfl⟩
  go_wp2_with fail
  go_quiet ((go_at_call 41; exact Calls.quiet_of_same ((low_any _ _ _ hw hou).mono fun _ _ ⟨he, hw⟩ => ⟨by rw [he, hro.out], hw.symm⟩)))
  all_goals go_wp2_with fail
  all_goals go_region_with (go_at_call 47; refine (top_any _ _ _ (by omega) (by omega) (by assumption)).mono ?_; rintro e w1 ⟨rfl, rfl⟩)
  all_goals go_wp2_with fail
  all_goals go_region
  all_goals go_wp2_with fail
  all_goals
    refine bodyPost_ret (v := .tuple #[.int .u64 y, .agg #[.bool (bits BinOp.and IntKind.u64 y 1 == 1), .bool z, .bool s, .bool ((bits BinOp.and IntKind.u64 y 1 == 1) != topB wd y), .bool p], .int .i64 0]) (by simp [results, Try.results21, go_sem, bne]) rfl ⟨?_, ?_⟩
    · rw [and_one_u64 y hyu.1 (by have := hyu.2; omega), hy'.out]; rfl
    · repeat (first | with_reducible exact below_drewN (((Below.refl _ _).alloc (Nat.le_refl _) _).alloc (by simp) _) _ | with_reducible refine Below.drew ?_ | with_reducible refine Below.setCell ?_ (by simp) _)

set_option maxRecDepth 100000 in
set_option maxHeartbeats 2000000 in
theorem Shift_4q (wd a cn : Int) (n : Nat) (c z s o p : Bool) (w : World) (hw : MayW wd) (h : U64 a) (h64 : (wd == 64) = true) (m : Nat) (hm : m < 32) (hn0' : bits BinOp.and IntKind.u64 cn 31 = (m : Int)) (hn : bits BinOp.and IntKind.u64 cn 63 = (n : Int)) (hn1 : 1 ≤ n) (hn2 : n < 64) :
    Calls Try.prog 21 #[.int .i64 4, .int .i64 wd, .int .u64 a, .int .u64 cn, .agg #[.bool c, .bool z, .bool s, .bool o, .bool p]] w (ShPost 4 wd (lowI wd a) n z s p w) := by
  have hmay := mayB_of hw
  obtain ⟨hW1, hW2, hW3⟩ := W_bd hw
  have hp1 : 8 ≤ wd := by omega
  have hp2 : wd ≤ 64 := by omega
  have hlb := low_bd wd a
  obtain ⟨A, hA⟩ : ∃ A, A = lowI wd a := ⟨_, rfl⟩
  have hAu : U64 A := by rw [hA]; exact low_lt hw
  rw [← hA] at hlb ⊢
  obtain ⟨hA0, hA1⟩ := hlb
  have hA' := Lib.hid hA
  have hn0 : ((n : Int) == 0) = false := by simp; omega
  obtain ⟨y, hy⟩ : ∃ y, y = shO 4 wd A n := ⟨_, rfl⟩
  have hyu : U64 y := by rw [hy]; exact shO_u hw hA0 hA1 n
  have hy' := Lib.hid hy
  have hrlt : n % wd.toNat < wd.toNat := Nat.mod_lt _ (by omega)
  obtain ⟨r, hrd⟩ : ∃ r, r = n % wd.toNat := ⟨_, rfl⟩
  rw [← hrd] at hrlt
  have hr : (n : Int) % wd = (r : Int) := by rw [hrd]; simp [hW3]
  obtain ⟨q, hqd⟩ : ∃ q, q = wd.toNat - r := ⟨_, rfl⟩
  have hq : wd - (r : Int) = (q : Int) := by omega
  have hq0 : q ≤ 64 := by omega
  have hr0 : r ≤ 63 := by omega
  have hro := Lib.hid ((rot_or hw hA0 hA1 r q hrlt hqd).trans (show rotl wd.toNat r A = y by rw [hy, hrd]; simp [shO]))
  clear hrd hqd hrlt
  have hou : U64 (bits BinOp.or IntKind.u64 (IntKind.u64.wrap (A * 2 ^ r)) (A / 2 ^ q)) := bits_or_u (wrap_u _) (by have := Int.ediv_le_self (2 ^ q) hAu.1; have := sh_bd A hAu.1 q; have := hAu.2; exact ⟨by omega, by omega⟩)
  have hyu2 := hyu
  have hA0' := hA0
  have hWn : n ≤ wd.toNat ↔ (n : Int) ≤ wd := by omega
  clear hA hy hA1 hW3
  go_enter Try.func21, Try.ntmps21
  go_wp2_with fail
  refine (may_any _ _).mono ?_; rintro e w1 ⟨rfl, rfl⟩
  go_wp2_with fail
  refine (low_any _ _ _ hw h).mono ?_; rw [← hA'.out]; rintro e w1 ⟨rfl, rfl⟩
  go_wp2_with fail
  go_quiet ((go_at_call 41; exact Calls.quiet_of_same ((low_any _ _ _ hw hou).mono fun _ _ ⟨he, hw⟩ => ⟨by rw [he, hro.out], hw.symm⟩)))
  all_goals go_wp2_with fail
  all_goals go_region_with (go_at_call 47; refine (top_any _ _ _ (by omega) (by omega) (by assumption)).mono ?_; rintro e w1 ⟨rfl, rfl⟩)
  all_goals go_wp2_with fail
  all_goals go_region
  all_goals go_wp2_with fail
  all_goals
    refine bodyPost_ret (v := .tuple #[.int .u64 y, .agg #[.bool (bits BinOp.and IntKind.u64 y 1 == 1), .bool z, .bool s, .bool ((bits BinOp.and IntKind.u64 y 1 == 1) != topB wd y), .bool p], .int .i64 0]) (by simp [results, Try.results21, go_sem, bne]) rfl ⟨?_, ?_⟩
    · rw [and_one_u64 y hyu.1 (by have := hyu.2; omega), hy'.out]; rfl
    · repeat (first | with_reducible exact below_drewN (((Below.refl _ _).alloc (Nat.le_refl _) _).alloc (by simp) _) _ | with_reducible refine Below.drew ?_ | with_reducible refine Below.setCell ?_ (by simp) _)

set_option maxRecDepth 100000 in
set_option maxHeartbeats 2000000 in
theorem Shift_5h (wd a cn : Int) (n : Nat) (c z s o p : Bool) (w : World) (hw : MayW wd) (h : U64 a) (h64 : (wd == 64) = false) (hn : bits BinOp.and IntKind.u64 cn 31 = (n : Int)) (hn1 : 1 ≤ n) (hn2 : n < 64) :
    Calls Try.prog 21 #[.int .i64 5, .int .i64 wd, .int .u64 a, .int .u64 cn, .agg #[.bool c, .bool z, .bool s, .bool o, .bool p]] w (ShPost 5 wd (lowI wd a) n z s p w) := by
  have hmay := mayB_of hw
  obtain ⟨hW1, hW2, hW3⟩ := W_bd hw
  have hp1 : 8 ≤ wd := by omega
  have hp2 : wd ≤ 64 := by omega
  have hlb := low_bd wd a
  obtain ⟨A, hA⟩ : ∃ A, A = lowI wd a := ⟨_, rfl⟩
  have hAu : U64 A := by rw [hA]; exact low_lt hw
  rw [← hA] at hlb ⊢
  obtain ⟨hA0, hA1⟩ := hlb
  have hA' := Lib.hid hA
  have hn0 : ((n : Int) == 0) = false := by simp; omega
  obtain ⟨y, hy⟩ : ∃ y, y = shO 5 wd A n := ⟨_, rfl⟩
  have hyu : U64 y := by rw [hy]; exact shO_u hw hA0 hA1 n
  have hy' := Lib.hid hy
  have hrlt : (wd.toNat - n % wd.toNat) % wd.toNat < wd.toNat := Nat.mod_lt _ (by omega)
  obtain ⟨k, hkd⟩ : ∃ k, k = n % wd.toNat := ⟨_, rfl⟩
  have hklt : k < wd.toNat := by rw [hkd]; exact Nat.mod_lt _ (by omega)
  have hk : (n : Int) % wd = (k : Int) := by rw [hkd]; simp [hW3]
  rw [← hkd] at hrlt
  obtain ⟨t, htd⟩ : ∃ t, t = wd.toNat - k := ⟨_, rfl⟩
  have ht : wd - (k : Int) = (t : Int) := by omega
  rw [← htd] at hrlt
  obtain ⟨r, hrd⟩ : ∃ r, r = t % wd.toNat := ⟨_, rfl⟩
  rw [← hrd] at hrlt
  have hr : (t : Int) % wd = (r : Int) := by rw [hrd]; simp [hW3]
  obtain ⟨q, hqd⟩ : ∃ q, q = wd.toNat - r := ⟨_, rfl⟩
  have hq : wd - (r : Int) = (q : Int) := by omega
  have hq0 : q ≤ 64 := by omega
  have hr0 : r ≤ 63 := by omega
  have ht0 : t ≤ 64 := by omega
  have hk0 : k ≤ 63 := by omega
  have hro := Lib.hid ((rot_or hw hA0 hA1 r q hrlt hqd).trans (show rotl wd.toNat r A = y by rw [hy, hrd, htd, hkd]; simp [shO]))
  clear hrd hqd hrlt hkd htd hklt
  have hou : U64 (bits BinOp.or IntKind.u64 (IntKind.u64.wrap (A * 2 ^ r)) (A / 2 ^ q)) := bits_or_u (wrap_u _) (by have := Int.ediv_le_self (2 ^ q) hAu.1; have := sh_bd A hAu.1 q; have := hAu.2; exact ⟨by omega, by omega⟩)
  have hyu2 := hyu
  have hA0' := hA0
  have hWn : n ≤ wd.toNat ↔ (n : Int) ≤ wd := by omega
  clear hA hy hA1 hW3
  go_enter Try.func21, Try.ntmps21
  go_wp2_with fail
  refine (may_any _ _).mono ?_; rintro e w1 ⟨rfl, rfl⟩
  go_wp2_with fail
  refine (low_any _ _ _ hw h).mono ?_; rw [← hA'.out]; rintro e w1 ⟨rfl, rfl⟩
  go_wp2_with fail
  go_quiet ((go_at_call 41; exact Calls.quiet_of_same ((low_any _ _ _ hw hou).mono fun _ _ ⟨he, hw⟩ => ⟨by rw [he, hro.out], hw.symm⟩)))
  have hwd1 : IntKind.i64.wrap (wd - 1) = wd - 1 := IntWalk.i64_in _ (by omega)
  all_goals go_wp2_with fail
  all_goals (refine (top_any _ _ _ (by omega) (by omega) hyu).mono ?_; rintro e w1 ⟨rfl, rfl⟩)
  all_goals go_wp2_with fail
  all_goals go_region_with (go_at_call 47; refine (top_any _ _ _ (by omega) (by omega) (by assumption)).mono ?_; rintro e w1 ⟨rfl, rfl⟩)
  all_goals go_wp2_with fail
  all_goals go_region
  all_goals go_wp2_with fail
  all_goals
    refine bodyPost_ret (v := .tuple #[.int .u64 y, .agg #[.bool (topB wd y), .bool z, .bool s, .bool (topB wd y != topB (wd - 1) y), .bool p], .int .i64 0]) (by simp [results, Try.results21, go_sem, bne]) rfl ⟨?_, ?_⟩
    · rw [hy'.out]; rfl
    · repeat (first | with_reducible exact below_drewN (((Below.refl _ _).alloc (Nat.le_refl _) _).alloc (by simp) _) _ | with_reducible refine Below.drew ?_ | with_reducible refine Below.setCell ?_ (by simp) _)

set_option maxRecDepth 100000 in
set_option maxHeartbeats 2000000 in
theorem Shift_5q (wd a cn : Int) (n : Nat) (c z s o p : Bool) (w : World) (hw : MayW wd) (h : U64 a) (h64 : (wd == 64) = true) (m : Nat) (hm : m < 32) (hn0' : bits BinOp.and IntKind.u64 cn 31 = (m : Int)) (hn : bits BinOp.and IntKind.u64 cn 63 = (n : Int)) (hn1 : 1 ≤ n) (hn2 : n < 64) :
    Calls Try.prog 21 #[.int .i64 5, .int .i64 wd, .int .u64 a, .int .u64 cn, .agg #[.bool c, .bool z, .bool s, .bool o, .bool p]] w (ShPost 5 wd (lowI wd a) n z s p w) := by
  have hmay := mayB_of hw
  obtain ⟨hW1, hW2, hW3⟩ := W_bd hw
  have hp1 : 8 ≤ wd := by omega
  have hp2 : wd ≤ 64 := by omega
  have hlb := low_bd wd a
  obtain ⟨A, hA⟩ : ∃ A, A = lowI wd a := ⟨_, rfl⟩
  have hAu : U64 A := by rw [hA]; exact low_lt hw
  rw [← hA] at hlb ⊢
  obtain ⟨hA0, hA1⟩ := hlb
  have hA' := Lib.hid hA
  have hn0 : ((n : Int) == 0) = false := by simp; omega
  obtain ⟨y, hy⟩ : ∃ y, y = shO 5 wd A n := ⟨_, rfl⟩
  have hyu : U64 y := by rw [hy]; exact shO_u hw hA0 hA1 n
  have hy' := Lib.hid hy
  have hrlt : (wd.toNat - n % wd.toNat) % wd.toNat < wd.toNat := Nat.mod_lt _ (by omega)
  obtain ⟨k, hkd⟩ : ∃ k, k = n % wd.toNat := ⟨_, rfl⟩
  have hklt : k < wd.toNat := by rw [hkd]; exact Nat.mod_lt _ (by omega)
  have hk : (n : Int) % wd = (k : Int) := by rw [hkd]; simp [hW3]
  rw [← hkd] at hrlt
  obtain ⟨t, htd⟩ : ∃ t, t = wd.toNat - k := ⟨_, rfl⟩
  have ht : wd - (k : Int) = (t : Int) := by omega
  rw [← htd] at hrlt
  obtain ⟨r, hrd⟩ : ∃ r, r = t % wd.toNat := ⟨_, rfl⟩
  rw [← hrd] at hrlt
  have hr : (t : Int) % wd = (r : Int) := by rw [hrd]; simp [hW3]
  obtain ⟨q, hqd⟩ : ∃ q, q = wd.toNat - r := ⟨_, rfl⟩
  have hq : wd - (r : Int) = (q : Int) := by omega
  have hq0 : q ≤ 64 := by omega
  have hr0 : r ≤ 63 := by omega
  have ht0 : t ≤ 64 := by omega
  have hk0 : k ≤ 63 := by omega
  have hro := Lib.hid ((rot_or hw hA0 hA1 r q hrlt hqd).trans (show rotl wd.toNat r A = y by rw [hy, hrd, htd, hkd]; simp [shO]))
  clear hrd hqd hrlt hkd htd hklt
  have hou : U64 (bits BinOp.or IntKind.u64 (IntKind.u64.wrap (A * 2 ^ r)) (A / 2 ^ q)) := bits_or_u (wrap_u _) (by have := Int.ediv_le_self (2 ^ q) hAu.1; have := sh_bd A hAu.1 q; have := hAu.2; exact ⟨by omega, by omega⟩)
  have hyu2 := hyu
  have hA0' := hA0
  have hWn : n ≤ wd.toNat ↔ (n : Int) ≤ wd := by omega
  clear hA hy hA1 hW3
  go_enter Try.func21, Try.ntmps21
  go_wp2_with fail
  refine (may_any _ _).mono ?_; rintro e w1 ⟨rfl, rfl⟩
  go_wp2_with fail
  refine (low_any _ _ _ hw h).mono ?_; rw [← hA'.out]; rintro e w1 ⟨rfl, rfl⟩
  go_wp2_with fail
  go_quiet ((go_at_call 41; exact Calls.quiet_of_same ((low_any _ _ _ hw hou).mono fun _ _ ⟨he, hw⟩ => ⟨by rw [he, hro.out], hw.symm⟩)))
  have hwd1 : IntKind.i64.wrap (wd - 1) = wd - 1 := IntWalk.i64_in _ (by omega)
  all_goals go_wp2_with fail
  all_goals (refine (top_any _ _ _ (by omega) (by omega) hyu).mono ?_; rintro e w1 ⟨rfl, rfl⟩)
  all_goals go_wp2_with fail
  all_goals go_region_with (go_at_call 47; refine (top_any _ _ _ (by omega) (by omega) (by assumption)).mono ?_; rintro e w1 ⟨rfl, rfl⟩)
  all_goals go_wp2_with fail
  all_goals go_region
  all_goals go_wp2_with fail
  all_goals
    refine bodyPost_ret (v := .tuple #[.int .u64 y, .agg #[.bool (topB wd y), .bool z, .bool s, .bool (topB wd y != topB (wd - 1) y), .bool p], .int .i64 0]) (by simp [results, Try.results21, go_sem, bne]) rfl ⟨?_, ?_⟩
    · rw [hy'.out]; rfl
    · repeat (first | with_reducible exact below_drewN (((Below.refl _ _).alloc (Nat.le_refl _) _).alloc (by simp) _) _ | with_reducible refine Below.drew ?_ | with_reducible refine Below.setCell ?_ (by simp) _)

end Go.Proofs.Ytkfenljldmbmcaa
