/- The contract of the reference's Eval. -/
import Derived.Test.YtkfenljldmbmcaaY
set_option linter.unusedSimpArgs false
set_option linter.unusedVariables false
namespace Go.Proofs.Ytkfenljldmbmcaa
open Go.RowKit Go.MapKept

set_option maxHeartbeats 400000 in
theorem one_any (b : Bool) (w : World) : Calls Try.prog 38 #[.bool b] w fun e w' => e = .returned (.int .u64 (one b)) ∧ w = w' := by
  cases b
  all_goals
    go_enter Try.func38, Try.ntmps38
    go_wp2
    go_ret
    exact ⟨rfl, rfl⟩
theorem bits_or_comm (x y : Int) (hx : U64 x) (hy : U64 y) : bits BinOp.or IntKind.u64 x y = bits BinOp.or IntKind.u64 y x := by
  rw [u64_or _ _ hx.1 hx.2 hy.1 hy.2, u64_or _ _ hy.1 hy.2 hx.1 hx.2, Nat.or_comm]
theorem ror64 (x : Int) (hx : U64 x) (k q : Nat) (hk : k < 64) (hq : q = 64 - k) : bits BinOp.or IntKind.u64 (x / 2 ^ k) (IntKind.u64.wrap (x * 2 ^ q)) = rotl 64 ((64 - k) % 64) x := by
  subst hq
  have hd : U64 (x / 2 ^ k) := by have := Int.ediv_le_self (2 ^ k) hx.1; have := sh_bd x hx.1 k; have := hx.2; exact ⟨by omega, by omega⟩
  rw [bits_or_comm _ _ hd (wrap_u _)]
  by_cases h0 : k = 0
  · subst h0
    have e1 : IntKind.u64.wrap (x * 2 ^ (64 - 0)) = 0 := by rw [IntKind.wrap_u64]; exact Int.mul_emod_left x _
    rw [e1]
    have e2 : x / 2 ^ 0 = x := by simp
    rw [e2, u64_or _ _ (by omega) (by omega) hx.1 hx.2]
    have e3 : rotl 64 ((64 - 0) % 64) x = x := rotl_0 hx.1 (by have := hx.2; simpa using this)
    rw [e3]
    (simp; have := hx.1; omega)
  · have h := rot64 x hx (64 - k) (by omega)
    rw [show 64 - (64 - k) = k from by omega] at h
    rw [h, Nat.mod_eq_of_lt (by omega)]

set_option maxRecDepth 100000 in
set_option maxHeartbeats 1000000 in
theorem refEval_4 (n blk off cap : Nat) (x y z : Int) (w : World) (hn : n = 1) (hx : U64 x) (hy : U64 y) (h0 : w.cell? ⟨blk, off, none⟩ = some (.int .u64 x)) :
    Calls Try.prog 17 #[.int .i64 4, .slice (some ⟨blk, off, none⟩) n cap] w fun e w' => e = .returned (.int .u64 (evalS 4 x y z)) ∧ w = w' := by
  subst hn
  have hm := xor_max x hx
  go_enter Try.func17, Try.ntmps17
  go_wp2
  go_ret
  exact ⟨rfl, rfl⟩

set_option maxRecDepth 100000 in
set_option maxHeartbeats 1000000 in
theorem refEval_5 (n blk off cap : Nat) (x y z : Int) (w : World) (hn : n = 1) (hx : U64 x) (hy : U64 y) (h0 : w.cell? ⟨blk, off, none⟩ = some (.int .u64 x)) :
    Calls Try.prog 17 #[.int .i64 5, .slice (some ⟨blk, off, none⟩) n cap] w fun e w' => e = .returned (.int .u64 (evalS 5 x y z)) ∧ w = w' := by
  subst hn
  go_enter Try.func17, Try.ntmps17
  go_wp2
  go_ret
  exact ⟨rfl, rfl⟩

set_option maxRecDepth 100000 in
set_option maxHeartbeats 1000000 in
theorem refEval_6 (n blk off cap : Nat) (x y z : Int) (w : World) (hn : n = 2) (hx : U64 x) (hy : U64 y) (h0 : w.cell? ⟨blk, off, none⟩ = some (.int .u64 x)) (h1 : w.cell? ⟨blk, off + 1, none⟩ = some (.int .u64 y)) :
    Calls Try.prog 17 #[.int .i64 6, .slice (some ⟨blk, off, none⟩) n cap] w fun e w' => e = .returned (.int .u64 (evalS 6 x y z)) ∧ w = w' := by
  subst hn
  have hy0 := hy.1
  go_enter Try.func17, Try.ntmps17
  go_wp2
  go_ret
  exact ⟨rfl, rfl⟩

set_option maxRecDepth 100000 in
set_option maxHeartbeats 1000000 in
theorem refEval_7 (n blk off cap : Nat) (x y z : Int) (w : World) (hn : n = 2) (hx : U64 x) (hy : U64 y) (h0 : w.cell? ⟨blk, off, none⟩ = some (.int .u64 x)) (h1 : w.cell? ⟨blk, off + 1, none⟩ = some (.int .u64 y)) :
    Calls Try.prog 17 #[.int .i64 7, .slice (some ⟨blk, off, none⟩) n cap] w fun e w' => e = .returned (.int .u64 (evalS 7 x y z)) ∧ w = w' := by
  subst hn
  have hy0 := hy.1
  go_enter Try.func17, Try.ntmps17
  go_wp2
  go_ret
  exact ⟨rfl, rfl⟩

set_option maxRecDepth 100000 in
set_option maxHeartbeats 1000000 in
theorem refEval_8 (n blk off cap : Nat) (x y z : Int) (w : World) (hn : n = 2) (hx : U64 x) (hy : U64 y) (h0 : w.cell? ⟨blk, off, none⟩ = some (.int .u64 x)) (h1 : w.cell? ⟨blk, off + 1, none⟩ = some (.int .u64 y)) :
    Calls Try.prog 17 #[.int .i64 8, .slice (some ⟨blk, off, none⟩) n cap] w fun e w' => e = .returned (.int .u64 (evalS 8 x y z)) ∧ w = w' := by
  subst hn
  have hy0 := hy.1
  go_enter Try.func17, Try.ntmps17
  go_wp2
  go_ret
  exact ⟨rfl, rfl⟩

set_option maxRecDepth 100000 in
set_option maxHeartbeats 1000000 in
theorem refEval_9 (n blk off cap : Nat) (x y z : Int) (w : World) (hn : n = 2) (hx : U64 x) (hy : U64 y) (h0 : w.cell? ⟨blk, off, none⟩ = some (.int .u64 x)) (h1 : w.cell? ⟨blk, off + 1, none⟩ = some (.int .u64 y)) :
    Calls Try.prog 17 #[.int .i64 9, .slice (some ⟨blk, off, none⟩) n cap] w fun e w' => e = .returned (.int .u64 (evalS 9 x y z)) ∧ w = w' := by
  subst hn
  have hy0 := hy.1
  go_enter Try.func17, Try.ntmps17
  go_wp2
  go_ret
  exact ⟨rfl, rfl⟩

set_option maxRecDepth 100000 in
set_option maxHeartbeats 1000000 in
theorem refEval_10 (n blk off cap : Nat) (x y z : Int) (w : World) (hn : n = 2) (hx : U64 x) (hy : U64 y) (h0 : w.cell? ⟨blk, off, none⟩ = some (.int .u64 x)) (h1 : w.cell? ⟨blk, off + 1, none⟩ = some (.int .u64 y)) :
    Calls Try.prog 17 #[.int .i64 10, .slice (some ⟨blk, off, none⟩) n cap] w fun e w' => e = .returned (.int .u64 (evalS 10 x y z)) ∧ w = w' := by
  subst hn
  have hy0 := hy.1
  go_enter Try.func17, Try.ntmps17
  go_wp2
  go_ret
  exact ⟨rfl, rfl⟩

set_option maxRecDepth 100000 in
set_option maxHeartbeats 1000000 in
theorem refEval_11 (n blk off cap : Nat) (x y z : Int) (w : World) (hn : n = 2) (hx : U64 x) (hy : U64 y) (h0 : w.cell? ⟨blk, off, none⟩ = some (.int .u64 x)) (h1 : w.cell? ⟨blk, off + 1, none⟩ = some (.int .u64 y)) :
    Calls Try.prog 17 #[.int .i64 11, .slice (some ⟨blk, off, none⟩) n cap] w fun e w' => e = .returned (.int .u64 (evalS 11 x y z)) ∧ w = w' := by
  subst hn
  have hy0 := hy.1
  go_enter Try.func17, Try.ntmps17
  go_wp2
  go_ret
  exact ⟨rfl, rfl⟩

set_option maxRecDepth 100000 in
set_option maxHeartbeats 1000000 in
theorem refEval_12 (n blk off cap : Nat) (x y z : Int) (w : World) (hn : n = 2) (hx : U64 x) (hy : U64 y) (h0 : w.cell? ⟨blk, off, none⟩ = some (.int .u64 x)) (h1 : w.cell? ⟨blk, off + 1, none⟩ = some (.int .u64 y)) :
    Calls Try.prog 17 #[.int .i64 12, .slice (some ⟨blk, off, none⟩) n cap] w fun e w' => e = .returned (.int .u64 (evalS 12 x y z)) ∧ w = w' := by
  subst hn
  have hy0 := hy.1
  obtain ⟨k, hk, hk2⟩ : ∃ k : Nat, y % 64 = (k : Int) ∧ k < 64 := ⟨(y % 64).toNat, by omega, by omega⟩
  have hkn : (y % 64).toNat = k := by omega
  have hkn' := Lib.hid hkn
  clear hkn
  go_enter Try.func17, Try.ntmps17
  go_wp2
  go_ret
  refine ⟨ret_u64 ?_, rfl⟩
  simp only [evalS, evalTwo]
  rw [hkn'.out]
  rfl

set_option maxRecDepth 100000 in
set_option maxHeartbeats 1000000 in
theorem refEval_13 (n blk off cap : Nat) (x y z : Int) (w : World) (hn : n = 2) (hx : U64 x) (hy : U64 y) (h0 : w.cell? ⟨blk, off, none⟩ = some (.int .u64 x)) (h1 : w.cell? ⟨blk, off + 1, none⟩ = some (.int .u64 y)) :
    Calls Try.prog 17 #[.int .i64 13, .slice (some ⟨blk, off, none⟩) n cap] w fun e w' => e = .returned (.int .u64 (evalS 13 x y z)) ∧ w = w' := by
  subst hn
  have hy0 := hy.1
  obtain ⟨k, hk, hk2⟩ : ∃ k : Nat, y % 64 = (k : Int) ∧ k < 64 := ⟨(y % 64).toNat, by omega, by omega⟩
  have hkn : (y % 64).toNat = k := by omega
  have hkn' := Lib.hid hkn
  clear hkn
  go_enter Try.func17, Try.ntmps17
  go_wp2
  go_ret
  refine ⟨ret_u64 ?_, rfl⟩
  simp only [evalS, evalTwo]
  rw [hkn'.out]
  rfl

set_option maxRecDepth 100000 in
set_option maxHeartbeats 1000000 in
theorem refEval_14 (n blk off cap : Nat) (x y z : Int) (w : World) (hn : n = 2) (hx : U64 x) (hy : U64 y) (h0 : w.cell? ⟨blk, off, none⟩ = some (.int .u64 x)) (h1 : w.cell? ⟨blk, off + 1, none⟩ = some (.int .u64 y)) :
    Calls Try.prog 17 #[.int .i64 14, .slice (some ⟨blk, off, none⟩) n cap] w fun e w' => e = .returned (.int .u64 (evalS 14 x y z)) ∧ w = w' := by
  subst hn
  have hy0 := hy.1
  obtain ⟨k, hk, hk2⟩ : ∃ k : Nat, y % 64 = (k : Int) ∧ k < 64 := ⟨(y % 64).toNat, by omega, by omega⟩
  have hkn : (y % 64).toNat = k := by omega
  have hkn' := Lib.hid hkn
  clear hkn
  go_enter Try.func17, Try.ntmps17
  go_wp2
  go_ret
  refine ⟨ret_u64 ?_, rfl⟩
  simp only [evalS, evalTwo]
  rw [hkn'.out]
  rfl

set_option maxRecDepth 100000 in
set_option maxHeartbeats 1000000 in
theorem refEval_15 (n blk off cap : Nat) (x y z : Int) (w : World) (hn : n = 2) (hx : U64 x) (hy : U64 y) (h0 : w.cell? ⟨blk, off, none⟩ = some (.int .u64 x)) (h1 : w.cell? ⟨blk, off + 1, none⟩ = some (.int .u64 y)) :
    Calls Try.prog 17 #[.int .i64 15, .slice (some ⟨blk, off, none⟩) n cap] w fun e w' => e = .returned (.int .u64 (evalS 15 x y z)) ∧ w = w' := by
  subst hn
  have hy0 := hy.1
  obtain ⟨k, hk, hk2⟩ : ∃ k : Nat, y % 64 = (k : Int) ∧ k < 64 := ⟨(y % 64).toNat, by omega, by omega⟩
  have hkn : (y % 64).toNat = k := by omega
  obtain ⟨q, hq, hq2⟩ : ∃ q : Nat, (64 : Int) - (k : Int) = (q : Int) ∧ q = 64 - k := ⟨64 - k, by omega, rfl⟩
  have hq0 : q ≤ 64 := by omega
  have hr := rot64 x hx k hk2
  rw [← hq2] at hr
  have hr' := Lib.hid (hr.trans (show rotl 64 k x = evalS 15 x y z by simp [evalS, evalTwo, hkn]))
  clear hr hq2 hkn
  go_enter Try.func17, Try.ntmps17
  go_wp2
  go_ret
  exact ⟨ret_u64 hr'.out, rfl⟩

set_option maxRecDepth 100000 in
set_option maxHeartbeats 1000000 in
theorem refEval_16 (n blk off cap : Nat) (x y z : Int) (w : World) (hn : n = 2) (hx : U64 x) (hy : U64 y) (h0 : w.cell? ⟨blk, off, none⟩ = some (.int .u64 x)) (h1 : w.cell? ⟨blk, off + 1, none⟩ = some (.int .u64 y)) :
    Calls Try.prog 17 #[.int .i64 16, .slice (some ⟨blk, off, none⟩) n cap] w fun e w' => e = .returned (.int .u64 (evalS 16 x y z)) ∧ w = w' := by
  subst hn
  have hy0 := hy.1
  obtain ⟨k, hk, hk2⟩ : ∃ k : Nat, y % 64 = (k : Int) ∧ k < 64 := ⟨(y % 64).toNat, by omega, by omega⟩
  have hkn : (y % 64).toNat = k := by omega
  obtain ⟨q, hq, hq2⟩ : ∃ q : Nat, (64 : Int) - (k : Int) = (q : Int) ∧ q = 64 - k := ⟨64 - k, by omega, rfl⟩
  have hq0 : q ≤ 64 := by omega
  have hr := ror64 x hx k q hk2 hq2
  have hr' := Lib.hid (hr.trans (show rotl 64 ((64 - k) % 64) x = evalS 16 x y z by simp [evalS, evalTwo, hkn]))
  clear hr hq2 hkn
  go_enter Try.func17, Try.ntmps17
  go_wp2
  go_ret
  exact ⟨ret_u64 hr'.out, rfl⟩

set_option maxRecDepth 100000 in
set_option maxHeartbeats 1000000 in
theorem refEval_17 (n blk off cap : Nat) (x y z : Int) (w : World) (hn : n = 2) (hx : U64 x) (hy : U64 y) (h0 : w.cell? ⟨blk, off, none⟩ = some (.int .u64 x)) (h1 : w.cell? ⟨blk, off + 1, none⟩ = some (.int .u64 y)) :
    Calls Try.prog 17 #[.int .i64 17, .slice (some ⟨blk, off, none⟩) n cap] w fun e w' => e = .returned (.int .u64 (evalS 17 x y z)) ∧ w = w' := by
  subst hn
  have hy0 := hy.1
  go_enter Try.func17, Try.ntmps17
  go_wp2_with (go_at_call 38; refine (one_any _ _).mono ?_; rintro e w' ⟨rfl, rfl⟩)
  go_ret
  exact ⟨rfl, rfl⟩

set_option maxRecDepth 100000 in
set_option maxHeartbeats 1000000 in
theorem refEval_18 (n blk off cap : Nat) (x y z : Int) (w : World) (hn : n = 2) (hx : U64 x) (hy : U64 y) (h0 : w.cell? ⟨blk, off, none⟩ = some (.int .u64 x)) (h1 : w.cell? ⟨blk, off + 1, none⟩ = some (.int .u64 y)) :
    Calls Try.prog 17 #[.int .i64 18, .slice (some ⟨blk, off, none⟩) n cap] w fun e w' => e = .returned (.int .u64 (evalS 18 x y z)) ∧ w = w' := by
  subst hn
  have hy0 := hy.1
  go_enter Try.func17, Try.ntmps17
  go_wp2_with (go_at_call 38; refine (one_any _ _).mono ?_; rintro e w' ⟨rfl, rfl⟩)
  go_ret
  exact ⟨rfl, rfl⟩

set_option maxRecDepth 100000 in
set_option maxHeartbeats 1000000 in
theorem refEval_19 (n blk off cap : Nat) (x y z : Int) (w : World) (hn : n = 2) (hx : U64 x) (hy : U64 y) (h0 : w.cell? ⟨blk, off, none⟩ = some (.int .u64 x)) (h1 : w.cell? ⟨blk, off + 1, none⟩ = some (.int .u64 y)) :
    Calls Try.prog 17 #[.int .i64 19, .slice (some ⟨blk, off, none⟩) n cap] w fun e w' => e = .returned (.int .u64 (evalS 19 x y z)) ∧ w = w' := by
  subst hn
  have hy0 := hy.1
  go_enter Try.func17, Try.ntmps17
  go_wp2_with (go_at_call 38; refine (one_any _ _).mono ?_; rintro e w' ⟨rfl, rfl⟩)
  go_ret
  exact ⟨rfl, rfl⟩

set_option maxRecDepth 100000 in
set_option maxHeartbeats 1000000 in
theorem refEval_20 (n blk off cap : Nat) (x y z : Int) (w : World) (hn : n = 2) (hx : U64 x) (hy : U64 y) (h0 : w.cell? ⟨blk, off, none⟩ = some (.int .u64 x)) (h1 : w.cell? ⟨blk, off + 1, none⟩ = some (.int .u64 y)) :
    Calls Try.prog 17 #[.int .i64 20, .slice (some ⟨blk, off, none⟩) n cap] w fun e w' => e = .returned (.int .u64 (evalS 20 x y z)) ∧ w = w' := by
  subst hn
  have hy0 := hy.1
  go_enter Try.func17, Try.ntmps17
  go_wp2_with (go_at_call 38; refine (one_any _ _).mono ?_; rintro e w' ⟨rfl, rfl⟩)
  go_ret
  exact ⟨rfl, rfl⟩

set_option maxRecDepth 100000 in
set_option maxHeartbeats 1000000 in
theorem refEval_21 (n blk off cap : Nat) (x y z : Int) (w : World) (hn : n = 3) (hx : U64 x) (hy : U64 y) (h0 : w.cell? ⟨blk, off, none⟩ = some (.int .u64 x)) (h1 : w.cell? ⟨blk, off + 1, none⟩ = some (.int .u64 y)) (h2 : w.cell? ⟨blk, off + 2, none⟩ = some (.int .u64 z)) :
    Calls Try.prog 17 #[.int .i64 21, .slice (some ⟨blk, off, none⟩) n cap] w fun e w' => e = .returned (.int .u64 (evalS 21 x y z)) ∧ w = w' := by
  subst hn
  have hy0 := hy.1
  by_cases hz : x = 0
  · subst hz
    go_enter Try.func17, Try.ntmps17
    go_wp2
    go_ret
    exact ⟨rfl, rfl⟩
  · have hb : (x != 0) = true := by simpa using hz
    have hz' := Lib.hid hz
    clear hz
    go_enter Try.func17, Try.ntmps17
    go_wp2
    go_ret
    exact ⟨ret_u64 (by simp [evalS, hz'.out]), rfl⟩

theorem refEval_any (op : Int) (n blk off cap : Nat) (x y z : Int) (w : World) (hop : argsI op = (n : Int)) (hx : U64 x) (hy : U64 y)
    (h0 : w.cell? ⟨blk, off, none⟩ = some (.int .u64 x)) (h1 : 2 ≤ n → w.cell? ⟨blk, off + 1, none⟩ = some (.int .u64 y)) (h2 : 3 ≤ n → w.cell? ⟨blk, off + 2, none⟩ = some (.int .u64 z)) :
    Calls Try.prog 17 #[.int .i64 op, .slice (some ⟨blk, off, none⟩) n cap] w fun e w' => e = .returned (.int .u64 (evalS op x y z)) ∧ w = w' := by
  obtain ⟨m, rfl, m4, m21⟩ : ∃ m : Nat, op = (m : Int) ∧ 4 ≤ m ∧ m ≤ 21 := by
    have hb : 4 ≤ op ∧ op ≤ 21 := by
      unfold argsI at hop
      by_cases a1 : op = 4 ∨ op = 5
      · omega
      · by_cases a2 : 6 ≤ op ∧ op ≤ 20
        · omega
        · by_cases a3 : op = 21
          · omega
          · rw [if_neg a1, if_neg a2, if_neg a3] at hop; omega
    exact ⟨op.toNat, by omega, by omega, by omega⟩
  have hm : m = 4 ∨ m = 5 ∨ m = 6 ∨ m = 7 ∨ m = 8 ∨ m = 9 ∨ m = 10 ∨ m = 11 ∨ m = 12 ∨ m = 13 ∨ m = 14 ∨ m = 15 ∨ m = 16 ∨ m = 17 ∨ m = 18 ∨ m = 19 ∨ m = 20 ∨ m = 21 := by omega
  rcases hm with rfl | rfl | rfl | rfl | rfl | rfl | rfl | rfl | rfl | rfl | rfl | rfl | rfl | rfl | rfl | rfl | rfl | rfl
  · have hnn : n = 1 := by have e : argsI ((4 : Nat) : Int) = 1 := rfl; rw [e] at hop; omega
    exact refEval_4 n blk off cap x y z w hnn hx hy h0
  · have hnn : n = 1 := by have e : argsI ((5 : Nat) : Int) = 1 := rfl; rw [e] at hop; omega
    exact refEval_5 n blk off cap x y z w hnn hx hy h0
  · have hnn : n = 2 := by have e : argsI ((6 : Nat) : Int) = 2 := rfl; rw [e] at hop; omega
    exact refEval_6 n blk off cap x y z w hnn hx hy h0 (h1 (by omega))
  · have hnn : n = 2 := by have e : argsI ((7 : Nat) : Int) = 2 := rfl; rw [e] at hop; omega
    exact refEval_7 n blk off cap x y z w hnn hx hy h0 (h1 (by omega))
  · have hnn : n = 2 := by have e : argsI ((8 : Nat) : Int) = 2 := rfl; rw [e] at hop; omega
    exact refEval_8 n blk off cap x y z w hnn hx hy h0 (h1 (by omega))
  · have hnn : n = 2 := by have e : argsI ((9 : Nat) : Int) = 2 := rfl; rw [e] at hop; omega
    exact refEval_9 n blk off cap x y z w hnn hx hy h0 (h1 (by omega))
  · have hnn : n = 2 := by have e : argsI ((10 : Nat) : Int) = 2 := rfl; rw [e] at hop; omega
    exact refEval_10 n blk off cap x y z w hnn hx hy h0 (h1 (by omega))
  · have hnn : n = 2 := by have e : argsI ((11 : Nat) : Int) = 2 := rfl; rw [e] at hop; omega
    exact refEval_11 n blk off cap x y z w hnn hx hy h0 (h1 (by omega))
  · have hnn : n = 2 := by have e : argsI ((12 : Nat) : Int) = 2 := rfl; rw [e] at hop; omega
    exact refEval_12 n blk off cap x y z w hnn hx hy h0 (h1 (by omega))
  · have hnn : n = 2 := by have e : argsI ((13 : Nat) : Int) = 2 := rfl; rw [e] at hop; omega
    exact refEval_13 n blk off cap x y z w hnn hx hy h0 (h1 (by omega))
  · have hnn : n = 2 := by have e : argsI ((14 : Nat) : Int) = 2 := rfl; rw [e] at hop; omega
    exact refEval_14 n blk off cap x y z w hnn hx hy h0 (h1 (by omega))
  · have hnn : n = 2 := by have e : argsI ((15 : Nat) : Int) = 2 := rfl; rw [e] at hop; omega
    exact refEval_15 n blk off cap x y z w hnn hx hy h0 (h1 (by omega))
  · have hnn : n = 2 := by have e : argsI ((16 : Nat) : Int) = 2 := rfl; rw [e] at hop; omega
    exact refEval_16 n blk off cap x y z w hnn hx hy h0 (h1 (by omega))
  · have hnn : n = 2 := by have e : argsI ((17 : Nat) : Int) = 2 := rfl; rw [e] at hop; omega
    exact refEval_17 n blk off cap x y z w hnn hx hy h0 (h1 (by omega))
  · have hnn : n = 2 := by have e : argsI ((18 : Nat) : Int) = 2 := rfl; rw [e] at hop; omega
    exact refEval_18 n blk off cap x y z w hnn hx hy h0 (h1 (by omega))
  · have hnn : n = 2 := by have e : argsI ((19 : Nat) : Int) = 2 := rfl; rw [e] at hop; omega
    exact refEval_19 n blk off cap x y z w hnn hx hy h0 (h1 (by omega))
  · have hnn : n = 2 := by have e : argsI ((20 : Nat) : Int) = 2 := rfl; rw [e] at hop; omega
    exact refEval_20 n blk off cap x y z w hnn hx hy h0 (h1 (by omega))
  · have hnn : n = 3 := by have e : argsI ((21 : Nat) : Int) = 3 := rfl; rw [e] at hop; omega
    exact refEval_21 n blk off cap x y z w hnn hx hy h0 (h1 (by omega)) (h2 (by omega))

end Go.Proofs.Ytkfenljldmbmcaa
