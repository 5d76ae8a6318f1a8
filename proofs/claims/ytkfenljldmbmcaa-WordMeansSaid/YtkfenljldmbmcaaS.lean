/- Shift and the reference's Shift: the count nought, and what is refused. -/
import Derived.Test.YtkfenljldmbmcaaP
import Derived.Test.YtkfenljldmbmcaaI
set_option linter.unusedSimpArgs false
set_option linter.unusedVariables false
namespace Go.Proofs.Ytkfenljldmbmcaa
open Go.RowKit Go.MapKept

def RefSh0 (A : Int) (f : Value) (w : World) (e : Ending) (w' : World) : Prop :=
  e = .returned (.tuple #[.int .u64 A, f]) ∧ Below w.heap.size w w'
def Sh0 (A : Int) (f : Value) (w : World) (e : Ending) (w' : World) : Prop :=
  e = .returned (.tuple #[.int .u64 A, f, .int .i64 0]) ∧ Below w.heap.size w w'

set_option maxRecDepth 100000 in
set_option maxHeartbeats 1000000 in
theorem refShift_0h (op wd a cn : Int) (c z s o p : Bool) (w : World) (hw : MayW wd) (h : U64 a) (hc : U64 cn) (h64 : (wd == 64) = false) (hn : cn % 32 = 0) :
    Calls Try.prog 22 #[.int .i64 op, .int .i64 wd, .int .u64 a, .int .u64 cn, .agg #[.bool c, .bool z, .bool s, .bool o, .bool p]] w (RefSh0 (lowI wd a) (.agg #[.bool c, .bool z, .bool s, .bool o, .bool p]) w) := by
  have hc0 := hc.1
  go_enter Try.func22, Try.ntmps22
  go_wp2_with (first | (go_at_call 32; refine (Low_any _ _ _ hw h).mono ?_; rintro e w1 ⟨rfl, rfl⟩))
  all_goals go_region
  go_wp2_with fail
  refine bodyPost_ret (v := .tuple #[.int .u64 (lowI wd a), .agg #[.bool c, .bool z, .bool s, .bool o, .bool p]]) (by simp [results, Try.results22, go_sem]) rfl ⟨rfl, ?_⟩
  exact (((Below.refl _ _).alloc (Nat.le_refl _) _).alloc (by simp) _).drew

set_option maxRecDepth 100000 in
set_option maxHeartbeats 1000000 in
theorem refShift_0q (op wd a cn : Int) (c z s o p : Bool) (w : World) (hw : MayW wd) (h : U64 a) (hc : U64 cn) (h64 : (wd == 64) = true) (hn : cn % 64 = 0) :
    Calls Try.prog 22 #[.int .i64 op, .int .i64 wd, .int .u64 a, .int .u64 cn, .agg #[.bool c, .bool z, .bool s, .bool o, .bool p]] w (RefSh0 (lowI wd a) (.agg #[.bool c, .bool z, .bool s, .bool o, .bool p]) w) := by
  have hc0 := hc.1
  go_enter Try.func22, Try.ntmps22
  go_wp2_with (first | (go_at_call 32; refine (Low_any _ _ _ hw h).mono ?_; rintro e w1 ⟨rfl, rfl⟩))
  all_goals go_region
  go_wp2_with fail
  refine bodyPost_ret (v := .tuple #[.int .u64 (lowI wd a), .agg #[.bool c, .bool z, .bool s, .bool o, .bool p]]) (by simp [results, Try.results22, go_sem]) rfl ⟨rfl, ?_⟩
  exact (((Below.refl _ _).alloc (Nat.le_refl _) _).alloc (by simp) _).drew

set_option maxRecDepth 100000 in
set_option maxHeartbeats 1000000 in
theorem Shift_0h (op wd a cn : Int) (c z s o p : Bool) (w : World) (hw : MayW wd) (h : U64 a) (hop : 1 ≤ op ∧ op ≤ 5) (h64 : (wd == 64) = false) (hn : bits BinOp.and IntKind.u64 cn 31 = 0) :
    Calls Try.prog 21 #[.int .i64 op, .int .i64 wd, .int .u64 a, .int .u64 cn, .agg #[.bool c, .bool z, .bool s, .bool o, .bool p]] w (Sh0 (lowI wd a) (.agg #[.bool c, .bool z, .bool s, .bool o, .bool p]) w) := by
  have hmay := mayB_of hw
  obtain ⟨hop1, hop2⟩ := hop
  go_enter Try.func21, Try.ntmps21
  go_wp2_with fail
  refine (may_any _ _).mono ?_; rintro e w1 ⟨rfl, rfl⟩
  go_wp2_with fail
  refine (low_any _ _ _ hw h).mono ?_; rintro e w1 ⟨rfl, rfl⟩
  go_wp2_with fail
  all_goals go_region
  go_wp2_with fail
  refine bodyPost_ret (v := .tuple #[.int .u64 (lowI wd a), .agg #[.bool c, .bool z, .bool s, .bool o, .bool p], .int .i64 0]) (by simp [results, Try.results21, go_sem]) rfl ⟨rfl, ?_⟩
  exact (((Below.refl _ _).alloc (Nat.le_refl _) _).alloc (by simp) _).drew

set_option maxRecDepth 100000 in
set_option maxHeartbeats 1000000 in
theorem Shift_0q (op wd a cn : Int) (m : Nat) (hm : m < 32) (c z s o p : Bool) (w : World) (hw : MayW wd) (h : U64 a) (hop : 1 ≤ op ∧ op ≤ 5) (h64 : (wd == 64) = true) (hn0' : bits BinOp.and IntKind.u64 cn 31 = (m : Int)) (hn : bits BinOp.and IntKind.u64 cn 63 = 0) :
    Calls Try.prog 21 #[.int .i64 op, .int .i64 wd, .int .u64 a, .int .u64 cn, .agg #[.bool c, .bool z, .bool s, .bool o, .bool p]] w (Sh0 (lowI wd a) (.agg #[.bool c, .bool z, .bool s, .bool o, .bool p]) w) := by
  have hmay := mayB_of hw
  obtain ⟨hop1, hop2⟩ := hop
  go_enter Try.func21, Try.ntmps21
  go_wp2_with fail
  refine (may_any _ _).mono ?_; rintro e w1 ⟨rfl, rfl⟩
  go_wp2_with fail
  refine (low_any _ _ _ hw h).mono ?_; rintro e w1 ⟨rfl, rfl⟩
  go_wp2_with fail
  all_goals go_region
  go_wp2_with fail
  refine bodyPost_ret (v := .tuple #[.int .u64 (lowI wd a), .agg #[.bool c, .bool z, .bool s, .bool o, .bool p], .int .i64 0]) (by simp [results, Try.results21, go_sem]) rfl ⟨rfl, ?_⟩
  exact (((Below.refl _ _).alloc (Nat.le_refl _) _).alloc (by simp) _).drew

set_option maxRecDepth 100000 in
set_option maxHeartbeats 1000000 in
theorem Shift_now (op wd a cn : Int) (c z s o p : Bool) (w : World) (hw : ¬ MayW wd) :
    Calls Try.prog 21 #[.int .i64 op, .int .i64 wd, .int .u64 a, .int .u64 cn, .agg #[.bool c, .bool z, .bool s, .bool o, .bool p]] w (DoNo w) := by
  have hmay := mayB_no hw
  go_enter Try.func21, Try.ntmps21
  go_wp2_with fail
  refine (may_any _ _).mono ?_; rintro e w1 ⟨rfl, rfl⟩
  go_wp2_with fail
  refine bodyPost_ret (v := .tuple #[.int .u64 0, .agg #[.bool false, .bool false, .bool false, .bool false, .bool false], .int .i64 2]) (by simp [results, Try.results21, go_sem]) rfl ⟨rfl, ?_⟩
  repeat (first | exact Below.refl _ _ | with_reducible refine Below.setCell ?_ (by simp) _ | with_reducible refine Below.alloc ?_ (by simp) _)

set_option maxRecDepth 100000 in
set_option maxHeartbeats 1000000 in
theorem Shift_nolo (op wd a cn : Int) (c z s o p : Bool) (w : World) (hw : MayW wd) (hop : op < 1) :
    Calls Try.prog 21 #[.int .i64 op, .int .i64 wd, .int .u64 a, .int .u64 cn, .agg #[.bool c, .bool z, .bool s, .bool o, .bool p]] w (DoNo w) := by
  have hmay := mayB_of hw
  go_enter Try.func21, Try.ntmps21
  go_wp2_with fail
  refine (may_any _ _).mono ?_; rintro e w1 ⟨rfl, rfl⟩
  go_wp2_with fail
  refine bodyPost_ret (v := .tuple #[.int .u64 0, .agg #[.bool false, .bool false, .bool false, .bool false, .bool false], .int .i64 2]) (by simp [results, Try.results21, go_sem]) rfl ⟨rfl, ?_⟩
  repeat (first | exact Below.refl _ _ | with_reducible refine Below.setCell ?_ (by simp) _ | with_reducible refine Below.alloc ?_ (by simp) _)

set_option maxRecDepth 100000 in
set_option maxHeartbeats 1000000 in
theorem Shift_nohi (op wd a cn : Int) (c z s o p : Bool) (w : World) (hw : MayW wd) (hop : 5 < op) :
    Calls Try.prog 21 #[.int .i64 op, .int .i64 wd, .int .u64 a, .int .u64 cn, .agg #[.bool c, .bool z, .bool s, .bool o, .bool p]] w (DoNo w) := by
  have hmay := mayB_of hw
  go_enter Try.func21, Try.ntmps21
  go_wp2_with fail
  refine (may_any _ _).mono ?_; rintro e w1 ⟨rfl, rfl⟩
  go_wp2_with fail
  refine bodyPost_ret (v := .tuple #[.int .u64 0, .agg #[.bool false, .bool false, .bool false, .bool false, .bool false], .int .i64 2]) (by simp [results, Try.results21, go_sem]) rfl ⟨rfl, ?_⟩
  repeat (first | exact Below.refl _ _ | with_reducible refine Below.setCell ?_ (by simp) _ | with_reducible refine Below.alloc ?_ (by simp) _)

theorem Shift_no (op wd a cn : Int) (c z s o p : Bool) (w : World) (h : ¬ (1 ≤ op ∧ op ≤ 5) ∨ ¬ MayW wd) :
    Calls Try.prog 21 #[.int .i64 op, .int .i64 wd, .int .u64 a, .int .u64 cn, .agg #[.bool c, .bool z, .bool s, .bool o, .bool p]] w (DoNo w) := by
  by_cases hw : MayW wd
  · by_cases h1 : op < 1
    · exact Shift_nolo op wd a cn c z s o p w hw h1
    · exact Shift_nohi op wd a cn c z s o p w hw (by
      rcases h with h | h
      · omega
      · exact absurd hw h)
  · exact Shift_now op wd a cn c z s o p w hw
end Go.Proofs.Ytkfenljldmbmcaa
