/- The law's helpers bin, shift, eval. -/
import Derived.Test.YtkfenljldmbmcaaS2
import Derived.Test.YtkfenljldmbmcaaZ
set_option linter.unusedSimpArgs false
set_option linter.unusedVariables false
namespace Go.Proofs.Ytkfenljldmbmcaa
open Go.RowKit Go.MapKept

def Yes (w : World) (e : Ending) (w' : World) : Prop := e = .returned (.bool true) ∧ Below w.heap.size w w'
def Three (x : Int) (c z s o p : Bool) (w : World) (e : Ending) (w' : World) : Prop :=
  e = .returned (.tuple #[.int .u64 x, .agg #[.bool c, .bool z, .bool s, .bool o, .bool p], .int .i64 0]) ∧ Below w.heap.size w w'

set_option maxHeartbeats 1000000 in
theorem bin_core (op a b x : Int) (c z s o p : Bool) (w : World)
    (h : ∀ w, Calls Try.prog 18 #[.int .i64 op, .int .i64 8, .int .u64 a, .int .u64 b, .agg #[.bool false, .bool false, .bool false, .bool false, .bool false]] w (Three x c z s o p w)) :
    Calls Try.prog 34 #[.int .i64 op, .int .u64 a, .int .u64 b, .int .u64 x, .agg #[.bool c, .bool z, .bool s, .bool o, .bool p]] w (Yes w) := by
  go_enter Try.func34, Try.ntmps34
  go_wp2_with fail
  refine (h _).mono ?_
  rintro e w1 ⟨rfl, hb⟩
  obtain ⟨hk, hbel, hsz⟩ := kept5 hb
  obtain ⟨g0, g1, g2, g3, g4, f0⟩ := cells5 hk
  have hbel' := Lib.hid hbel
  clear hb hbel hk
  go_wp2_with fail
  refine (num_any _ _).mono ?_
  rintro e w2 ⟨rfl, rfl⟩
  go_wp2_with fail
  go_ret
  exact ⟨rfl, hbel'.out.alloc (by omega) _⟩

set_option maxHeartbeats 1000000 in
theorem shift_core (op a b x : Int) (c z s o p : Bool) (w : World)
    (h : ∀ w, Calls Try.prog 21 #[.int .i64 op, .int .i64 8, .int .u64 a, .int .u64 b, .agg #[.bool false, .bool false, .bool false, .bool false, .bool false]] w (Three x c z s o p w)) :
    Calls Try.prog 35 #[.int .i64 op, .int .u64 a, .int .u64 b, .int .u64 x, .agg #[.bool c, .bool z, .bool s, .bool o, .bool p]] w (Yes w) := by
  go_enter Try.func35, Try.ntmps35
  go_wp2_with fail
  refine (h _).mono ?_
  rintro e w1 ⟨rfl, hb⟩
  obtain ⟨hk, hbel, hsz⟩ := kept5 hb
  obtain ⟨g0, g1, g2, g3, g4, f0⟩ := cells5 hk
  have hbel' := Lib.hid hbel
  clear hb hbel hk
  go_wp2_with fail
  refine (num_any _ _).mono ?_
  rintro e w2 ⟨rfl, rfl⟩
  go_wp2_with fail
  go_ret
  exact ⟨rfl, hbel'.out.alloc (by omega) _⟩

set_option maxHeartbeats 1000000 in
theorem eval_core (op x : Int) (v : Value) (w : World)
    (h : Calls Try.prog 14 #[.int .i64 op, v] w fun e w' => e = .returned (.tuple #[.int .u64 x, .int .i64 0]) ∧ Below w.heap.size w w') :
    Calls Try.prog 36 #[.int .i64 op, .int .u64 x, v] w (Yes w) := by
  go_enter Try.func36, Try.ntmps36
  go_wp2_with fail
  refine h.mono ?_
  rintro e w1 ⟨rfl, hb⟩
  have hb' := Lib.hid hb
  clear hb h
  go_wp2_with fail
  refine (num_any _ _).mono ?_
  rintro e w2 ⟨rfl, rfl⟩
  go_wp2_with fail
  go_ret
  exact ⟨rfl, hb'.out⟩

theorem bin_0 (w : World) : Calls Try.prog 34 #[.int .i64 1, .int .u64 255, .int .u64 1, .int .u64 0, .agg #[.bool true, .bool true, .bool false, .bool false, .bool true]] w (Yes w) :=
  bin_core 1 255 1 0 true true false false true w fun w => (Do_any 1 8 255 1 false false false false false w (by simp [MayW]) ⟨by omega, by omega⟩ ⟨by omega, by omega⟩ (by omega)).mono fun e w' h => by
    have e1 : doO 1 8 255 1 false = 0 := by decide +kernel
    have e2 : doC 1 8 255 1 false = true := by decide +kernel
    have e3 : doV 1 8 255 1 false = false := by decide +kernel
    unfold DoPost at h
    rw [e1, e2, e3] at h
    exact h

theorem bin_1 (w : World) : Calls Try.prog 34 #[.int .i64 3, .int .u64 0, .int .u64 1, .int .u64 255, .agg #[.bool true, .bool false, .bool true, .bool false, .bool true]] w (Yes w) :=
  bin_core 3 0 1 255 true false true false true w fun w => (Do_any 3 8 0 1 false false false false false w (by simp [MayW]) ⟨by omega, by omega⟩ ⟨by omega, by omega⟩ (by omega)).mono fun e w' h => by
    have e1 : doO 3 8 0 1 false = 255 := by decide +kernel
    have e2 : doC 3 8 0 1 false = true := by decide +kernel
    have e3 : doV 3 8 0 1 false = false := by decide +kernel
    unfold DoPost at h
    rw [e1, e2, e3] at h
    exact h

theorem bin_2 (w : World) : Calls Try.prog 34 #[.int .i64 1, .int .u64 127, .int .u64 1, .int .u64 128, .agg #[.bool false, .bool false, .bool true, .bool true, .bool false]] w (Yes w) :=
  bin_core 1 127 1 128 false false true true false w fun w => (Do_any 1 8 127 1 false false false false false w (by simp [MayW]) ⟨by omega, by omega⟩ ⟨by omega, by omega⟩ (by omega)).mono fun e w' h => by
    have e1 : doO 1 8 127 1 false = 128 := by decide +kernel
    have e2 : doC 1 8 127 1 false = false := by decide +kernel
    have e3 : doV 1 8 127 1 false = true := by decide +kernel
    unfold DoPost at h
    rw [e1, e2, e3] at h
    exact h

theorem shift_0 (w : World) : Calls Try.prog 35 #[.int .i64 1, .int .u64 129, .int .u64 1, .int .u64 2, .agg #[.bool true, .bool false, .bool false, .bool true, .bool false]] w (Yes w) :=
  shift_core 1 129 1 2 true false false true false w fun w => (Shift_any 1 8 129 1 false false false false false w (by simp [MayW]) ⟨by omega, by omega⟩ ⟨by omega, by omega⟩ (by omega)).mono fun e w' h => by
    have e1 : shO 1 8 (lowI 8 129) (shN 8 1) = 2 := by decide +kernel
    have e2 : shGC 1 8 (lowI 8 129) (shN 8 1) false = true := by decide +kernel
    have e3 : shGZ 1 8 (lowI 8 129) (shN 8 1) false = false := by decide +kernel
    have e4 : shGS 1 8 (lowI 8 129) (shN 8 1) false = false := by decide +kernel
    have e5 : shGO 1 8 (lowI 8 129) (shN 8 1) false = true := by decide +kernel
    have e6 : shGP 1 8 (lowI 8 129) (shN 8 1) false = false := by decide +kernel
    unfold ShA at h
    rw [e1, e2, e3, e4, e5, e6] at h
    exact h

theorem shift_1 (w : World) : Calls Try.prog 35 #[.int .i64 5, .int .u64 1, .int .u64 1, .int .u64 128, .agg #[.bool true, .bool false, .bool false, .bool true, .bool false]] w (Yes w) :=
  shift_core 5 1 1 128 true false false true false w fun w => (Shift_any 5 8 1 1 false false false false false w (by simp [MayW]) ⟨by omega, by omega⟩ ⟨by omega, by omega⟩ (by omega)).mono fun e w' h => by
    have e1 : shO 5 8 (lowI 8 1) (shN 8 1) = 128 := by decide +kernel
    have e2 : shGC 5 8 (lowI 8 1) (shN 8 1) false = true := by decide +kernel
    have e3 : shGZ 5 8 (lowI 8 1) (shN 8 1) false = false := by decide +kernel
    have e4 : shGS 5 8 (lowI 8 1) (shN 8 1) false = false := by decide +kernel
    have e5 : shGO 5 8 (lowI 8 1) (shN 8 1) false = true := by decide +kernel
    have e6 : shGP 5 8 (lowI 8 1) (shN 8 1) false = false := by decide +kernel
    unfold ShA at h
    rw [e1, e2, e3, e4, e5, e6] at h
    exact h

theorem shift_2 (w : World) : Calls Try.prog 35 #[.int .i64 3, .int .u64 128, .int .u64 7, .int .u64 255, .agg #[.bool false, .bool false, .bool true, .bool false, .bool true]] w (Yes w) :=
  shift_core 3 128 7 255 false false true false true w fun w => (Shift_any 3 8 128 7 false false false false false w (by simp [MayW]) ⟨by omega, by omega⟩ ⟨by omega, by omega⟩ (by omega)).mono fun e w' h => by
    have e1 : shO 3 8 (lowI 8 128) (shN 8 7) = 255 := by decide +kernel
    have e2 : shGC 3 8 (lowI 8 128) (shN 8 7) false = false := by decide +kernel
    have e3 : shGZ 3 8 (lowI 8 128) (shN 8 7) false = false := by decide +kernel
    have e4 : shGS 3 8 (lowI 8 128) (shN 8 7) false = true := by decide +kernel
    have e5 : shGO 3 8 (lowI 8 128) (shN 8 7) false = false := by decide +kernel
    have e6 : shGP 3 8 (lowI 8 128) (shN 8 7) false = true := by decide +kernel
    unfold ShA at h
    rw [e1, e2, e3, e4, e5, e6] at h
    exact h

theorem shift_3 (w : World) : Calls Try.prog 35 #[.int .i64 1, .int .u64 1, .int .u64 32, .int .u64 1, .agg #[.bool false, .bool false, .bool false, .bool false, .bool false]] w (Yes w) :=
  shift_core 1 1 32 1 false false false false false w fun w => (Shift_any 1 8 1 32 false false false false false w (by simp [MayW]) ⟨by omega, by omega⟩ ⟨by omega, by omega⟩ (by omega)).mono fun e w' h => by
    have e1 : shO 1 8 (lowI 8 1) (shN 8 32) = 1 := by decide +kernel
    have e2 : shGC 1 8 (lowI 8 1) (shN 8 32) false = false := by decide +kernel
    have e3 : shGZ 1 8 (lowI 8 1) (shN 8 32) false = false := by decide +kernel
    have e4 : shGS 1 8 (lowI 8 1) (shN 8 32) false = false := by decide +kernel
    have e5 : shGO 1 8 (lowI 8 1) (shN 8 32) false = false := by decide +kernel
    have e6 : shGP 1 8 (lowI 8 1) (shN 8 32) false = false := by decide +kernel
    unfold ShA at h
    rw [e1, e2, e3, e4, e5, e6] at h
    exact h

end Go.Proofs.Ytkfenljldmbmcaa
