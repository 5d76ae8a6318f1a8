/- WordEvals answers true. -/
import Derived.Test.YtkfenljldmbmcaaF
set_option linter.unusedSimpArgs false
set_option linter.unusedVariables false
namespace Go.Proofs.Ytkfenljldmbmcaa
open Go.RowKit Go.MapKept

set_option maxHeartbeats 1000000 in
theorem wordEvals_big (op : Int) (a0 : Option Addr) (n cap : Nat) (w : World) (hn : 2000 < n) (hm : n ≤ 9223372036854775807) :
    Calls Try.prog 3 #[.int .i64 op, .slice a0 n cap] w (Yes w) := by
  have hd : decide ((2000 : Int) < (n : Int)) = true := by simp; omega
  go_enter Try.func3, Try.ntmps3
  go_wp2_with fail
  refine (known_any _).mono ?_
  rintro e w5 ⟨rfl, h5⟩
  have h5' := Lib.hid h5
  clear h5
  go_wp2_with fail
  go_ret
  exact ⟨rfl, h5'.out⟩

set_option maxHeartbeats 1000000 in
theorem wordEvals_no (op q : Int) (a0 : Option Addr) (n cap : Nat) (w : World) (hn : n ≤ 2000) (hq : argsI op = q) (hne : (q != (n : Int)) = true) (hneg : Bool) (hneg' : decide (q < 0) = hneg) :
    Calls Try.prog 3 #[.int .i64 op, .slice a0 n cap] w (Yes w) := by
  have hd : decide ((2000 : Int) < (n : Int)) = false := by simp; omega
  have h13 := Lib.hid (fun w => Args_any op w)
  have h15 := Lib.hid (fun w => ArgsP_any op w)
  have h14 := Lib.hid (fun w => EvalP_no op a0 n cap w (by rw [hq]; simpa using hne) (by unfold maxLen; omega))
  rw [hq] at h13 h15
  clear hq
  cases hneg
  all_goals
    go_enter Try.func3, Try.ntmps3
    go_wp2_with fail
    refine (h13.out _).mono ?_
    rintro e w1 ⟨rfl, rfl⟩
    go_wp2_with fail
    refine (h14.out _).mono ?_
    rintro e w2 ⟨rfl, rfl⟩
    go_wp2_with fail
    refine (h15.out _).mono ?_
    rintro e w1 ⟨rfl, rfl⟩
    go_wp2_with (first | (go_at_call 16; refine (num_any _ _).mono ?_; rintro e w' ⟨rfl, rfl⟩))
    refine (known_any _).mono ?_
    rintro e w5 ⟨rfl, h5⟩
    have h5' := Lib.hid h5
    clear h5
    go_wp2_with fail
    go_ret
    exact ⟨rfl, h5'.out⟩

set_option maxHeartbeats 1000000 in
theorem wordEvals_core (op r : Int) (sl : Value) (a0 : Option Addr) (n cap : Nat) (hsl : sl = .slice a0 n cap) (w : World) (hn : n ≤ 2000) (hq : argsI op = (n : Int))
    (h14 : Calls Try.prog 14 #[.int .i64 op, sl] w fun e w' => e = .returned (.tuple #[.int .u64 r, .int .i64 0]) ∧ Below w.heap.size w w')
    (h17 : ∀ w1, Below w.heap.size w w1 → Calls Try.prog 17 #[.int .i64 op, sl] w1 fun e w' => e = .returned (.int .u64 r) ∧ w1 = w') :
    Calls Try.prog 3 #[.int .i64 op, sl] w (Yes w) := by
  subst hsl
  have hd : decide ((2000 : Int) < (n : Int)) = false := by simp; omega
  have h13 := Lib.hid (fun w => Args_any op w)
  have h15 := Lib.hid (fun w => ArgsP_any op w)
  rw [hq] at h13 h15
  have h14' := Lib.hid h14
  have h17' := Lib.hid h17
  clear hq h14 h17
  go_enter Try.func3, Try.ntmps3
  go_wp2_with fail
  refine (h13.out _).mono ?_
  rintro e w1 ⟨rfl, rfl⟩
  go_wp2_with fail
  refine (h14'.out).mono ?_
  rintro e w2 ⟨rfl, b2⟩
  have b2' := Lib.hid b2
  clear b2
  go_wp2_with fail
  refine (h15.out _).mono ?_
  rintro e w1 ⟨rfl, rfl⟩
  go_wp2_with fail
  refine (h17'.out _ b2'.out).mono ?_
  rintro e w1 ⟨rfl, rfl⟩
  go_wp2_with (first | (go_at_call 16; refine (num_any _ _).mono ?_; rintro e w' ⟨rfl, rfl⟩))
  refine (known_any _).mono ?_
  rintro e w5 ⟨rfl, h5⟩
  have h5' := Lib.hid (Below.next b2'.out h5)
  clear h5
  go_wp2_with fail
  go_ret
  exact ⟨rfl, h5'.out⟩

theorem args_pos {op : Int} {n : Nat} (h : argsI op = (n : Int)) : 1 ≤ n := by
  unfold argsI at h
  by_cases a1 : op = 4 ∨ op = 5
  · rw [if_pos a1] at h; omega
  · rw [if_neg a1] at h
    by_cases a2 : 6 ≤ op ∧ op ≤ 20
    · rw [if_pos a2] at h; omega
    · rw [if_neg a2] at h
      by_cases a3 : op = 21
      · rw [if_pos a3] at h; omega
      · rw [if_neg a3] at h; omega

/-- words in a slice -/
def WordsAt (w : World) (a0 : Option Addr) (n : Nat) (zs : List Int) : Prop :=
  (∀ i, U64 (zs.getD i 0)) ∧ (0 < n → ∃ blk off, a0 = some ⟨blk, off, none⟩ ∧ blk < w.heap.size ∧ ∀ i, i < n → w.cell? ⟨blk, off + i, none⟩ = some (.int .u64 (zs.getD i 0)))

theorem wordEvals_any (op : Int) (a0 : Option Addr) (n cap : Nat) (zs : List Int) (w : World) (hm : n ≤ 9223372036854775807) (h : WordsAt w a0 n zs) :
    Calls Try.prog 3 #[.int .i64 op, .slice a0 n cap] w (Yes w) := by
  by_cases hn : 2000 < n
  · exact wordEvals_big op a0 n cap w hn hm
  · by_cases hq : argsI op = (n : Int)
    · have hp := args_pos hq
      obtain ⟨hl, hz⟩ := h
      obtain ⟨blk, off, rfl, hb, hc⟩ := hz (by omega)
      refine wordEvals_core op (evalS op (zs.getD 0 0) (zs.getD 1 0) (zs.getD 2 0)) _ _ n cap rfl w (by omega) hq ?_ ?_
      · exact EvalP_any op n blk off cap _ _ _ w hq hb (hl 0) (hl 1) (hc 0 hp) (fun k => hc 1 (by omega)) (fun k => hc 2 (by omega))
      · intro w1 hw1
        exact refEval_any op n blk off cap _ _ _ w1 hq (hl 0) (hl 1) (cell_up hw1 hb (hc 0 hp)) (fun k => cell_up hw1 hb (hc 1 (by omega))) (fun k => cell_up hw1 hb (hc 2 (by omega)))
    · exact wordEvals_no op _ a0 n cap w (by omega) rfl (by simpa using hq) _ rfl
end Go.Proofs.Ytkfenljldmbmcaa
