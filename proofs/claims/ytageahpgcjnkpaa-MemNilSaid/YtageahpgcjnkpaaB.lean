/- Small contracts of memories: num, region, end, may, there. -/
import Derived.Test.YtageahpgcjnkpaaA2
set_option linter.unusedSimpArgs false
set_option linter.unusedVariables false
namespace Go.Proofs.Ytageahpgcjnkpaa
open Go.RowKit

set_option maxHeartbeats 400000 in
theorem num_any (a : Int) (w : World) : Calls Try.prog 15 #[.int .i64 a] w fun e w' => e = .returned (.int .i64 a) ∧ w = w' := by
  go_enter Try.func15, Try.ntmps15
  go_wp2
  go_ret
  exact ⟨rfl, rfl⟩

def boxReg (r : Reg) : Obj := .cells #[.string r.name, .int .i64 r.addr, .int .i64 r.size, .bool r.sec] 67

set_option maxHeartbeats 400000 in
theorem region_any (nm : ByteArray) (a s : Int) (w : World) : Calls Try.prog 36 #[.string nm, .int .i64 a, .int .i64 s] w fun e w' =>
    e = .returned (Reg.val ⟨nm, a, s, false⟩) ∧ Below w.heap.size w w' := by
  go_enter Try.func36, Try.ntmps36
  go_wp2
  refine bodyPost_ret (v := Reg.val ⟨nm, a, s, false⟩) (by simp [results, Try.results36, go_sem, Reg.val]) rfl ⟨rfl, ?_⟩
  exact (Below.refl _ _).alloc (Nat.le_refl _) _

set_option maxHeartbeats 400000 in
theorem end_any (r : Reg) (w : World) (h0 : 0 ≤ r.addr) (h1 : r.addr ≤ 100000) (h2 : 0 ≤ r.size) (h3 : r.size ≤ 100000) : Calls Try.prog 49 #[r.val] w fun e w' =>
    e = .returned (.int .i64 r.end_) ∧ Below w.heap.size w w' := by
  obtain ⟨nm, a, s, b⟩ := r
  dsimp only at h0 h1 h2 h3
  unfold Reg.val Reg.end_
  go_enter Try.func49, Try.ntmps49
  go_wp2
  go_ret
  exact ⟨rfl, (Below.refl _ _).alloc (Nat.le_refl _) _⟩

set_option maxHeartbeats 1000000 in
theorem may_any (r : Reg) (w : World) (hr : r.Wf) : Calls Try.prog 48 #[r.val] w fun e w' =>
    e = .returned (.bool (mayB r)) ∧ w' = w.alloc (boxReg r) := by
  obtain ⟨nm, a, s, b⟩ := r
  obtain ⟨⟨ha, hb⟩, ⟨hs, ht⟩, hn⟩ := hr
  dsimp only at ha hb hs ht hn
  unfold Reg.val mayB
  dsimp only
  go_enter Try.func48, Try.ntmps48
  go_wp2
  all_goals go_ret
  all_goals refine ⟨ret_bool ?_, rfl⟩
  all_goals (rw [Bool.eq_iff_iff]; simp only [Bool.and_eq_true, decide_eq_true_eq, Bool.false_eq_true, false_iff, not_and]; first | omega | (simp at *; omega))
end Go.Proofs.Ytageahpgcjnkpaa
