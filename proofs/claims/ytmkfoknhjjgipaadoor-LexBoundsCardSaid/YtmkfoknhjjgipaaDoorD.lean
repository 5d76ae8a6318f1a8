/- The reference's Name; the language's own numbers. -/
import Derived.Test.YtmkfoknhjjgipaaDoorC
set_option linter.unusedSimpArgs false
set_option linter.unusedVariables false
namespace Go.Proofs.YtmkfoknhjjgipaaDoor
open Go.RowKit Go.Lib Go.Shelf

theorem num_any (a : Int) (w : World) : Calls Tryd.prog 11 #[.int .i64 a] w fun e w' => e = .returned (.int .i64 a) ∧ w = w' := by
  go_enter Tryd.func11, Tryd.ntmps11
  go_wp2
  go_ret
  exact ⟨rfl, rfl⟩
theorem all_of {s : ByteArray} {p : UInt8 → Bool} (h : ∀ (k : Nat) (hk : k < s.size), p (s[k]'hk) = true) : s.data.toList.all p = true := by
  rw [List.all_eq_true]
  intro b hb
  obtain ⟨k, hk⟩ := List.getElem?_of_mem hb
  have hlt : k < s.size := by rw [← size_list]; exact (List.getElem?_eq_some_iff.1 hk).1
  rw [get_list s k hlt] at hk
  cases hk
  exact h k hlt
theorem all_no {s : ByteArray} {p : UInt8 → Bool} {k : Nat} (hk : k < s.size) (h : p (s[k]'hk) = false) : s.data.toList.all p = false := by
  rw [List.all_eq_false]
  exact ⟨s[k]'hk, List.mem_of_getElem? (get_list s k hk), by simp [h]⟩

end Go.Proofs.YtmkfoknhjjgipaaDoor
