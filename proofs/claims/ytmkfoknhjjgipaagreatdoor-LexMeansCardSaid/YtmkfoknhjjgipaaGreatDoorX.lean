/- The iterator over tokens; the reference's skip, sign. -/
import Derived.Test.YtmkfoknhjjgipaaGreatDoorV
import Derived.BigQuiet
set_option linter.unusedSimpArgs false
set_option linter.unusedVariables false
namespace Go.Proofs.YtmkfoknhjjgipaaGreatDoor
open Go.RowKit Go.Lib Go.Shelf

theorem toks49_said (n : Nat) (hn : 2 ≤ n) (b : Nat) (s : ByteArray) (hs : s.size ≤ 2000000) (w : World) (hb : w.heap[b]? = some (.cells #[.string s] 9 (0, 0))) : TokIter n 49 #[.pointer (some ⟨b, 0, none⟩)] s w := by
  intro l J Jx W Z0 hB hJ hY hJ0
  have hb' := (hB.block b (blk_lt hb)).trans hb
  obtain ⟨x0, xf⟩ := (⟨by rw [blk_cell hb']; rfl, fun k => by simp [World.frozen?, hb']⟩ : W.cell? ⟨b, 0, none⟩ = some (.string s) ∧ ∀ k, W.frozen? ⟨b, k, none⟩ = false)
  have hsc := Lib.hid (scan_in (n - 1) (by omega) l s hs J Jx hJ W (fun Z pre t rest W1 h hp => yieldAt_any (hY Z pre t rest W1 h hp)) Z0 hJ0)
  have hfin : ∀ e W', ScanPost s J Jx e W' → ∃ v, e = .returned v ∧ ((∃ Z, J Z (toksOf s) W') ∨ (∃ pre rest, pre ≠ [] ∧ pre ++ rest = (scanA s).1 ∧ Jx pre W')) := by
    rintro e W' (⟨h1, _, rfl, Z, hj⟩ | ⟨h1, er, a, p, Z, _, rfl, _, _, hj⟩ | ⟨h1, pre, rest, h2, h3, rfl, hj⟩ | ⟨h1, rfl, Z, hj⟩)
    · exact ⟨_, rfl, .inl ⟨Z, by unfold toksOf; rw [if_neg (by omega)]; exact hj⟩⟩
    · exact ⟨_, rfl, .inl ⟨Z, by unfold toksOf; rw [if_neg (by omega)]; exact hj⟩⟩
    · exact ⟨_, rfl, .inr ⟨pre, rest, h2, h3, hj⟩⟩
    · exact ⟨_, rfl, .inl ⟨Z, by unfold toksOf; rw [if_pos h1]; exact hj⟩⟩
  have hfin := Lib.hid hfin
  clear hY hJ0 hJ
  refine callsIn_of_wp Tryz.func49 rfl trivial ?_ rfl
  simp only [Tryz.ntmps49, List.size_toArray, List.length_cons, List.length_nil, Nat.reduceAdd, Nat.reduceSub, Array.replicate_succ, Array.replicate_zero, List.push_toArray, List.append_toArray, List.nil_append, List.cons_append]
  gi_wp2_with fail
  refine ⟨trivial, ?_⟩
  refine ⟨fun _ => by omega, ?_⟩
  refine hsc.out.mono ?_
  intro e w1 h0
  obtain ⟨v, rfl, h1⟩ := hfin.out e w1 h0
  have hq := Lib.hid h1
  clear h0 h1
  gi_wp2
  refine Go.bodyPost_end (results_none rfl _ _ _) rfl ?_
  exact ⟨⟨_, rfl⟩, hq.out⟩
theorem tokens_any (s : ByteArray) (w : World) : Calls Tryz.prog 25 #[.string s] w fun e w' => e = .returned (.func (.func 49) #[] #[.pointer (some ⟨w.heap.size, 0, none⟩)]) ∧ w' = w.alloc (.cells #[.string s] 9) := by
  go_enter Tryz.func25, Tryz.ntmps25
  go_wp2
  go_ret
  exact ⟨rfl, rfl⟩
end Go.Proofs.YtmkfoknhjjgipaaGreatDoor
