/- The reference's Same. -/
import Derived.Test.YtageahpgcjnkpaaV
set_option linter.unusedSimpArgs false
set_option linter.unusedVariables false
namespace Go.Proofs.Ytageahpgcjnkpaa
open Go.RowKit

set_option maxRecDepth 100000 in
set_option maxHeartbeats 2000000 in
theorem refSame_any {p q p' q' : Nat} {A A' : Option Addr} {n cap n' cap' : Nat} {L L' : List Reg} {f f' : Nat → Int} (w : World) (h : RMem_ w p q A n cap L f) (h' : RMem_ w p' q' A' n' cap' L' f') :
    Calls Try.prog 34 #[.pointer (some ⟨p, 0, none⟩), .pointer (some ⟨p', 0, none⟩)] w (BoolPost (decide (L = L') && eqF f f') w) := by
  have c0 := Sub.cell h.c0
  have c1 := Sub.cell h.c1
  have c0' := Sub.cell h'.c0
  have c1' := Sub.cell h'.c1
  have heq := Lib.hid fun s : Sub w => sameRegions_any A A' n cap n' cap' L L' s.val ((h.hr.below s.property).more s.property.size) ((h'.hr.below s.property).more s.property.size) (by have := h.hn; omega) (by have := h'.hn; omega)
  have hq := Lib.hid (fun w' hw' => run_strF w' q 0 65536 65536 f (Sub.blk h.hq w' hw') (by omega))
  have hq' := Lib.hid (fun w' hw' => run_strF w' q' 0 65536 65536 f' (Sub.blk h'.hq w' hw') (by omega))
  have hs := strF_eqF h.hf h'.hf
  clear h h'
  obtain ⟨t, ht⟩ : ∃ t, decide (L = L') = t := ⟨_, rfl⟩
  rw [ht] at heq ⊢
  obtain ⟨u, hu⟩ : ∃ u, eqF f f' = u := ⟨_, rfl⟩
  rw [hu] at hs ⊢
  clear ht hu
  generalize strF f 0 65536 = s1 at hq hs
  generalize strF f' 0 65536 = s2 at hq' hs
  go_enter Try.func34, Try.ntmps34
  go_wp2
  cases t
  · refine wp_region_below (by kernel_rfl) (by kernel_rfl) ?_
    repeat (go_big_quiet_step (with_reducible exact Sub.call (heq.out _)))
    refine wpQuiet_nil ?_
    rintro _ ⟨⟨w3, hb3⟩, rfl⟩
    go_wp2
    go_ret
    exact ⟨rfl, hb3⟩
  · refine wp_region_below (by kernel_rfl) (by kernel_rfl) ?_
    repeat (first
      | (go_big_quiet_want; refine quiet_convert 50 9 (.tmp 18) rfl _ (.string s1) rfl hq.out ?_; simp [Act.put]; go_big_quiet_on)
      | (go_big_quiet_want; refine quiet_convert 50 9 (.tmp 23) rfl _ (.string s2) rfl hq'.out ?_; simp [Act.put]; go_big_quiet_on)
      | (go_big_quiet_step (with_reducible exact Sub.call (heq.out _))))
    refine wpQuiet_nil ?_
    rintro _ ⟨⟨w3, hb3⟩, rfl⟩
    go_wp2
    go_ret
    exact ⟨rfl, hb3⟩
end Go.Proofs.Ytageahpgcjnkpaa
