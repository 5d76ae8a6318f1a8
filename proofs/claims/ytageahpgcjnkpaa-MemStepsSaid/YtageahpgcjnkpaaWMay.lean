/- MemMay answers true. -/
import Derived.Test.YtageahpgcjnkpaaP4
import Derived.Deep.RegionHeldLaw
set_option linter.unusedSimpArgs false
set_option linter.unusedVariables false
namespace Go.Proofs.Ytageahpgcjnkpaa
open Go.RowKit

theorem sameRegions_refl {A A' : Option Addr} {n c c' : Nat} {L : List Reg} (w : World) (hv : RegsAt w w.heap.size A n L) (hw : RegsAt w w.heap.size A' n L) (hn : n ≤ 9223372036854775807) : Calls Try.prog 24 #[.slice A n c, .slice A' n c'] w (BoolPost true w) := by
  have h := sameRegions_any A A' n c n c' L L w hv hw hn hn
  rw [show decide (L = L) = true by simp] at h
  exact h
theorem sameWords_refl {A A' : Option Addr} {n c c' : Nat} {W : List (List Int)} (w : World) (h : W.length = n) (hv : WsAt w A W) (hw : WsAt w A' W) (hn : n ≤ 9223372036854775807) : Calls Try.prog 26 #[.slice A n c, .slice A' n c'] w (BoolPost true w) := by
  have h := sameWords_any A A' n c n c' W W w h h hv hw hn hn
  rw [show decide (W = W) = true by simp] at h
  exact h
theorem run_strG (w : World) (g n c : Nat) (f : Nat → Int) (o : Nat) (hc : ∀ i, i < n → w.cell? ⟨g, i, none⟩ = some (.int .u8 (f (o + i)))) : (convert 50 9 (.slice (some ⟨g, 0, none⟩) n c)).run Try.prog w = .ok (.string (strF f o n)) w := by
  unfold strF
  refine run_convert_bytes_arg w 50 5 und50 und5 g 0 n c ((List.range n).map fun i => f (o + i)) (by simp) (fun i hi => ?_) 9 und9
  rw [Nat.zero_add, hc i hi, List.getD_eq_getElem?_getD, List.getElem?_map, List.getElem?_range hi]
  rfl

set_option maxRecDepth 100000 in
set_option maxHeartbeats 4000000 in
theorem memMay_yes (A : Option Addr) (n cap : Nat) (L : List Reg) (w : World) (h : RegsIn w A n cap L) (h1 : longB L = false) (h3 : mayL L = true) :
    Calls Try.prog 6 #[.slice A n cap] w (Yes w) := by
  have k1 := Lib.hid fun W hb => long_any' h (W := W) hb h1
  have k2 := Lib.hid fun W hb => may_any' h (W := W) hb h3
  have k3 := Lib.hid fun W hb => new_any' h (W := W) hb h3
  have k4 := Lib.hid fun W (hb : Below w.heap.size w W) => may_call A n cap L W ((h.hr.below hb).more hb.size) h.hc h.hcm
  rw [h3] at k4
  have hn : n ≤ 16 := by rw [← h.hr.1]; exact mayL_len h3
  have k5 := Lib.hid fun W (hb : Below w.heap.size w W) => refNew_any A n cap L W ((h.hr.below hb).more hb.size) hn
  have hr' := Lib.hid h.hr
  have hm' := Lib.hid (mayL_mem h3)
  have hb' := Lib.hid (Below.refl w.heap.size w)
  clear h1 h3 h
  go_enter Try.func6, Try.ntmps6
  go_wp2_with fail
  refine (k1.out _ hb'.out).mono ?_
  rintro e w1 ⟨rfl, b1⟩
  have hb' := Lib.hid (Below.next hb'.out b1)
  clear b1
  go_wp2_with fail
  refine (k3.out _ hb'.out).mono ?_
  rintro e w2 ⟨p, q, A1, cap1, rfl, hM, u1, u2, u3, u4, b1⟩
  have hb' := Lib.hid (Below.next hb'.out b1)
  have hM' := Lib.hid hM
  clear b1 hM u3 u4
  go_wp2_with fail
  refine (k4.out _ hb'.out).mono ?_
  rintro e w3 ⟨rfl, b1⟩
  have hb' := Lib.hid (Below.next hb'.out b1)
  have hM' := Lib.hid (hM'.out.below b1)
  clear b1
  go_wp2_with fail
  refine (k2.out _ hb'.out).mono ?_
  rintro e w4 ⟨rfl, b1⟩
  have hb' := Lib.hid (Below.next hb'.out b1)
  have hM' := Lib.hid (hM'.out.below b1)
  clear b1
  go_wp2_with fail
  refine (k2.out _ hb'.out).mono ?_
  rintro e w5 ⟨rfl, b1⟩
  have hb' := Lib.hid (Below.next hb'.out b1)
  have hM' := Lib.hid (hM'.out.below b1)
  clear b1
  go_wp2_with fail
  refine (k5.out _ hb'.out).mono ?_
  rintro e wS ⟨p', q', A3, cap3, rfl, hR, v1, v2, v3, v4, b1⟩
  have hb' := Lib.hid (Below.next hb'.out b1)
  have hM' := Lib.hid (hM'.out.below b1)
  have hR' := Lib.hid hR
  clear b1 hR v3 v4 k1 k2 k3 k4 k5
  obtain ⟨z0, hz0⟩ : ∃ z0, z0 = (fun _ : Nat => (0 : Int)) := ⟨_, rfl⟩
  rw [← hz0] at hM' hR'
  have hin := Lib.hid (show Inside L z0 by rw [hz0]; exact inside_zero L)
  clear hz0
  have hcv1 : ∀ W, W.heap[q']? = some (.cells (bytes z0) 5 (0, 0)) → (convert 50 9 (.slice (some ⟨q', 49152, none⟩) 16384 16384)).run Try.prog W = .ok (.string (strF z0 49152 16384)) W := fun W hq => run_strF W q' 49152 16384 16384 z0 hq (by omega)
  have hcv2 := Lib.hid fun W g c (hc : ∀ i, i < 16384 → W.cell? ⟨g, i, none⟩ = some (.int .u8 (z0 (49152 + i)))) => run_strG W g 16384 c z0 49152 hc
  generalize strF z0 49152 16384 = s at hcv1 hcv2
  have hS := Lib.hid ((Below.refl wS.heap.size wS).drew)
  have hbS := hb'
  have hnm : n ≤ 9223372036854775807 := by omega
  have hcell := hR'.out.c1
  have hheap := hR'.out.hq
  go_wp2
  go_region_held_law (fun W => W.cell? ⟨p', 1, none⟩ = some (.slice (some ⟨q', 0, none⟩) 65536 65536) ∧ W.heap[q']? = some (.cells (bytes z0) 5 (0, 0)))
    (exact ⟨(hR'.out.below hS.out).c1, (hR'.out.below hS.out).hq⟩) (first
    | (go_at_call 15; refine (num_any _ _).mono ?_; rintro e wA ⟨rfl, rfl⟩)
    | (go_at_call 25; refine (layout_any _ (hM'.out.below hS.out) u1).mono ?_; rintro e wA ⟨AL, cL, rfl, l1, l2, hRL, b1⟩; have hS := Lib.hid (Below.next hS.out b1); have hRL := Lib.hid hRL; clear b1)
    | (go_at_call 24; refine (sameRegions_refl _ hRL.out ((hr'.out.below (Below.next hbS.out hS.out)).more (Below.next hbS.out hS.out).size) hnm).mono ?_; rintro e wA ⟨rfl, b1⟩; have hS := Lib.hid (Below.next hS.out b1); clear b1)
    | (go_at_call 27; refine (words_any _ (hM'.out.below hS.out) u1 hm'.out).mono ?_; rintro e wA ⟨AW, cW, rfl, l3, l4, hW1, hWl, b1⟩; have hS := Lib.hid (Below.next hS.out b1); have hW1 := Lib.hid hW1.wsAt; clear b1)
    | (go_at_call 28; refine (refWords_any _ (hR'.out.below hS.out) hm'.out).mono ?_; rintro e wA ⟨AX, cX, rfl, l5, l6, hW2, hWl2, b1⟩; have hS := Lib.hid (Below.next hS.out b1); have hW1 := Lib.hid (hW1.out.below b1); have hW2 := Lib.hid hW2.wsAt; clear b1)
    | (go_at_call 26; refine (sameWords_refl _ hWl hW1.out hW2.out hnm).mono ?_; rintro e wA ⟨rfl, b1⟩; have hS := Lib.hid (Below.next hS.out b1); clear b1)
    | (go_at_call 29; refine (stack_any _ (hM'.out.below hS.out)).mono ?_; rintro e wA ⟨g, cg, rfl, hg, b1⟩; have hS := Lib.hid (Below.next hS.out b1); have hcv3 := hcv2.out _ g cg hg; clear b1 hg)
    | (go_at_call 30; refine (once_any 0 _ (hM'.out.below hS.out) (hR'.out.below hS.out) u1 hm'.out hin.out).mono ?_; rintro e wA ⟨rfl, b1⟩; have hS := Lib.hid (Below.next hS.out b1); clear b1)
    | (go_at_call 13; refine (known_any _).mono ?_; rintro e wA ⟨rfl, b1⟩; have hS := Lib.hid (Below.next hS.out b1); clear b1))
  all_goals
    go_wp2
    go_ret
    exact ⟨rfl, Below.next hbS.out hS.out⟩

set_option maxRecDepth 100000 in
set_option maxHeartbeats 1000000 in
theorem memMay_long (A : Option Addr) (n cap : Nat) (L : List Reg) (w : World) (h : RegsIn w A n cap L) (h1 : longB L = true) : Calls Try.prog 6 #[.slice A n cap] w (Yes w) := by
  have k1 := Lib.hid fun W hb => long_any' h (W := W) hb h1
  have hb' := Lib.hid (Below.refl w.heap.size w)
  clear h1 h
  go_enter Try.func6, Try.ntmps6
  go_wp2_with fail
  refine (k1.out _ hb'.out).mono ?_
  rintro e w1 ⟨rfl, b1⟩
  have hb' := Lib.hid (Below.next hb'.out b1)
  clear b1
  go_wp2_with fail
  refine (known_any _).mono ?_
  rintro e w2 ⟨rfl, b1⟩
  have hb' := Lib.hid (Below.next hb'.out b1)
  clear b1
  go_wp2
  go_ret
  exact ⟨rfl, hb'.out⟩

set_option maxRecDepth 100000 in
set_option maxHeartbeats 1000000 in
theorem memMay_no (A : Option Addr) (n cap : Nat) (L : List Reg) (w : World) (h : RegsIn w A n cap L) (h1 : longB L = false) (h3 : mayL L = false) : Calls Try.prog 6 #[.slice A n cap] w (Yes w) := by
  have k1 := Lib.hid fun W hb => long_any' h (W := W) hb h1
  have k2 := Lib.hid fun W hb => may_any' h (W := W) hb h3
  have k3 := Lib.hid fun W (hb : Below w.heap.size w W) => new_no A n cap L W ((h.hr.below hb).more hb.size) h.hc h.hcm h3
  have k4 := Lib.hid fun W (hb : Below w.heap.size w W) => may_call A n cap L W ((h.hr.below hb).more hb.size) h.hc h.hcm
  rw [h3] at k4
  have hnil : ∀ w, (binOp .eql 25 (.pointer none) (.pointer none)).run Try.prog w = .ok (.bool true) w := fun w => by kernel_rfl
  have hb' := Lib.hid (Below.refl w.heap.size w)
  clear h1 h3 h
  go_enter Try.func6, Try.ntmps6
  go_wp2_with fail
  refine (k1.out _ hb'.out).mono ?_
  rintro e w1 ⟨rfl, b1⟩
  have hb' := Lib.hid (Below.next hb'.out b1)
  clear b1
  go_wp2_with fail
  refine (k3.out _ hb'.out).mono ?_
  rintro e w2 ⟨rfl, b1⟩
  have hb' := Lib.hid (Below.next hb'.out b1)
  clear b1
  go_wp2_with fail
  refine (k4.out _ hb'.out).mono ?_
  rintro e w3 ⟨rfl, b1⟩
  have hb' := Lib.hid (Below.next hb'.out b1)
  clear b1
  go_wp2_with fail
  refine (k2.out _ hb'.out).mono ?_
  rintro e w4 ⟨rfl, b1⟩
  have hb' := Lib.hid (Below.next hb'.out b1)
  clear b1
  go_wp2_with fail
  refine (k2.out _ hb'.out).mono ?_
  rintro e w5 ⟨rfl, b1⟩
  have hb' := Lib.hid (Below.next hb'.out b1)
  clear b1
  go_wp2_with fail
  refine (num_any _ _).mono ?_
  rintro e w6 ⟨rfl, rfl⟩
  go_wp2_with fail
  refine (known_any _).mono ?_
  rintro e w7 ⟨rfl, b1⟩
  have hb' := Lib.hid (Below.next hb'.out b1)
  clear b1
  go_wp2
  go_ret
  exact ⟨rfl, hb'.out⟩

theorem memMay_any (A : Option Addr) (n cap : Nat) (L : List Reg) (w : World) (h : RegsIn w A n cap L) : Calls Try.prog 6 #[.slice A n cap] w (Yes w) := by
  cases h1 : longB L
  · cases h3 : mayL L
    · exact memMay_no A n cap L w h h1 h3
    · exact memMay_yes A n cap L w h h1 h3
  · exact memMay_long A n cap L w h h1
end Go.Proofs.Ytageahpgcjnkpaa
