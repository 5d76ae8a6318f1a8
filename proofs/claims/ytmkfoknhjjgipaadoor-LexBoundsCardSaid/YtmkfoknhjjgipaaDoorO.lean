/- The chapter's rows. -/
import Derived.Test.YtmkfoknhjjgipaaDoorN
set_option linter.unusedSimpArgs false
set_option linter.unusedVariables false
namespace Go.Proofs.YtmkfoknhjjgipaaDoor
open Go.RowKit Go.Lib Go.Shelf

def tB (l : List UInt8) : ByteArray := ⟨l.toArray⟩
theorem k_a : allM ⟨#[97, 32, 35, 32, 98, 10, 99]⟩ = ([⟨0, ⟨1, [97], 0⟩, 1, 1⟩, ⟨6, ⟨1, [99], 0⟩, 2, 1⟩], 0, 0, 0) := by decide +kernel
theorem k_n : numI ⟨#[49, 56, 52, 52, 54, 55, 52, 52, 48, 55, 51, 55, 48, 57, 53, 53, 49, 54, 49, 54]⟩ = none := by decide +kernel
theorem k_x1 : allM ⟨#[120, 49, 32, 61, 32, 48, 55]⟩ = ([], 15, 1, 6) := by decide +kernel
theorem k_xs : (allM ⟨#[120, 60, 60, 60, 61]⟩).2 = (0, 0, 0) ∧ plainT ((allM ⟨#[120, 60, 60, 60, 61]⟩).1.map fun t => mkB t.x.t) = ⟨#[120, 32, 60, 60, 60, 32, 61]⟩ ∧ (allM ⟨#[120, 60, 60, 60, 61]⟩).1.length = 3 := by decide +kernel
theorem k_d : allM ⟨#[36]⟩ = ([], 15, 1, 1) := by decide +kernel
theorem k_l : allM ⟨#[97, 98, 99, 100, 101, 102, 103, 104, 105, 106, 107, 108, 109, 110, 111, 112, 113]⟩ = ([], 8, 1, 1) := by decide +kernel
theorem k_f : nameB ⟨#[102, 111, 114]⟩ = false := by decide +kernel
theorem k_x : nameB ⟨#[120, 95, 49]⟩ = true := by decide +kernel
theorem k_1 : nameB ⟨#[49, 120]⟩ = false := by decide +kernel
def OkPost (w : World) (e : Ending) (w' : World) : Prop := e = .returned (.bool true) ∧ Below w.heap.size w w'
set_option maxRecDepth 100000 in
set_option maxHeartbeats 4000000 in
theorem fault_ok (s : ByteArray) (er : Int) (l c : Nat) (w : World) (hE : Env w) (hs : s.size ≤ 2000000) (h : allM s = ([], er, l, c)) : Calls Tryd.prog 10 #[.string s, .int .i64 er, .int .i64 l, .int .i64 c] w (OkPost w) := by
  have ha := Lib.hid (all_any s w hE hs)
  have hnum := Lib.hid (num_any er)
  clear hE
  have hh := Lib.hid h
  clear h
  go_enter Tryd.func10, Tryd.ntmps10
  go_wp2_with fail
  refine ha.out.mono ?_
  rintro e w1 ⟨v, rfl, hv, hb⟩
  rw [hh.out] at hv ⊢
  obtain ⟨A, cp, rfl, _, _, _⟩ := tpsAt_form hv
  unfold fltV
  have hbh := Lib.hid hb
  clear hb hv
  go_wp2_with (go_at_call 11; refine (hnum.out _).mono ?_; rintro e w2 ⟨rfl, rfl⟩)
  go_ret
  exact ⟨rfl, hbh.out.alloc hbh.out.size _⟩
set_option maxRecDepth 100000 in
set_option maxHeartbeats 4000000 in
theorem texts_ok (s t : ByteArray) (w : World) (hE : Env w) (hs : s.size ≤ 2000000) (h : (allM s).2 = (0, 0, 0)) (hp : plainT ((allM s).1.map fun t => mkB t.x.t) = t) (hlen : (allM s).1.length ≤ 1000) (hl2 : (Lib.join ((allM s).1.map fun t => t.x.t) [32]).length ≤ 140737488355328) :
    Calls Tryd.prog 12 #[.string s, .string t] w (OkPost w) := by
  have ha := Lib.hid (all_any s w hE hs)
  clear hE
  have hz : ∀ W, (binOp .eql 30 (.agg #[.int .i64 0, .int .i64 0, .int .i64 0]) (.agg #[.int .i64 0, .int .i64 0, .int .i64 0])).run Tryd.prog W = .ok (.bool true) W := fun W => by kernel_rfl
  have hh := Lib.hid h
  have hph := Lib.hid hp
  have hl2h := Lib.hid hl2
  clear h hp hl2
  go_enter Tryd.func12, Tryd.ntmps12
  go_wp2_with fail
  refine ha.out.mono ?_
  rintro e w1 ⟨v, rfl, hv, hb⟩
  rw [hh.out]
  obtain ⟨A, cp, rfl, _, hT, _⟩ := tpsAt_form hv
  unfold fltV
  have hpl := plain_any A cp _ (w1.alloc (.cells #[.int .i64 0, .int .i64 0, .int .i64 0] 30)) (hT.below ((Below.refl _ w1).alloc (Nat.le_refl _) _)) (by rw [List.length_map]; omega) (by
    rw [List.map_map]
    have e : ((fun x => x.t.data.toList) ∘ Tp.ta) = fun t : Tp => t.x.t := by funext t; exact mkB_list _
    rw [e]; exact hl2h.out)
  rw [List.length_map, List.map_map] at hpl
  have e : (Ta.t ∘ Tp.ta) = fun t : Tp => mkB t.x.t := rfl
  rw [e, hph.out] at hpl
  have hpl := Lib.hid hpl
  have hbh := Lib.hid hb
  clear hb hv hT
  go_wp2_with fail
  refine hpl.out.mono ?_
  rintro e w2 ⟨rfl, hb2⟩
  have hb2h := Lib.hid (Below.next (hbh.out.alloc hbh.out.size _) hb2)
  clear hb2
  go_wp2
  go_ret
  exact ⟨rfl, hb2h.out⟩
def knownL : List Ta := [⟨1, ⟨#[97]⟩, 0, 1, 1⟩, ⟨1, ⟨#[99]⟩, 0, 2, 1⟩]
theorem known_all (w : World) (hE : Env w) : Calls Tryd.prog 8 #[.string ⟨#[97, 32, 35, 32, 98, 10, 99]⟩] w fun e w' => ∃ A cp, e = .returned (.tuple #[.slice A 2 cp, .agg #[.int .i64 0, .int .i64 0, .int .i64 0]]) ∧ TaAt w' A knownL ∧ Below w.heap.size w w' := by
  refine (all_any ⟨#[97, 32, 35, 32, 98, 10, 99]⟩ w hE (by decide)).mono ?_
  rintro e w1 ⟨v, rfl, hv, hb1⟩
  rw [k_a] at hv ⊢
  obtain ⟨A, cp, rfl, _, hT, _⟩ := tpsAt_form hv
  exact ⟨A, cp, rfl, hT, hb1⟩
set_option maxRecDepth 100000 in
set_option maxHeartbeats 8000000 in
theorem known_any (w : World) (hE : Env w) : Calls Tryd.prog 5 #[] w (OkPost w) := by
  have hEh := Lib.hid hE
  have ha := Lib.hid (known_all w hE)
  clear hE
  go_enter Tryd.func5, Tryd.ntmps5
  go_wp2_with fail
  refine ha.out.mono ?_
  rintro e w1 ⟨A, cp, rfl, hT, hb1⟩
  obtain ⟨W1, hW1⟩ : ∃ W1, w1.alloc (.cells #[.int .i64 0, .int .i64 0, .int .i64 0] 30) = W1 := ⟨_, rfl⟩
  obtain ⟨fb, hfb⟩ : ∃ fb, w1.heap.size = fb := ⟨_, rfl⟩
  have hB1 : Below w.heap.size w W1 := by rw [← hW1]; exact hb1.alloc hb1.size _
  have hF1 : W1.heap[fb]? = some (.cells #[.int .i64 0, .int .i64 0, .int .i64 0] 30 (0, 0)) := by rw [← hW1, ← hfb]; exact heap_alloc_new _ _
  have hT1 : TaAt W1 A knownL := by rw [← hW1]; exact hT.below ((Below.refl _ w1).alloc (Nat.le_refl _) _)
  have hnu := Lib.hid (number_any ⟨#[49, 56, 52, 52, 54, 55, 52, 52, 48, 55, 51, 55, 48, 57, 53, 53, 49, 54, 49, 54]⟩ W1 (hEh.out.below hB1) (by decide))
  have hW1h := Lib.hid hW1
  have hfbh := Lib.hid hfb
  have hB1h := Lib.hid hB1
  have hF1h := Lib.hid hF1
  have hT1h := Lib.hid hT1
  clear hT hb1 hW1 hB1 hF1 hT1 hfb
  go_wp2_with fail
  rw [hW1h.out, hfbh.out]
  refine hnu.out.mono ?_
  rintro e w2 ⟨hno, _, hb2⟩
  obtain rfl := hno k_n
  have hB2h := Lib.hid (Below.next hB1h.out hb2)
  have hF2h := Lib.hid ((hb2.block fb (blk_lt hF1h.out)).trans hF1h.out)
  have hT2h := Lib.hid (hT1h.out.below hb2)
  have hf3 := Lib.hid (fault_ok ⟨#[120, 49, 32, 61, 32, 48, 55]⟩ 15 1 6 w2 (hEh.out.below hB2h.out) (by decide) k_x1)
  clear hno hb2
  go_wp2_with fail
  refine hf3.out.mono ?_
  rintro e w3 ⟨rfl, hb3⟩
  have hB3h := Lib.hid (Below.next hB2h.out hb3)
  have hF3h := Lib.hid ((hb3.block fb (blk_lt hF2h.out)).trans hF2h.out)
  have hT3h := Lib.hid (hT2h.out.below hb3)
  have hx4 := Lib.hid (texts_ok ⟨#[120, 60, 60, 60, 61]⟩ ⟨#[120, 32, 60, 60, 60, 32, 61]⟩ w3 (hEh.out.below hB3h.out) (by decide) k_xs.1 k_xs.2.1 (by rw [k_xs.2.2]; decide) (by decide +kernel))
  clear hb3
  go_wp2_with fail
  refine hx4.out.mono ?_
  rintro e w4 ⟨rfl, hb4⟩
  have hB4h := Lib.hid (Below.next hB3h.out hb4)
  have hF4 := ((hb4.block fb (blk_lt hF3h.out)).trans hF3h.out)
  have hT4 := (hT3h.out.below hb4)
  obtain ⟨x0, x1, x2, xf⟩ := box3 hF4
  obtain ⟨b0, o0, rfl, hcs⟩ := hT4 (by decide)
  obtain ⟨y0, y1, y2, y3, y4⟩ := hcs 0 _ rfl
  obtain ⟨z0, z1, z2, z3, z4⟩ := hcs 1 _ rfl
  simp at y0 y1 y2 y3 y4 z0 z1 z2 z3 z4
  have ha48 : ∀ W, (binOp .eql 41 (.agg #[.int .i64 1, .string ⟨#[97]⟩, .int .u64 0, .int .i64 1, .int .i64 1]) (.agg #[.int .i64 1, .string ⟨#[97]⟩, .int .u64 0, .int .i64 1, .int .i64 1])).run Tryd.prog W = .ok (.bool true) W := fun W => by kernel_rfl
  have hc48 : ∀ W, (binOp .eql 41 (.agg #[.int .i64 1, .string ⟨#[99]⟩, .int .u64 0, .int .i64 2, .int .i64 1]) (.agg #[.int .i64 1, .string ⟨#[99]⟩, .int .u64 0, .int .i64 2, .int .i64 1])).run Tryd.prog W = .ok (.bool true) W := fun W => by kernel_rfl
  have hz : ∀ W, (binOp .eql 30 (.agg #[.int .i64 0, .int .i64 0, .int .i64 0]) (.agg #[.int .i64 0, .int .i64 0, .int .i64 0])).run Tryd.prog W = .ok (.bool true) W := fun W => by kernel_rfl
  have hf5 := Lib.hid (fault_ok ⟨#[36]⟩ 15 1 1 w4 (hEh.out.below hB4h.out) (by decide) k_d)
  clear hb4 hF4 hT4 hcs
  go_wp2_with fail
  refine hf5.out.mono ?_
  rintro e w5 ⟨rfl, hb5⟩
  have hB5h := Lib.hid (Below.next hB4h.out hb5)
  have hf6 := Lib.hid (fault_ok ⟨#[97, 98, 99, 100, 101, 102, 103, 104, 105, 106, 107, 108, 109, 110, 111, 112, 113]⟩ 8 1 1 w5 (hEh.out.below hB5h.out) (by decide) k_l)
  clear hb5 y0 y1 y2 y3 y4 z0 z1 z2 z3 z4 x0 x1 x2 xf
  go_wp2_with fail
  refine hf6.out.mono ?_
  rintro e w6 ⟨rfl, hb6⟩
  have hB6h := Lib.hid (Below.next hB5h.out hb6)
  have n1 := name_any ⟨#[102, 111, 114]⟩ w6 (by decide)
  rw [k_f] at n1
  have n1h := Lib.hid n1
  clear hb6 n1
  go_wp2_with fail
  refine n1h.out.mono ?_
  rintro e w7 ⟨rfl, hb7⟩
  have hB7h := Lib.hid (Below.next hB6h.out hb7)
  have n2 := name_any ⟨#[120, 95, 49]⟩ w7 (by decide)
  rw [k_x] at n2
  have n2h := Lib.hid n2
  clear hb7 n2
  go_wp2_with fail
  refine n2h.out.mono ?_
  rintro e w8 ⟨rfl, hb8⟩
  have hB8h := Lib.hid (Below.next hB7h.out hb8)
  have n3 := name_any ⟨#[49, 120]⟩ w8 (by decide)
  rw [k_1] at n3
  have n3h := Lib.hid n3
  clear hb8 n3
  go_wp2_with fail
  refine n3h.out.mono ?_
  rintro e w9 ⟨rfl, hb9⟩
  have hB9h := Lib.hid (Below.next hB8h.out hb9)
  clear hb9
  have hnum := Lib.hid (num_any 15)
  go_wp2_with fail
  refine (hnum.out _).mono ?_
  rintro e w10 ⟨rfl, rfl⟩
  go_wp2
  go_ret
  exact ⟨rfl, hB9h.out⟩
end Go.Proofs.YtmkfoknhjjgipaaDoor
