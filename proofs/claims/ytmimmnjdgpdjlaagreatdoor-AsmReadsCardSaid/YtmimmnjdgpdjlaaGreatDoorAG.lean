/- The reference's line of an instruction. -/
import Derived.Test.YtmimmnjdgpdjlaaGreatDoorZ3
import Derived.Deep.RegionHeldLaw
set_option linter.unusedSimpArgs false
set_option linter.unusedVariables false
namespace Go.Proofs.YtmimmnjdgpdjlaaGreatDoor
open Go.RowKit Go.Lib Go.Shelf

theorem wpAnyH_more {P : Program} {md : Region.Mode} {ops : Array Oper} {Q : Exit → Act → World → Prop} {S S' : World → Prop} (h : ∀ w, S' w → S w) : ∀ (fuel : Nat) (listed : Array Bool) (a : Act) (w : World), wpAnyH P md ops Q S' fuel listed a w → wpAnyH P md ops Q S fuel listed a w
  | 0, _, _, _, hh => hh
  | fuel + 1, _, _, _, hh => ⟨hh.1, fun i hi => wpOp_mono (fun a' w' h' => ⟨h _ h'.1, wpAnyH_more h fuel _ a' w' h'.2⟩) (hh.2 i hi)⟩
theorem keepc {w w' : World} {b o : Nat} {v : Value} (hb : Below w.heap.size w w') (h : w.cell? ⟨b, o, none⟩ = some v) : w'.cell? ⟨b, o, none⟩ = some v := (hb.cell (p := ⟨b, o, none⟩) (cell_some_lt h)).trans h
theorem itoa51 (lb : Int) (h : 0 ≤ lb ∧ lb ≤ 1048576) (w : World) (hE : Env w) : Calls Tryz.prog 51 #[.int .i64 lb] w fun e w' => e = .returned (.string (bt (Lib.itoa lb))) ∧ Below w.heap.size w w' :=
  (show Calls Tryz.prog 51 #[.int .i64 lb] w fun e w' => e = .returned (.string (bt (Lib.itoa lb))) ∧ ∃ k os, w' = Go.Sort.grow (w.drewN k) os from Tryz.strconv_Itoa lb (by omega) (by omega) w hE.tab).mono fun e w' ⟨he, k, os, hw⟩ => ⟨he, by rw [hw]; exact below_grown⟩
theorem itoa_sz (lb : Int) (h : 0 ≤ lb ∧ lb ≤ 1048576) : (bt (Lib.itoa lb)).size ≤ 30 := by rw [bt_size]; have := itoa_len lb (by omega) (by omega); omega
theorem immT_sz (n : Nat) (h : n < 18446744073709551616) : (bt (immT n)).size ≤ 30 := by rw [bt_size]; have := immT_le n h; omega
theorem dec_sz (n : Nat) (h : n < 18446744073709551616) : (bt (Lib.decDigits n)).size ≤ 30 := by rw [bt_size]; have := dec_len n h; omega
theorem addrS_sz (ba ix : Int) (hb hi : Bool) (dp : Int) (h0 : -9223372036854775808 ≤ dp) (h1 : dp ≤ 9223372036854775807) : (bt (addrS ba ix hb hi dp)).size ≤ 60 := by
  rw [bt_size]
  unfold addrS
  split
  · exact addrT_le _ _ _ _ _ h0 h1
  · simp
theorem binR_le (k : Int) : (atW binR k).length ≤ 10 := atW_le (by decide) k
theorem shfR_le (k : Int) : (atW shfR k).length ≤ 10 := atW_le (by decide) k
set_option maxRecDepth 100000 in
set_option maxHeartbeats 8000000 in
theorem rl1_any (bn sh cd ds sr : Int) (im : Nat) (ba ix : Int) (hb hi : Bool) (dp lb : Int) (hsr : 0 ≤ sr ∧ sr ≤ 15) (hds : 0 ≤ ds ∧ ds ≤ 15) (hlb : 0 ≤ lb ∧ lb ≤ 1048576) (w : World) (hE : Env w) : Calls Tryz.prog 25 #[inV ⟨1, bn, sh, cd, ds, sr, im, ba, ix, hb, hi, dp, lb⟩] w (StrPost (bt (109 :: 111 :: 118 :: 113 :: 32 :: (regT sr ++ (44 :: 32 :: regT ds)))) w) := by
  obtain ⟨W1, hW1⟩ : ∃ W1, w.alloc (.cells #[.int .i64 1, .int .i64 bn, .int .i64 sh, .int .i64 cd, .int .i64 ds, .int .i64 sr, .int .u64 (im : Int), .int .i64 ba, .int .i64 ix, .bool hb, .bool hi, .int .i64 dp, .int .i64 lb] 32) = W1 := ⟨_, rfl⟩
  have hb1 : Below w.heap.size w W1 := by rw [← hW1]; exact below_new w _
  have hx1 : W1.heap[w.heap.size]? = some (.cells #[.int .i64 1, .int .i64 bn, .int .i64 sh, .int .i64 cd, .int .i64 ds, .int .i64 sr, .int .u64 (im : Int), .int .i64 ba, .int .i64 ix, .bool hb, .bool hi, .int .i64 dp, .int .i64 lb] 32 (0, 0)) := by rw [← hW1]; exact heap_alloc_new _ _
  have hE1 := hE.below hb1
  have hit := itoa51 lb hlb W1 hE1
  have lL := itoa_sz lb hlb
  obtain ⟨xl, hxl⟩ : ∃ s, bt (Lib.itoa lb) = s := ⟨_, rfl⟩
  rw [hxl] at hit lL
  have hXL := Lib.hid (show xl.data.toList = Lib.itoa lb from by rw [← hxl]; rfl)
  clear hxl
  have hr0 := Lib.hid (fun (W : World) (hE : Env W) => rreg47_any sr hsr W)
  have l0 := regT_len sr
  unfold StrPost at hr0
  obtain ⟨x0, hx0'⟩ : ∃ s, bt (regT sr) = s := ⟨_, rfl⟩
  rw [hx0'] at hr0 l0
  have hX0 := Lib.hid (show x0.data.toList = regT sr from by rw [← hx0']; rfl)
  clear hx0'
  have hr1 := Lib.hid (fun (W : World) (hE : Env W) => rreg47_any ds hds W)
  have l1 := regT_len ds
  unfold StrPost at hr1
  obtain ⟨x1, hx1'⟩ : ∃ s, bt (regT ds) = s := ⟨_, rfl⟩
  rw [hx1'] at hr1 l1
  have hX1 := Lib.hid (show x1.data.toList = regT ds from by rw [← hx1']; rfl)
  clear hx1'
  have hbw := Lib.hid hb1
  have hx := Lib.hid hx1
  have hE2 := Lib.hid hE1
  have hit := Lib.hid hit
  have hW1' := Lib.hid hW1
  clear hb1 hx1 hE1 hE hW1 hlb
  unfold inV inC
  obtain ⟨g0, g1, g2, g3, g4, g5, g6, g7, g8, g9, g10, g11, g12⟩ := box13 hx.out
  go_enter Tryz.func25, Tryz.ntmps25
  go_wp2_with fail
  rw [hW1'.out]
  refine hit.out.mono ?_
  rintro e w2 ⟨rfl, hb2⟩
  have hx := Lib.hid ((hb2.block _ (blk_lt hx.out)).trans hx.out)
  have hE2 := Lib.hid (hE2.out.below hb2)
  have hbw := Lib.hid (Below.next hbw.out hb2)
  clear hb2 g0 g1 g2 g3 g4 g5 g6 g7 g8 g9 g10 g11 g12
  obtain ⟨g0, g1, g2, g3, g4, g5, g6, g7, g8, g9, g10, g11, g12⟩ := box13 hx.out
  have c4 := Sub.cell g4
  have c5 := Sub.cell g5
  have s0 := Lib.hid (fun s : Sub w2 => hr0.out s.val (hE2.out.below s.property))
  have s1 := Lib.hid (fun s : Sub w2 => hr1.out s.val (hE2.out.below s.property))
  go_wp2_with fail
  refine wp_region_below (by kernel_rfl) (by kernel_rfl) ?_
  repeat (go_big_quiet_step ((first | (go_at_call 47; with_reducible exact Sub.call (s0.out _)) | (go_at_call 47; with_reducible exact Sub.call (s1.out _)))))
  refine wpQuiet_nil ?_
  rintro w4 ⟨z4, hz4⟩
  have hb4 := hz4 ▸ z4.property
  have hbw := Lib.hid (Below.next hbw.out hb4)
  clear hz4 hb4 g0 g1 g2 g3 g4 g5 g6 g7 g8 g9 g10 g11 g12 c4 c5
  go_wp2
  go_ret
  exact ⟨ret_str (by simp [bt, lblT, hXL.out, hX0.out, hX1.out]), hbw.out⟩
set_option maxRecDepth 100000 in
set_option maxHeartbeats 8000000 in
theorem rl2_any (bn sh cd ds sr : Int) (im : Nat) (ba ix : Int) (hb hi : Bool) (dp lb : Int) (him : im < 18446744073709551616) (hds : 0 ≤ ds ∧ ds ≤ 15) (hlb : 0 ≤ lb ∧ lb ≤ 1048576) (w : World) (hE : Env w) : Calls Tryz.prog 25 #[inV ⟨2, bn, sh, cd, ds, sr, im, ba, ix, hb, hi, dp, lb⟩] w (StrPost (bt (109 :: 111 :: 118 :: 97 :: 98 :: 115 :: 113 :: 32 :: 36 :: (Lib.decDigits im ++ (44 :: 32 :: regT ds)))) w) := by
  obtain ⟨W1, hW1⟩ : ∃ W1, w.alloc (.cells #[.int .i64 2, .int .i64 bn, .int .i64 sh, .int .i64 cd, .int .i64 ds, .int .i64 sr, .int .u64 (im : Int), .int .i64 ba, .int .i64 ix, .bool hb, .bool hi, .int .i64 dp, .int .i64 lb] 32) = W1 := ⟨_, rfl⟩
  have hb1 : Below w.heap.size w W1 := by rw [← hW1]; exact below_new w _
  have hx1 : W1.heap[w.heap.size]? = some (.cells #[.int .i64 2, .int .i64 bn, .int .i64 sh, .int .i64 cd, .int .i64 ds, .int .i64 sr, .int .u64 (im : Int), .int .i64 ba, .int .i64 ix, .bool hb, .bool hi, .int .i64 dp, .int .i64 lb] 32 (0, 0)) := by rw [← hW1]; exact heap_alloc_new _ _
  have hE1 := hE.below hb1
  have hit := itoa51 lb hlb W1 hE1
  have lL := itoa_sz lb hlb
  obtain ⟨xl, hxl⟩ : ∃ s, bt (Lib.itoa lb) = s := ⟨_, rfl⟩
  rw [hxl] at hit lL
  have hXL := Lib.hid (show xl.data.toList = Lib.itoa lb from by rw [← hxl]; rfl)
  clear hxl
  have hr0 := Lib.hid (fun (W : World) (hE : Env W) => fmtD im him W hE)
  have l0 := dec_sz im him
  unfold StrPost at hr0
  obtain ⟨x0, hx0'⟩ : ∃ s, bt (Lib.decDigits im) = s := ⟨_, rfl⟩
  rw [hx0'] at hr0 l0
  have hX0 := Lib.hid (show x0.data.toList = Lib.decDigits im from by rw [← hx0']; rfl)
  clear hx0'
  have hr1 := Lib.hid (fun (W : World) (hE : Env W) => rreg47_any ds hds W)
  have l1 := regT_len ds
  unfold StrPost at hr1
  obtain ⟨x1, hx1'⟩ : ∃ s, bt (regT ds) = s := ⟨_, rfl⟩
  rw [hx1'] at hr1 l1
  have hX1 := Lib.hid (show x1.data.toList = regT ds from by rw [← hx1']; rfl)
  clear hx1'
  have hbw := Lib.hid hb1
  have hx := Lib.hid hx1
  have hE2 := Lib.hid hE1
  have hit := Lib.hid hit
  have hW1' := Lib.hid hW1
  clear hb1 hx1 hE1 hE hW1 hlb
  unfold inV inC
  obtain ⟨g0, g1, g2, g3, g4, g5, g6, g7, g8, g9, g10, g11, g12⟩ := box13 hx.out
  go_enter Tryz.func25, Tryz.ntmps25
  go_wp2_with fail
  rw [hW1'.out]
  refine hit.out.mono ?_
  rintro e w2 ⟨rfl, hb2⟩
  have hx := Lib.hid ((hb2.block _ (blk_lt hx.out)).trans hx.out)
  have hE2 := Lib.hid (hE2.out.below hb2)
  have hbw := Lib.hid (Below.next hbw.out hb2)
  clear hb2 g0 g1 g2 g3 g4 g5 g6 g7 g8 g9 g10 g11 g12
  obtain ⟨g0, g1, g2, g3, g4, g5, g6, g7, g8, g9, g10, g11, g12⟩ := box13 hx.out
  have c4 := Sub.cell g4
  have c6 := Sub.cell g6
  have s0 := Lib.hid (fun s : Sub w2 => hr0.out s.val (hE2.out.below s.property))
  have s1 := Lib.hid (fun s : Sub w2 => hr1.out s.val (hE2.out.below s.property))
  go_wp2_with fail
  refine wp_region_below (by kernel_rfl) (by kernel_rfl) ?_
  repeat (go_big_quiet_step ((first | (go_at_call 52; with_reducible exact Sub.call (s0.out _)) | (go_at_call 47; with_reducible exact Sub.call (s1.out _)))))
  refine wpQuiet_nil ?_
  rintro w4 ⟨z4, hz4⟩
  have hb4 := hz4 ▸ z4.property
  have hbw := Lib.hid (Below.next hbw.out hb4)
  clear hz4 hb4 g0 g1 g2 g3 g4 g5 g6 g7 g8 g9 g10 g11 g12 c4 c6
  go_wp2
  go_ret
  exact ⟨ret_str (by simp [bt, lblT, hXL.out, hX0.out, hX1.out]), hbw.out⟩
set_option maxRecDepth 100000 in
set_option maxHeartbeats 8000000 in
theorem rl3_any (bn sh cd ds sr : Int) (im : Nat) (ba ix : Int) (hb hi : Bool) (dp lb : Int) (hd0 : -9223372036854775808 ≤ dp) (hd1 : dp ≤ 9223372036854775807) (hds : 0 ≤ ds ∧ ds ≤ 15) (hlb : 0 ≤ lb ∧ lb ≤ 1048576) (w : World) (hE : Env w) : Calls Tryz.prog 25 #[inV ⟨3, bn, sh, cd, ds, sr, im, ba, ix, hb, hi, dp, lb⟩] w (StrPost (bt (109 :: 111 :: 118 :: 113 :: 32 :: (addrS ba ix hb hi dp ++ (44 :: 32 :: regT ds)))) w) := by
  obtain ⟨W1, hW1⟩ : ∃ W1, w.alloc (.cells #[.int .i64 3, .int .i64 bn, .int .i64 sh, .int .i64 cd, .int .i64 ds, .int .i64 sr, .int .u64 (im : Int), .int .i64 ba, .int .i64 ix, .bool hb, .bool hi, .int .i64 dp, .int .i64 lb] 32) = W1 := ⟨_, rfl⟩
  have hb1 : Below w.heap.size w W1 := by rw [← hW1]; exact below_new w _
  have hx1 : W1.heap[w.heap.size]? = some (.cells #[.int .i64 3, .int .i64 bn, .int .i64 sh, .int .i64 cd, .int .i64 ds, .int .i64 sr, .int .u64 (im : Int), .int .i64 ba, .int .i64 ix, .bool hb, .bool hi, .int .i64 dp, .int .i64 lb] 32 (0, 0)) := by rw [← hW1]; exact heap_alloc_new _ _
  have hE1 := hE.below hb1
  have hit := itoa51 lb hlb W1 hE1
  have lL := itoa_sz lb hlb
  obtain ⟨xl, hxl⟩ : ∃ s, bt (Lib.itoa lb) = s := ⟨_, rfl⟩
  rw [hxl] at hit lL
  have hXL := Lib.hid (show xl.data.toList = Lib.itoa lb from by rw [← hxl]; rfl)
  clear hxl
  have hr0 := Lib.hid (fun (W : World) (hE : Env W) => raddr23_any ba ix hb hi dp hd0 hd1 W hE)
  have l0 := addrS_sz ba ix hb hi dp hd0 hd1
  unfold StrPost at hr0
  obtain ⟨x0, hx0'⟩ : ∃ s, bt (addrS ba ix hb hi dp) = s := ⟨_, rfl⟩
  rw [hx0'] at hr0 l0
  have hX0 := Lib.hid (show x0.data.toList = addrS ba ix hb hi dp from by rw [← hx0']; rfl)
  clear hx0'
  unfold adV at hr0
  have hr1 := Lib.hid (fun (W : World) (hE : Env W) => rreg47_any ds hds W)
  have l1 := regT_len ds
  unfold StrPost at hr1
  obtain ⟨x1, hx1'⟩ : ∃ s, bt (regT ds) = s := ⟨_, rfl⟩
  rw [hx1'] at hr1 l1
  have hX1 := Lib.hid (show x1.data.toList = regT ds from by rw [← hx1']; rfl)
  clear hx1'
  have hbw := Lib.hid hb1
  have hx := Lib.hid hx1
  have hE2 := Lib.hid hE1
  have hit := Lib.hid hit
  have hW1' := Lib.hid hW1
  clear hb1 hx1 hE1 hE hW1 hlb
  unfold inV inC
  obtain ⟨g0, g1, g2, g3, g4, g5, g6, g7, g8, g9, g10, g11, g12⟩ := box13 hx.out
  go_enter Tryz.func25, Tryz.ntmps25
  go_wp2_with fail
  rw [hW1'.out]
  refine hit.out.mono ?_
  rintro e w2 ⟨rfl, hb2⟩
  have hx := Lib.hid ((hb2.block _ (blk_lt hx.out)).trans hx.out)
  have hE2 := Lib.hid (hE2.out.below hb2)
  have hbw := Lib.hid (Below.next hbw.out hb2)
  clear hb2 g0 g1 g2 g3 g4 g5 g6 g7 g8 g9 g10 g11 g12
  obtain ⟨g0, g1, g2, g3, g4, g5, g6, g7, g8, g9, g10, g11, g12⟩ := box13 hx.out
  have c4 := Sub.cell g4
  have c7 := Sub.cell g7
  have c8 := Sub.cell g8
  have c9 := Sub.cell g9
  have c10 := Sub.cell g10
  have c11 := Sub.cell g11
  have s0 := Lib.hid (fun s : Sub w2 => hr0.out s.val (hE2.out.below s.property))
  have s1 := Lib.hid (fun s : Sub w2 => hr1.out s.val (hE2.out.below s.property))
  go_wp2_with fail
  refine wp_region_below (by kernel_rfl) (by kernel_rfl) ?_
  repeat (go_big_quiet_step ((first | (go_at_call 23; with_reducible exact Sub.call (s0.out _)) | (go_at_call 47; with_reducible exact Sub.call (s1.out _)))))
  refine wpQuiet_nil ?_
  rintro w4 ⟨z4, hz4⟩
  have hb4 := hz4 ▸ z4.property
  have hbw := Lib.hid (Below.next hbw.out hb4)
  clear hz4 hb4 g0 g1 g2 g3 g4 g5 g6 g7 g8 g9 g10 g11 g12 c4 c7 c8 c9 c10 c11
  go_wp2
  go_ret
  exact ⟨ret_str (by simp [bt, lblT, hXL.out, hX0.out, hX1.out]), hbw.out⟩
set_option maxRecDepth 100000 in
set_option maxHeartbeats 8000000 in
theorem rl4_any (bn sh cd ds sr : Int) (im : Nat) (ba ix : Int) (hb hi : Bool) (dp lb : Int) (hsr : 0 ≤ sr ∧ sr ≤ 15) (hd0 : -9223372036854775808 ≤ dp) (hd1 : dp ≤ 9223372036854775807) (hlb : 0 ≤ lb ∧ lb ≤ 1048576) (w : World) (hE : Env w) : Calls Tryz.prog 25 #[inV ⟨4, bn, sh, cd, ds, sr, im, ba, ix, hb, hi, dp, lb⟩] w (StrPost (bt (109 :: 111 :: 118 :: 113 :: 32 :: (regT sr ++ (44 :: 32 :: addrS ba ix hb hi dp)))) w) := by
  obtain ⟨W1, hW1⟩ : ∃ W1, w.alloc (.cells #[.int .i64 4, .int .i64 bn, .int .i64 sh, .int .i64 cd, .int .i64 ds, .int .i64 sr, .int .u64 (im : Int), .int .i64 ba, .int .i64 ix, .bool hb, .bool hi, .int .i64 dp, .int .i64 lb] 32) = W1 := ⟨_, rfl⟩
  have hb1 : Below w.heap.size w W1 := by rw [← hW1]; exact below_new w _
  have hx1 : W1.heap[w.heap.size]? = some (.cells #[.int .i64 4, .int .i64 bn, .int .i64 sh, .int .i64 cd, .int .i64 ds, .int .i64 sr, .int .u64 (im : Int), .int .i64 ba, .int .i64 ix, .bool hb, .bool hi, .int .i64 dp, .int .i64 lb] 32 (0, 0)) := by rw [← hW1]; exact heap_alloc_new _ _
  have hE1 := hE.below hb1
  have hit := itoa51 lb hlb W1 hE1
  have lL := itoa_sz lb hlb
  obtain ⟨xl, hxl⟩ : ∃ s, bt (Lib.itoa lb) = s := ⟨_, rfl⟩
  rw [hxl] at hit lL
  have hXL := Lib.hid (show xl.data.toList = Lib.itoa lb from by rw [← hxl]; rfl)
  clear hxl
  have hr0 := Lib.hid (fun (W : World) (hE : Env W) => rreg47_any sr hsr W)
  have l0 := regT_len sr
  unfold StrPost at hr0
  obtain ⟨x0, hx0'⟩ : ∃ s, bt (regT sr) = s := ⟨_, rfl⟩
  rw [hx0'] at hr0 l0
  have hX0 := Lib.hid (show x0.data.toList = regT sr from by rw [← hx0']; rfl)
  clear hx0'
  have hr1 := Lib.hid (fun (W : World) (hE : Env W) => raddr23_any ba ix hb hi dp hd0 hd1 W hE)
  have l1 := addrS_sz ba ix hb hi dp hd0 hd1
  unfold StrPost at hr1
  obtain ⟨x1, hx1'⟩ : ∃ s, bt (addrS ba ix hb hi dp) = s := ⟨_, rfl⟩
  rw [hx1'] at hr1 l1
  have hX1 := Lib.hid (show x1.data.toList = addrS ba ix hb hi dp from by rw [← hx1']; rfl)
  clear hx1'
  unfold adV at hr1
  have hbw := Lib.hid hb1
  have hx := Lib.hid hx1
  have hE2 := Lib.hid hE1
  have hit := Lib.hid hit
  have hW1' := Lib.hid hW1
  clear hb1 hx1 hE1 hE hW1 hlb
  unfold inV inC
  obtain ⟨g0, g1, g2, g3, g4, g5, g6, g7, g8, g9, g10, g11, g12⟩ := box13 hx.out
  go_enter Tryz.func25, Tryz.ntmps25
  go_wp2_with fail
  rw [hW1'.out]
  refine hit.out.mono ?_
  rintro e w2 ⟨rfl, hb2⟩
  have hx := Lib.hid ((hb2.block _ (blk_lt hx.out)).trans hx.out)
  have hE2 := Lib.hid (hE2.out.below hb2)
  have hbw := Lib.hid (Below.next hbw.out hb2)
  clear hb2 g0 g1 g2 g3 g4 g5 g6 g7 g8 g9 g10 g11 g12
  obtain ⟨g0, g1, g2, g3, g4, g5, g6, g7, g8, g9, g10, g11, g12⟩ := box13 hx.out
  have c5 := Sub.cell g5
  have c7 := Sub.cell g7
  have c8 := Sub.cell g8
  have c9 := Sub.cell g9
  have c10 := Sub.cell g10
  have c11 := Sub.cell g11
  have s0 := Lib.hid (fun s : Sub w2 => hr0.out s.val (hE2.out.below s.property))
  have s1 := Lib.hid (fun s : Sub w2 => hr1.out s.val (hE2.out.below s.property))
  go_wp2_with fail
  refine wp_region_below (by kernel_rfl) (by kernel_rfl) ?_
  repeat (go_big_quiet_step ((first | (go_at_call 47; with_reducible exact Sub.call (s0.out _)) | (go_at_call 23; with_reducible exact Sub.call (s1.out _)))))
  refine wpQuiet_nil ?_
  rintro w4 ⟨z4, hz4⟩
  have hb4 := hz4 ▸ z4.property
  have hbw := Lib.hid (Below.next hbw.out hb4)
  clear hz4 hb4 g0 g1 g2 g3 g4 g5 g6 g7 g8 g9 g10 g11 g12 c5 c7 c8 c9 c10 c11
  go_wp2
  go_ret
  exact ⟨ret_str (by simp [bt, lblT, hXL.out, hX0.out, hX1.out]), hbw.out⟩
set_option maxRecDepth 100000 in
set_option maxHeartbeats 8000000 in
theorem rl5_any (bn sh cd ds sr : Int) (im : Nat) (ba ix : Int) (hb hi : Bool) (dp lb : Int) (hsr : 0 ≤ sr ∧ sr ≤ 15) (hds : 0 ≤ ds ∧ ds ≤ 15) (k : Nat) (hk : k < 9) (he : bn = (k : Int)) (hlb : 0 ≤ lb ∧ lb ≤ 1048576) (w : World) (hE : Env w) : Calls Tryz.prog 25 #[inV ⟨5, bn, sh, cd, ds, sr, im, ba, ix, hb, hi, dp, lb⟩] w (StrPost (bt (atW binR bn ++ (32 :: (regT sr ++ (44 :: 32 :: regT ds))))) w) := by
  subst he
  obtain ⟨W1, hW1⟩ : ∃ W1, w.alloc (.cells #[.int .i64 5, .int .i64 (k : Int), .int .i64 sh, .int .i64 cd, .int .i64 ds, .int .i64 sr, .int .u64 (im : Int), .int .i64 ba, .int .i64 ix, .bool hb, .bool hi, .int .i64 dp, .int .i64 lb] 32) = W1 := ⟨_, rfl⟩
  have hb1 : Below w.heap.size w W1 := by rw [← hW1]; exact below_new w _
  have hx1 : W1.heap[w.heap.size]? = some (.cells #[.int .i64 5, .int .i64 (k : Int), .int .i64 sh, .int .i64 cd, .int .i64 ds, .int .i64 sr, .int .u64 (im : Int), .int .i64 ba, .int .i64 ix, .bool hb, .bool hi, .int .i64 dp, .int .i64 lb] 32 (0, 0)) := by rw [← hW1]; exact heap_alloc_new _ _
  have hE1 := hE.below hb1
  have hit := itoa51 lb hlb W1 hE1
  have lL := itoa_sz lb hlb
  obtain ⟨xl, hxl⟩ : ∃ s, bt (Lib.itoa lb) = s := ⟨_, rfl⟩
  rw [hxl] at hit lL
  have hXL := Lib.hid (show xl.data.toList = Lib.itoa lb from by rw [← hxl]; rfl)
  clear hxl
  have hr0 := Lib.hid (fun (W : World) (hE : Env W) => rreg47_any sr hsr W)
  have l0 := regT_len sr
  unfold StrPost at hr0
  obtain ⟨x0, hx0'⟩ : ∃ s, bt (regT sr) = s := ⟨_, rfl⟩
  rw [hx0'] at hr0 l0
  have hX0 := Lib.hid (show x0.data.toList = regT sr from by rw [← hx0']; rfl)
  clear hx0'
  have hr1 := Lib.hid (fun (W : World) (hE : Env W) => rreg47_any ds hds W)
  have l1 := regT_len ds
  unfold StrPost at hr1
  obtain ⟨x1, hx1'⟩ : ∃ s, bt (regT ds) = s := ⟨_, rfl⟩
  rw [hx1'] at hr1 l1
  have hX1 := Lib.hid (show x1.data.toList = regT ds from by rw [← hx1']; rfl)
  clear hx1'
  have hcell := Lib.hid (fun (W : World) => lis_cell (w := W) (at_get (L := binR) (k := k) hk))
  have hsz : (bt (atW binR (k : Int))).size ≤ 10 := by rw [bt_size]; exact binR_le (k : Int)
  obtain ⟨xb, hxb⟩ : ∃ x, bt (atW binR (k : Int)) = x := ⟨_, rfl⟩
  rw [hxb] at hcell hsz
  have hXB := Lib.hid (show xb.data.toList = atW binR (k : Int) from by rw [← hxb]; rfl)
  have e1 : (0 : Int) ≤ (k : Int) := by omega
  have e2 : (k : Int) < 9 := by omega
  clear hxb
  have hbw := Lib.hid hb1
  have hx := Lib.hid hx1
  have hE2 := Lib.hid hE1
  have hit := Lib.hid hit
  have hW1' := Lib.hid hW1
  clear hb1 hx1 hE1 hE hW1 hlb hk
  unfold inV inC
  obtain ⟨g0, g1, g2, g3, g4, g5, g6, g7, g8, g9, g10, g11, g12⟩ := box13 hx.out
  go_enter Tryz.func25, Tryz.ntmps25
  go_wp2_with fail
  rw [hW1'.out]
  refine hit.out.mono ?_
  rintro e w2 ⟨rfl, hb2⟩
  have hx := Lib.hid ((hb2.block _ (blk_lt hx.out)).trans hx.out)
  have hE2 := Lib.hid (hE2.out.below hb2)
  have hbw := Lib.hid (Below.next hbw.out hb2)
  clear hb2 g0 g1 g2 g3 g4 g5 g6 g7 g8 g9 g10 g11 g12
  obtain ⟨g0, g1, g2, g3, g4, g5, g6, g7, g8, g9, g10, g11, g12⟩ := box13 hx.out
  go_wp2_with fail
  have hcl : Calls Tryz.prog 53 #[] w2.drew fun e w' => e = .returned (.slice (some ⟨w2.heap.size, 0, none⟩) 9 9) ∧ w'.cell? ⟨w2.heap.size, k, none⟩ = some (.string xb) ∧ w'.heap[w.heap.size]? = some (.cells #[.int .i64 5, .int .i64 (k : Int), .int .i64 sh, .int .i64 cd, .int .i64 ds, .int .i64 sr, .int .u64 (im : Int), .int .i64 ba, .int .i64 ix, .bool hb, .bool hi, .int .i64 dp, .int .i64 lb] 32 (0, 0)) ∧ Env w' ∧ Below w.heap.size w w' := (rbins_any w2.drew).mono fun e w' h => by
    obtain ⟨h1, h2⟩ := h
    have hb4 : Below w2.heap.size w2 w' := by rw [h2]; exact (Below.refl _ _).drew.alloc (Nat.le_refl _) _
    have hc4 := hcell.out w2.drew
    rw [← h2] at hc4
    exact ⟨h1, hc4, (hb4.block _ (blk_lt hx.out)).trans hx.out, hE2.out.below hb4, Below.next hbw.out hb4⟩
  have hcl := Lib.hid hcl
  clear g0 g1 g2 g3 g4 g5 g6 g7 g8 g9 g10 g11 g12
  have hx := Lib.hid (show w2.drew.heap[w.heap.size]? = some (.cells #[.int .i64 5, .int .i64 (k : Int), .int .i64 sh, .int .i64 cd, .int .i64 ds, .int .i64 sr, .int .u64 (im : Int), .int .i64 ba, .int .i64 ix, .bool hb, .bool hi, .int .i64 dp, .int .i64 lb] 32 (0, 0)) from hx.out)
  refine wp_region_held (S := fun W => W.cell? ⟨w.heap.size, 1, none⟩ = some (.int .i64 (k : Int)) ∧ W.cell? ⟨w.heap.size, 4, none⟩ = some (.int .i64 ds) ∧ W.cell? ⟨w.heap.size, 5, none⟩ = some (.int .i64 sr)) (by kernel_rfl) ?_
  have hS : (fun W : World => W.cell? ⟨w.heap.size, 1, none⟩ = some (.int .i64 (k : Int)) ∧ W.cell? ⟨w.heap.size, 4, none⟩ = some (.int .i64 ds) ∧ W.cell? ⟨w.heap.size, 5, none⟩ = some (.int .i64 sr)) w2.drew := ⟨(box13 hx.out).2.1, (box13 hx.out).2.2.2.2.1, (box13 hx.out).2.2.2.2.2.1⟩
  have hS := Lib.hid hS
  refine wpAnyH_take (i := 1) (v := .pointer (some ⟨w.heap.size, 1, none⟩)) rfl (by kernel_rfl) (by kernel_rfl) (by kernel_rfl) (fun _ _ _ h => h) (Or.inl ⟨by rfl, fun V hV => by obtain ⟨h1, h4, h5⟩ := hV; go_simp⟩) hS.out ?_
  simp only [Act.put, List.getElem_toArray, List.getElem_cons_zero, List.getElem_cons_succ, List.setIfInBounds_toArray, List.set_cons_zero, List.set_cons_succ]
  refine wpAnyH_take (i := 2) (v := .int .i64 (k : Int)) rfl (by kernel_rfl) (by kernel_rfl) (by kernel_rfl) (fun _ _ _ h => h) (Or.inl ⟨by rfl, fun V hV => by obtain ⟨h1, h4, h5⟩ := hV; go_simp⟩) hS.out ?_
  simp only [Act.put, List.getElem_toArray, List.getElem_cons_zero, List.getElem_cons_succ, List.setIfInBounds_toArray, List.set_cons_zero, List.set_cons_succ]
  refine wpAnyH_take (i := 6) (v := .pointer (some ⟨w.heap.size, 5, none⟩)) rfl (by kernel_rfl) (by kernel_rfl) (by kernel_rfl) (fun _ _ _ h => h) (Or.inl ⟨by rfl, fun V hV => by obtain ⟨h1, h4, h5⟩ := hV; go_simp⟩) hS.out ?_
  simp only [Act.put, List.getElem_toArray, List.getElem_cons_zero, List.getElem_cons_succ, List.setIfInBounds_toArray, List.set_cons_zero, List.set_cons_succ]
  refine wpAnyH_take (i := 7) (v := .int .i64 sr) rfl (by kernel_rfl) (by kernel_rfl) (by kernel_rfl) (fun _ _ _ h => h) (Or.inl ⟨by rfl, fun V hV => by obtain ⟨h1, h4, h5⟩ := hV; go_simp⟩) hS.out ?_
  simp only [Act.put, List.getElem_toArray, List.getElem_cons_zero, List.getElem_cons_succ, List.setIfInBounds_toArray, List.set_cons_zero, List.set_cons_succ]
  refine wpAnyH_take (i := 11) (v := .pointer (some ⟨w.heap.size, 4, none⟩)) rfl (by kernel_rfl) (by kernel_rfl) (by kernel_rfl) (fun _ _ _ h => h) (Or.inl ⟨by rfl, fun V hV => by obtain ⟨h1, h4, h5⟩ := hV; go_simp⟩) hS.out ?_
  simp only [Act.put, List.getElem_toArray, List.getElem_cons_zero, List.getElem_cons_succ, List.setIfInBounds_toArray, List.set_cons_zero, List.set_cons_succ]
  refine wpAnyH_take (i := 12) (v := .int .i64 ds) rfl (by kernel_rfl) (by kernel_rfl) (by kernel_rfl) (fun _ _ _ h => h) (Or.inl ⟨by rfl, fun V hV => by obtain ⟨h1, h4, h5⟩ := hV; go_simp⟩) hS.out ?_
  simp only [Act.put, List.getElem_toArray, List.getElem_cons_zero, List.getElem_cons_succ, List.setIfInBounds_toArray, List.set_cons_zero, List.set_cons_succ]
  refine wpAnyH_all (rs := [0]) (by kernel_rfl) (by simp) ?_
  intro ii hii
  rcases (by simpa using hii : ii = 0) with rfl
  refine wpOp_call (f := 53) (args := #[]) rfl (by rfl) (by go_simp) hcl.out ?_
  rintro e w4 ⟨rfl, hc2, hx4, hE4, hb4⟩
  have hx := Lib.hid hx4
  have hE2 := Lib.hid hE4
  have hbw := Lib.hid hb4
  clear hE4 hb4 hS
  refine ⟨_, rfl, ⟨(box13 hx.out).2.1, (box13 hx.out).2.2.2.2.1, (box13 hx.out).2.2.2.2.2.1⟩, ?_⟩
  simp only [Act.put, List.getElem_toArray, List.getElem_cons_zero, List.getElem_cons_succ, List.setIfInBounds_toArray, List.set_cons_zero, List.set_cons_succ]
  refine wpAnyH_more (S' := fun W => W.cell? ⟨w2.heap.size, k, none⟩ = some (.string xb) ∧ W.cell? ⟨w.heap.size, 1, none⟩ = some (.int .i64 (k : Int)) ∧ W.cell? ⟨w.heap.size, 4, none⟩ = some (.int .i64 ds) ∧ W.cell? ⟨w.heap.size, 5, none⟩ = some (.int .i64 sr)) (fun _ h => h.2) _ _ _ _ ?_
  have hS := Lib.hid (show (fun W : World => W.cell? ⟨w2.heap.size, k, none⟩ = some (.string xb) ∧ W.cell? ⟨w.heap.size, 1, none⟩ = some (.int .i64 (k : Int)) ∧ W.cell? ⟨w.heap.size, 4, none⟩ = some (.int .i64 ds) ∧ W.cell? ⟨w.heap.size, 5, none⟩ = some (.int .i64 sr)) w4 from ⟨hc2, ⟨(box13 hx.out).2.1, (box13 hx.out).2.2.2.2.1, (box13 hx.out).2.2.2.2.2.1⟩⟩)
  clear hc2 hx4
  refine wpAnyH_take (i := 3) (v := .pointer (some ⟨w2.heap.size, k, none⟩)) rfl (by kernel_rfl) (by kernel_rfl) (by kernel_rfl) (fun _ _ _ h => h) (Or.inl ⟨by rfl, fun V hV => by obtain ⟨h99, h1, h4, h5⟩ := hV; go_simp⟩) hS.out ?_
  simp only [Act.put, List.getElem_toArray, List.getElem_cons_zero, List.getElem_cons_succ, List.setIfInBounds_toArray, List.set_cons_zero, List.set_cons_succ]
  refine wpAnyH_take (i := 4) (v := .string (xb)) rfl (by kernel_rfl) (by kernel_rfl) (by kernel_rfl) (fun _ _ _ h => h) (Or.inl ⟨by rfl, fun V hV => by obtain ⟨h99, h1, h4, h5⟩ := hV; go_simp⟩) hS.out ?_
  simp only [Act.put, List.getElem_toArray, List.getElem_cons_zero, List.getElem_cons_succ, List.setIfInBounds_toArray, List.set_cons_zero, List.set_cons_succ]
  refine wpAnyH_take (i := 5) (v := .string (xb ++ (⟨#[32]⟩ : ByteArray))) rfl (by kernel_rfl) (by kernel_rfl) (by kernel_rfl) (fun _ _ _ h => h) (Or.inl ⟨by rfl, fun V hV => by obtain ⟨h99, h1, h4, h5⟩ := hV; go_simp; try omega⟩) hS.out ?_
  simp only [Act.put, List.getElem_toArray, List.getElem_cons_zero, List.getElem_cons_succ, List.setIfInBounds_toArray, List.set_cons_zero, List.set_cons_succ]
  refine wpAnyH_all (rs := [8]) (by kernel_rfl) (by simp) ?_
  intro ii hii
  rcases (by simpa using hii : ii = 8) with rfl
  refine wpOp_call (f := 47) (args := #[.int .i64 sr]) rfl (by rfl) (by go_simp) (hr0.out _ hE2.out) ?_
  rintro e w5 ⟨rfl, hb5⟩
  have hS := Lib.hid (show (fun W : World => W.cell? ⟨w2.heap.size, k, none⟩ = some (.string xb) ∧ W.cell? ⟨w.heap.size, 1, none⟩ = some (.int .i64 (k : Int)) ∧ W.cell? ⟨w.heap.size, 4, none⟩ = some (.int .i64 ds) ∧ W.cell? ⟨w.heap.size, 5, none⟩ = some (.int .i64 sr)) w5 from by obtain ⟨h99, h1, h4, h5⟩ := hS.out; exact ⟨keepc hb5 h99, keepc hb5 h1, keepc hb5 h4, keepc hb5 h5⟩)
  have hE2 := Lib.hid (hE2.out.below hb5)
  have hbw := Lib.hid (Below.next hbw.out hb5)
  clear hb5
  refine ⟨_, rfl, hS.out, ?_⟩
  simp only [Act.put, List.getElem_toArray, List.getElem_cons_zero, List.getElem_cons_succ, List.setIfInBounds_toArray, List.set_cons_zero, List.set_cons_succ]
  refine wpAnyH_take (i := 9) (v := .string (xb ++ (⟨#[32]⟩ : ByteArray) ++ x0)) rfl (by kernel_rfl) (by kernel_rfl) (by kernel_rfl) (fun _ _ _ h => h) (Or.inl ⟨by rfl, fun V hV => by obtain ⟨h99, h1, h4, h5⟩ := hV; go_simp; try omega⟩) hS.out ?_
  simp only [Act.put, List.getElem_toArray, List.getElem_cons_zero, List.getElem_cons_succ, List.setIfInBounds_toArray, List.set_cons_zero, List.set_cons_succ]
  refine wpAnyH_take (i := 10) (v := .string (xb ++ (⟨#[32]⟩ : ByteArray) ++ x0 ++ (⟨#[44, 32]⟩ : ByteArray))) rfl (by kernel_rfl) (by kernel_rfl) (by kernel_rfl) (fun _ _ _ h => h) (Or.inl ⟨by rfl, fun V hV => by obtain ⟨h99, h1, h4, h5⟩ := hV; go_simp; try omega⟩) hS.out ?_
  simp only [Act.put, List.getElem_toArray, List.getElem_cons_zero, List.getElem_cons_succ, List.setIfInBounds_toArray, List.set_cons_zero, List.set_cons_succ]
  refine wpAnyH_all (rs := [13]) (by kernel_rfl) (by simp) ?_
  intro ii hii
  rcases (by simpa using hii : ii = 13) with rfl
  refine wpOp_call (f := 47) (args := #[.int .i64 ds]) rfl (by rfl) (by go_simp) (hr1.out _ hE2.out) ?_
  rintro e w6 ⟨rfl, hb5⟩
  have hS := Lib.hid (show (fun W : World => W.cell? ⟨w2.heap.size, k, none⟩ = some (.string xb) ∧ W.cell? ⟨w.heap.size, 1, none⟩ = some (.int .i64 (k : Int)) ∧ W.cell? ⟨w.heap.size, 4, none⟩ = some (.int .i64 ds) ∧ W.cell? ⟨w.heap.size, 5, none⟩ = some (.int .i64 sr)) w6 from by obtain ⟨h99, h1, h4, h5⟩ := hS.out; exact ⟨keepc hb5 h99, keepc hb5 h1, keepc hb5 h4, keepc hb5 h5⟩)
  have hE2 := Lib.hid (hE2.out.below hb5)
  have hbw := Lib.hid (Below.next hbw.out hb5)
  clear hb5
  refine ⟨_, rfl, hS.out, ?_⟩
  simp only [Act.put, List.getElem_toArray, List.getElem_cons_zero, List.getElem_cons_succ, List.setIfInBounds_toArray, List.set_cons_zero, List.set_cons_succ]
  refine wpAnyH_take (i := 14) (v := .string (xb ++ (⟨#[32]⟩ : ByteArray) ++ x0 ++ (⟨#[44, 32]⟩ : ByteArray) ++ x1)) rfl (by kernel_rfl) (by kernel_rfl) (by kernel_rfl) (fun _ _ _ h => h) (Or.inl ⟨by rfl, fun V hV => by obtain ⟨h99, h1, h4, h5⟩ := hV; go_simp; try omega⟩) hS.out ?_
  simp only [Act.put, List.getElem_toArray, List.getElem_cons_zero, List.getElem_cons_succ, List.setIfInBounds_toArray, List.set_cons_zero, List.set_cons_succ]
  refine wpAnyH_take (i := 15) (v := .string (xb ++ (⟨#[32]⟩ : ByteArray) ++ x0 ++ (⟨#[44, 32]⟩ : ByteArray) ++ x1)) rfl (by kernel_rfl) (by kernel_rfl) (by kernel_rfl) (fun _ _ _ h => h) (Or.inl ⟨by rfl, fun V hV => by obtain ⟨h99, h1, h4, h5⟩ := hV; go_simp; try omega⟩) hS.out ?_
  simp only [Act.put, List.getElem_toArray, List.getElem_cons_zero, List.getElem_cons_succ, List.setIfInBounds_toArray, List.set_cons_zero, List.set_cons_succ]
  refine wpAnyH_done (by kernel_rfl) ?_ _
  clear hS
  go_wp2
  go_ret
  exact ⟨ret_str (by simp [bt, lblT, hXL.out, hX0.out, hX1.out, hXB.out]), hbw.out⟩
set_option maxRecDepth 100000 in
set_option maxHeartbeats 8000000 in
theorem rl6_any (bn sh cd ds sr : Int) (im : Nat) (ba ix : Int) (hb hi : Bool) (dp lb : Int) (him : im < 18446744073709551616) (hds : 0 ≤ ds ∧ ds ≤ 15) (k : Nat) (hk : k < 9) (he : bn = (k : Int)) (hlb : 0 ≤ lb ∧ lb ≤ 1048576) (w : World) (hE : Env w) : Calls Tryz.prog 25 #[inV ⟨6, bn, sh, cd, ds, sr, im, ba, ix, hb, hi, dp, lb⟩] w (StrPost (bt (atW binR bn ++ (32 :: (immT im ++ (44 :: 32 :: regT ds))))) w) := by
  subst he
  obtain ⟨W1, hW1⟩ : ∃ W1, w.alloc (.cells #[.int .i64 6, .int .i64 (k : Int), .int .i64 sh, .int .i64 cd, .int .i64 ds, .int .i64 sr, .int .u64 (im : Int), .int .i64 ba, .int .i64 ix, .bool hb, .bool hi, .int .i64 dp, .int .i64 lb] 32) = W1 := ⟨_, rfl⟩
  have hb1 : Below w.heap.size w W1 := by rw [← hW1]; exact below_new w _
  have hx1 : W1.heap[w.heap.size]? = some (.cells #[.int .i64 6, .int .i64 (k : Int), .int .i64 sh, .int .i64 cd, .int .i64 ds, .int .i64 sr, .int .u64 (im : Int), .int .i64 ba, .int .i64 ix, .bool hb, .bool hi, .int .i64 dp, .int .i64 lb] 32 (0, 0)) := by rw [← hW1]; exact heap_alloc_new _ _
  have hE1 := hE.below hb1
  have hit := itoa51 lb hlb W1 hE1
  have lL := itoa_sz lb hlb
  obtain ⟨xl, hxl⟩ : ∃ s, bt (Lib.itoa lb) = s := ⟨_, rfl⟩
  rw [hxl] at hit lL
  have hXL := Lib.hid (show xl.data.toList = Lib.itoa lb from by rw [← hxl]; rfl)
  clear hxl
  have hr0 := Lib.hid (fun (W : World) (hE : Env W) => rimm54_any im him W hE)
  have l0 := immT_sz im him
  unfold StrPost at hr0
  obtain ⟨x0, hx0'⟩ : ∃ s, bt (immT im) = s := ⟨_, rfl⟩
  rw [hx0'] at hr0 l0
  have hX0 := Lib.hid (show x0.data.toList = immT im from by rw [← hx0']; rfl)
  clear hx0'
  have hr1 := Lib.hid (fun (W : World) (hE : Env W) => rreg47_any ds hds W)
  have l1 := regT_len ds
  unfold StrPost at hr1
  obtain ⟨x1, hx1'⟩ : ∃ s, bt (regT ds) = s := ⟨_, rfl⟩
  rw [hx1'] at hr1 l1
  have hX1 := Lib.hid (show x1.data.toList = regT ds from by rw [← hx1']; rfl)
  clear hx1'
  have hcell := Lib.hid (fun (W : World) => lis_cell (w := W) (at_get (L := binR) (k := k) hk))
  have hsz : (bt (atW binR (k : Int))).size ≤ 10 := by rw [bt_size]; exact binR_le (k : Int)
  obtain ⟨xb, hxb⟩ : ∃ x, bt (atW binR (k : Int)) = x := ⟨_, rfl⟩
  rw [hxb] at hcell hsz
  have hXB := Lib.hid (show xb.data.toList = atW binR (k : Int) from by rw [← hxb]; rfl)
  have e1 : (0 : Int) ≤ (k : Int) := by omega
  have e2 : (k : Int) < 9 := by omega
  clear hxb
  have hbw := Lib.hid hb1
  have hx := Lib.hid hx1
  have hE2 := Lib.hid hE1
  have hit := Lib.hid hit
  have hW1' := Lib.hid hW1
  clear hb1 hx1 hE1 hE hW1 hlb hk
  unfold inV inC
  obtain ⟨g0, g1, g2, g3, g4, g5, g6, g7, g8, g9, g10, g11, g12⟩ := box13 hx.out
  go_enter Tryz.func25, Tryz.ntmps25
  go_wp2_with fail
  rw [hW1'.out]
  refine hit.out.mono ?_
  rintro e w2 ⟨rfl, hb2⟩
  have hx := Lib.hid ((hb2.block _ (blk_lt hx.out)).trans hx.out)
  have hE2 := Lib.hid (hE2.out.below hb2)
  have hbw := Lib.hid (Below.next hbw.out hb2)
  clear hb2 g0 g1 g2 g3 g4 g5 g6 g7 g8 g9 g10 g11 g12
  obtain ⟨g0, g1, g2, g3, g4, g5, g6, g7, g8, g9, g10, g11, g12⟩ := box13 hx.out
  go_wp2_with fail
  have hcl : Calls Tryz.prog 53 #[] w2.drew fun e w' => e = .returned (.slice (some ⟨w2.heap.size, 0, none⟩) 9 9) ∧ w'.cell? ⟨w2.heap.size, k, none⟩ = some (.string xb) ∧ w'.heap[w.heap.size]? = some (.cells #[.int .i64 6, .int .i64 (k : Int), .int .i64 sh, .int .i64 cd, .int .i64 ds, .int .i64 sr, .int .u64 (im : Int), .int .i64 ba, .int .i64 ix, .bool hb, .bool hi, .int .i64 dp, .int .i64 lb] 32 (0, 0)) ∧ Env w' ∧ Below w.heap.size w w' := (rbins_any w2.drew).mono fun e w' h => by
    obtain ⟨h1, h2⟩ := h
    have hb4 : Below w2.heap.size w2 w' := by rw [h2]; exact (Below.refl _ _).drew.alloc (Nat.le_refl _) _
    have hc4 := hcell.out w2.drew
    rw [← h2] at hc4
    exact ⟨h1, hc4, (hb4.block _ (blk_lt hx.out)).trans hx.out, hE2.out.below hb4, Below.next hbw.out hb4⟩
  have hcl := Lib.hid hcl
  clear g0 g1 g2 g3 g4 g5 g6 g7 g8 g9 g10 g11 g12
  have hx := Lib.hid (show w2.drew.heap[w.heap.size]? = some (.cells #[.int .i64 6, .int .i64 (k : Int), .int .i64 sh, .int .i64 cd, .int .i64 ds, .int .i64 sr, .int .u64 (im : Int), .int .i64 ba, .int .i64 ix, .bool hb, .bool hi, .int .i64 dp, .int .i64 lb] 32 (0, 0)) from hx.out)
  refine wp_region_held (S := fun W => W.cell? ⟨w.heap.size, 1, none⟩ = some (.int .i64 (k : Int)) ∧ W.cell? ⟨w.heap.size, 4, none⟩ = some (.int .i64 ds) ∧ W.cell? ⟨w.heap.size, 6, none⟩ = some (.int .u64 (im : Int))) (by kernel_rfl) ?_
  have hS : (fun W : World => W.cell? ⟨w.heap.size, 1, none⟩ = some (.int .i64 (k : Int)) ∧ W.cell? ⟨w.heap.size, 4, none⟩ = some (.int .i64 ds) ∧ W.cell? ⟨w.heap.size, 6, none⟩ = some (.int .u64 (im : Int))) w2.drew := ⟨(box13 hx.out).2.1, (box13 hx.out).2.2.2.2.1, (box13 hx.out).2.2.2.2.2.2.1⟩
  have hS := Lib.hid hS
  refine wpAnyH_take (i := 1) (v := .pointer (some ⟨w.heap.size, 1, none⟩)) rfl (by kernel_rfl) (by kernel_rfl) (by kernel_rfl) (fun _ _ _ h => h) (Or.inl ⟨by rfl, fun V hV => by obtain ⟨h1, h4, h6⟩ := hV; go_simp⟩) hS.out ?_
  simp only [Act.put, List.getElem_toArray, List.getElem_cons_zero, List.getElem_cons_succ, List.setIfInBounds_toArray, List.set_cons_zero, List.set_cons_succ]
  refine wpAnyH_take (i := 2) (v := .int .i64 (k : Int)) rfl (by kernel_rfl) (by kernel_rfl) (by kernel_rfl) (fun _ _ _ h => h) (Or.inl ⟨by rfl, fun V hV => by obtain ⟨h1, h4, h6⟩ := hV; go_simp⟩) hS.out ?_
  simp only [Act.put, List.getElem_toArray, List.getElem_cons_zero, List.getElem_cons_succ, List.setIfInBounds_toArray, List.set_cons_zero, List.set_cons_succ]
  refine wpAnyH_take (i := 6) (v := .pointer (some ⟨w.heap.size, 6, none⟩)) rfl (by kernel_rfl) (by kernel_rfl) (by kernel_rfl) (fun _ _ _ h => h) (Or.inl ⟨by rfl, fun V hV => by obtain ⟨h1, h4, h6⟩ := hV; go_simp⟩) hS.out ?_
  simp only [Act.put, List.getElem_toArray, List.getElem_cons_zero, List.getElem_cons_succ, List.setIfInBounds_toArray, List.set_cons_zero, List.set_cons_succ]
  refine wpAnyH_take (i := 7) (v := .int .u64 (im : Int)) rfl (by kernel_rfl) (by kernel_rfl) (by kernel_rfl) (fun _ _ _ h => h) (Or.inl ⟨by rfl, fun V hV => by obtain ⟨h1, h4, h6⟩ := hV; go_simp⟩) hS.out ?_
  simp only [Act.put, List.getElem_toArray, List.getElem_cons_zero, List.getElem_cons_succ, List.setIfInBounds_toArray, List.set_cons_zero, List.set_cons_succ]
  refine wpAnyH_take (i := 11) (v := .pointer (some ⟨w.heap.size, 4, none⟩)) rfl (by kernel_rfl) (by kernel_rfl) (by kernel_rfl) (fun _ _ _ h => h) (Or.inl ⟨by rfl, fun V hV => by obtain ⟨h1, h4, h6⟩ := hV; go_simp⟩) hS.out ?_
  simp only [Act.put, List.getElem_toArray, List.getElem_cons_zero, List.getElem_cons_succ, List.setIfInBounds_toArray, List.set_cons_zero, List.set_cons_succ]
  refine wpAnyH_take (i := 12) (v := .int .i64 ds) rfl (by kernel_rfl) (by kernel_rfl) (by kernel_rfl) (fun _ _ _ h => h) (Or.inl ⟨by rfl, fun V hV => by obtain ⟨h1, h4, h6⟩ := hV; go_simp⟩) hS.out ?_
  simp only [Act.put, List.getElem_toArray, List.getElem_cons_zero, List.getElem_cons_succ, List.setIfInBounds_toArray, List.set_cons_zero, List.set_cons_succ]
  refine wpAnyH_all (rs := [0]) (by kernel_rfl) (by simp) ?_
  intro ii hii
  rcases (by simpa using hii : ii = 0) with rfl
  refine wpOp_call (f := 53) (args := #[]) rfl (by rfl) (by go_simp) hcl.out ?_
  rintro e w4 ⟨rfl, hc2, hx4, hE4, hb4⟩
  have hx := Lib.hid hx4
  have hE2 := Lib.hid hE4
  have hbw := Lib.hid hb4
  clear hE4 hb4 hS
  refine ⟨_, rfl, ⟨(box13 hx.out).2.1, (box13 hx.out).2.2.2.2.1, (box13 hx.out).2.2.2.2.2.2.1⟩, ?_⟩
  simp only [Act.put, List.getElem_toArray, List.getElem_cons_zero, List.getElem_cons_succ, List.setIfInBounds_toArray, List.set_cons_zero, List.set_cons_succ]
  refine wpAnyH_more (S' := fun W => W.cell? ⟨w2.heap.size, k, none⟩ = some (.string xb) ∧ W.cell? ⟨w.heap.size, 1, none⟩ = some (.int .i64 (k : Int)) ∧ W.cell? ⟨w.heap.size, 4, none⟩ = some (.int .i64 ds) ∧ W.cell? ⟨w.heap.size, 6, none⟩ = some (.int .u64 (im : Int))) (fun _ h => h.2) _ _ _ _ ?_
  have hS := Lib.hid (show (fun W : World => W.cell? ⟨w2.heap.size, k, none⟩ = some (.string xb) ∧ W.cell? ⟨w.heap.size, 1, none⟩ = some (.int .i64 (k : Int)) ∧ W.cell? ⟨w.heap.size, 4, none⟩ = some (.int .i64 ds) ∧ W.cell? ⟨w.heap.size, 6, none⟩ = some (.int .u64 (im : Int))) w4 from ⟨hc2, ⟨(box13 hx.out).2.1, (box13 hx.out).2.2.2.2.1, (box13 hx.out).2.2.2.2.2.2.1⟩⟩)
  clear hc2 hx4
  refine wpAnyH_take (i := 3) (v := .pointer (some ⟨w2.heap.size, k, none⟩)) rfl (by kernel_rfl) (by kernel_rfl) (by kernel_rfl) (fun _ _ _ h => h) (Or.inl ⟨by rfl, fun V hV => by obtain ⟨h99, h1, h4, h6⟩ := hV; go_simp⟩) hS.out ?_
  simp only [Act.put, List.getElem_toArray, List.getElem_cons_zero, List.getElem_cons_succ, List.setIfInBounds_toArray, List.set_cons_zero, List.set_cons_succ]
  refine wpAnyH_take (i := 4) (v := .string (xb)) rfl (by kernel_rfl) (by kernel_rfl) (by kernel_rfl) (fun _ _ _ h => h) (Or.inl ⟨by rfl, fun V hV => by obtain ⟨h99, h1, h4, h6⟩ := hV; go_simp⟩) hS.out ?_
  simp only [Act.put, List.getElem_toArray, List.getElem_cons_zero, List.getElem_cons_succ, List.setIfInBounds_toArray, List.set_cons_zero, List.set_cons_succ]
  refine wpAnyH_take (i := 5) (v := .string (xb ++ (⟨#[32]⟩ : ByteArray))) rfl (by kernel_rfl) (by kernel_rfl) (by kernel_rfl) (fun _ _ _ h => h) (Or.inl ⟨by rfl, fun V hV => by obtain ⟨h99, h1, h4, h6⟩ := hV; go_simp; try omega⟩) hS.out ?_
  simp only [Act.put, List.getElem_toArray, List.getElem_cons_zero, List.getElem_cons_succ, List.setIfInBounds_toArray, List.set_cons_zero, List.set_cons_succ]
  refine wpAnyH_all (rs := [8]) (by kernel_rfl) (by simp) ?_
  intro ii hii
  rcases (by simpa using hii : ii = 8) with rfl
  refine wpOp_call (f := 54) (args := #[.int .u64 (im : Int)]) rfl (by rfl) (by go_simp) (hr0.out _ hE2.out) ?_
  rintro e w5 ⟨rfl, hb5⟩
  have hS := Lib.hid (show (fun W : World => W.cell? ⟨w2.heap.size, k, none⟩ = some (.string xb) ∧ W.cell? ⟨w.heap.size, 1, none⟩ = some (.int .i64 (k : Int)) ∧ W.cell? ⟨w.heap.size, 4, none⟩ = some (.int .i64 ds) ∧ W.cell? ⟨w.heap.size, 6, none⟩ = some (.int .u64 (im : Int))) w5 from by obtain ⟨h99, h1, h4, h6⟩ := hS.out; exact ⟨keepc hb5 h99, keepc hb5 h1, keepc hb5 h4, keepc hb5 h6⟩)
  have hE2 := Lib.hid (hE2.out.below hb5)
  have hbw := Lib.hid (Below.next hbw.out hb5)
  clear hb5
  refine ⟨_, rfl, hS.out, ?_⟩
  simp only [Act.put, List.getElem_toArray, List.getElem_cons_zero, List.getElem_cons_succ, List.setIfInBounds_toArray, List.set_cons_zero, List.set_cons_succ]
  refine wpAnyH_take (i := 9) (v := .string (xb ++ (⟨#[32]⟩ : ByteArray) ++ x0)) rfl (by kernel_rfl) (by kernel_rfl) (by kernel_rfl) (fun _ _ _ h => h) (Or.inl ⟨by rfl, fun V hV => by obtain ⟨h99, h1, h4, h6⟩ := hV; go_simp; try omega⟩) hS.out ?_
  simp only [Act.put, List.getElem_toArray, List.getElem_cons_zero, List.getElem_cons_succ, List.setIfInBounds_toArray, List.set_cons_zero, List.set_cons_succ]
  refine wpAnyH_take (i := 10) (v := .string (xb ++ (⟨#[32]⟩ : ByteArray) ++ x0 ++ (⟨#[44, 32]⟩ : ByteArray))) rfl (by kernel_rfl) (by kernel_rfl) (by kernel_rfl) (fun _ _ _ h => h) (Or.inl ⟨by rfl, fun V hV => by obtain ⟨h99, h1, h4, h6⟩ := hV; go_simp; try omega⟩) hS.out ?_
  simp only [Act.put, List.getElem_toArray, List.getElem_cons_zero, List.getElem_cons_succ, List.setIfInBounds_toArray, List.set_cons_zero, List.set_cons_succ]
  refine wpAnyH_all (rs := [13]) (by kernel_rfl) (by simp) ?_
  intro ii hii
  rcases (by simpa using hii : ii = 13) with rfl
  refine wpOp_call (f := 47) (args := #[.int .i64 ds]) rfl (by rfl) (by go_simp) (hr1.out _ hE2.out) ?_
  rintro e w6 ⟨rfl, hb5⟩
  have hS := Lib.hid (show (fun W : World => W.cell? ⟨w2.heap.size, k, none⟩ = some (.string xb) ∧ W.cell? ⟨w.heap.size, 1, none⟩ = some (.int .i64 (k : Int)) ∧ W.cell? ⟨w.heap.size, 4, none⟩ = some (.int .i64 ds) ∧ W.cell? ⟨w.heap.size, 6, none⟩ = some (.int .u64 (im : Int))) w6 from by obtain ⟨h99, h1, h4, h6⟩ := hS.out; exact ⟨keepc hb5 h99, keepc hb5 h1, keepc hb5 h4, keepc hb5 h6⟩)
  have hE2 := Lib.hid (hE2.out.below hb5)
  have hbw := Lib.hid (Below.next hbw.out hb5)
  clear hb5
  refine ⟨_, rfl, hS.out, ?_⟩
  simp only [Act.put, List.getElem_toArray, List.getElem_cons_zero, List.getElem_cons_succ, List.setIfInBounds_toArray, List.set_cons_zero, List.set_cons_succ]
  refine wpAnyH_take (i := 14) (v := .string (xb ++ (⟨#[32]⟩ : ByteArray) ++ x0 ++ (⟨#[44, 32]⟩ : ByteArray) ++ x1)) rfl (by kernel_rfl) (by kernel_rfl) (by kernel_rfl) (fun _ _ _ h => h) (Or.inl ⟨by rfl, fun V hV => by obtain ⟨h99, h1, h4, h6⟩ := hV; go_simp; try omega⟩) hS.out ?_
  simp only [Act.put, List.getElem_toArray, List.getElem_cons_zero, List.getElem_cons_succ, List.setIfInBounds_toArray, List.set_cons_zero, List.set_cons_succ]
  refine wpAnyH_take (i := 15) (v := .string (xb ++ (⟨#[32]⟩ : ByteArray) ++ x0 ++ (⟨#[44, 32]⟩ : ByteArray) ++ x1)) rfl (by kernel_rfl) (by kernel_rfl) (by kernel_rfl) (fun _ _ _ h => h) (Or.inl ⟨by rfl, fun V hV => by obtain ⟨h99, h1, h4, h6⟩ := hV; go_simp; try omega⟩) hS.out ?_
  simp only [Act.put, List.getElem_toArray, List.getElem_cons_zero, List.getElem_cons_succ, List.setIfInBounds_toArray, List.set_cons_zero, List.set_cons_succ]
  refine wpAnyH_done (by kernel_rfl) ?_ _
  clear hS
  go_wp2
  go_ret
  exact ⟨ret_str (by simp [bt, lblT, hXL.out, hX0.out, hX1.out, hXB.out]), hbw.out⟩
set_option maxRecDepth 100000 in
set_option maxHeartbeats 8000000 in
theorem rl7_any (bn sh cd ds sr : Int) (im : Nat) (ba ix : Int) (hb hi : Bool) (dp lb : Int) (hds : 0 ≤ ds ∧ ds ≤ 15) (k : Nat) (hk : k < 6) (he : sh = (k : Int)) (hlb : 0 ≤ lb ∧ lb ≤ 1048576) (w : World) (hE : Env w) : Calls Tryz.prog 25 #[inV ⟨7, bn, sh, cd, ds, sr, im, ba, ix, hb, hi, dp, lb⟩] w (StrPost (bt (atW shfR sh ++ (32 :: 37 :: 99 :: 108 :: 44 :: 32 :: regT ds))) w) := by
  subst he
  obtain ⟨W1, hW1⟩ : ∃ W1, w.alloc (.cells #[.int .i64 7, .int .i64 bn, .int .i64 (k : Int), .int .i64 cd, .int .i64 ds, .int .i64 sr, .int .u64 (im : Int), .int .i64 ba, .int .i64 ix, .bool hb, .bool hi, .int .i64 dp, .int .i64 lb] 32) = W1 := ⟨_, rfl⟩
  have hb1 : Below w.heap.size w W1 := by rw [← hW1]; exact below_new w _
  have hx1 : W1.heap[w.heap.size]? = some (.cells #[.int .i64 7, .int .i64 bn, .int .i64 (k : Int), .int .i64 cd, .int .i64 ds, .int .i64 sr, .int .u64 (im : Int), .int .i64 ba, .int .i64 ix, .bool hb, .bool hi, .int .i64 dp, .int .i64 lb] 32 (0, 0)) := by rw [← hW1]; exact heap_alloc_new _ _
  have hE1 := hE.below hb1
  have hit := itoa51 lb hlb W1 hE1
  have lL := itoa_sz lb hlb
  obtain ⟨xl, hxl⟩ : ∃ s, bt (Lib.itoa lb) = s := ⟨_, rfl⟩
  rw [hxl] at hit lL
  have hXL := Lib.hid (show xl.data.toList = Lib.itoa lb from by rw [← hxl]; rfl)
  clear hxl
  have hr0 := Lib.hid (fun (W : World) (hE : Env W) => rreg47_any ds hds W)
  have l0 := regT_len ds
  unfold StrPost at hr0
  obtain ⟨x0, hx0'⟩ : ∃ s, bt (regT ds) = s := ⟨_, rfl⟩
  rw [hx0'] at hr0 l0
  have hX0 := Lib.hid (show x0.data.toList = regT ds from by rw [← hx0']; rfl)
  clear hx0'
  have hcell := Lib.hid (fun (W : World) => lis_cell (w := W) (at_get (L := shfR) (k := k) hk))
  have hsz : (bt (atW shfR (k : Int))).size ≤ 10 := by rw [bt_size]; exact shfR_le (k : Int)
  obtain ⟨xb, hxb⟩ : ∃ x, bt (atW shfR (k : Int)) = x := ⟨_, rfl⟩
  rw [hxb] at hcell hsz
  have hXB := Lib.hid (show xb.data.toList = atW shfR (k : Int) from by rw [← hxb]; rfl)
  have e1 : (0 : Int) ≤ (k : Int) := by omega
  have e2 : (k : Int) < 6 := by omega
  clear hxb
  have hbw := Lib.hid hb1
  have hx := Lib.hid hx1
  have hE2 := Lib.hid hE1
  have hit := Lib.hid hit
  have hW1' := Lib.hid hW1
  clear hb1 hx1 hE1 hE hW1 hlb hk
  unfold inV inC
  obtain ⟨g0, g1, g2, g3, g4, g5, g6, g7, g8, g9, g10, g11, g12⟩ := box13 hx.out
  go_enter Tryz.func25, Tryz.ntmps25
  go_wp2_with fail
  rw [hW1'.out]
  refine hit.out.mono ?_
  rintro e w2 ⟨rfl, hb2⟩
  have hx := Lib.hid ((hb2.block _ (blk_lt hx.out)).trans hx.out)
  have hE2 := Lib.hid (hE2.out.below hb2)
  have hbw := Lib.hid (Below.next hbw.out hb2)
  clear hb2 g0 g1 g2 g3 g4 g5 g6 g7 g8 g9 g10 g11 g12
  obtain ⟨g0, g1, g2, g3, g4, g5, g6, g7, g8, g9, g10, g11, g12⟩ := box13 hx.out
  go_wp2_with fail
  have hcl : Calls Tryz.prog 55 #[] w2.drew fun e w' => e = .returned (.slice (some ⟨w2.heap.size, 0, none⟩) 6 6) ∧ w'.cell? ⟨w2.heap.size, k, none⟩ = some (.string xb) ∧ w'.heap[w.heap.size]? = some (.cells #[.int .i64 7, .int .i64 bn, .int .i64 (k : Int), .int .i64 cd, .int .i64 ds, .int .i64 sr, .int .u64 (im : Int), .int .i64 ba, .int .i64 ix, .bool hb, .bool hi, .int .i64 dp, .int .i64 lb] 32 (0, 0)) ∧ Env w' ∧ Below w.heap.size w w' := (rshifts_any w2.drew).mono fun e w' h => by
    obtain ⟨h1, h2⟩ := h
    have hb4 : Below w2.heap.size w2 w' := by rw [h2]; exact (Below.refl _ _).drew.alloc (Nat.le_refl _) _
    have hc4 := hcell.out w2.drew
    rw [← h2] at hc4
    exact ⟨h1, hc4, (hb4.block _ (blk_lt hx.out)).trans hx.out, hE2.out.below hb4, Below.next hbw.out hb4⟩
  have hcl := Lib.hid hcl
  clear g0 g1 g2 g3 g4 g5 g6 g7 g8 g9 g10 g11 g12
  have hx := Lib.hid (show w2.drew.heap[w.heap.size]? = some (.cells #[.int .i64 7, .int .i64 bn, .int .i64 (k : Int), .int .i64 cd, .int .i64 ds, .int .i64 sr, .int .u64 (im : Int), .int .i64 ba, .int .i64 ix, .bool hb, .bool hi, .int .i64 dp, .int .i64 lb] 32 (0, 0)) from hx.out)
  refine wp_region_held (S := fun W => W.cell? ⟨w.heap.size, 2, none⟩ = some (.int .i64 (k : Int)) ∧ W.cell? ⟨w.heap.size, 4, none⟩ = some (.int .i64 ds)) (by kernel_rfl) ?_
  have hS : (fun W : World => W.cell? ⟨w.heap.size, 2, none⟩ = some (.int .i64 (k : Int)) ∧ W.cell? ⟨w.heap.size, 4, none⟩ = some (.int .i64 ds)) w2.drew := ⟨(box13 hx.out).2.2.1, (box13 hx.out).2.2.2.2.1⟩
  have hS := Lib.hid hS
  refine wpAnyH_take (i := 1) (v := .pointer (some ⟨w.heap.size, 2, none⟩)) rfl (by kernel_rfl) (by kernel_rfl) (by kernel_rfl) (fun _ _ _ h => h) (Or.inl ⟨by rfl, fun V hV => by obtain ⟨h2, h4⟩ := hV; go_simp⟩) hS.out ?_
  simp only [Act.put, List.getElem_toArray, List.getElem_cons_zero, List.getElem_cons_succ, List.setIfInBounds_toArray, List.set_cons_zero, List.set_cons_succ]
  refine wpAnyH_take (i := 2) (v := .int .i64 (k : Int)) rfl (by kernel_rfl) (by kernel_rfl) (by kernel_rfl) (fun _ _ _ h => h) (Or.inl ⟨by rfl, fun V hV => by obtain ⟨h2, h4⟩ := hV; go_simp⟩) hS.out ?_
  simp only [Act.put, List.getElem_toArray, List.getElem_cons_zero, List.getElem_cons_succ, List.setIfInBounds_toArray, List.set_cons_zero, List.set_cons_succ]
  refine wpAnyH_take (i := 6) (v := .pointer (some ⟨w.heap.size, 4, none⟩)) rfl (by kernel_rfl) (by kernel_rfl) (by kernel_rfl) (fun _ _ _ h => h) (Or.inl ⟨by rfl, fun V hV => by obtain ⟨h2, h4⟩ := hV; go_simp⟩) hS.out ?_
  simp only [Act.put, List.getElem_toArray, List.getElem_cons_zero, List.getElem_cons_succ, List.setIfInBounds_toArray, List.set_cons_zero, List.set_cons_succ]
  refine wpAnyH_take (i := 7) (v := .int .i64 ds) rfl (by kernel_rfl) (by kernel_rfl) (by kernel_rfl) (fun _ _ _ h => h) (Or.inl ⟨by rfl, fun V hV => by obtain ⟨h2, h4⟩ := hV; go_simp⟩) hS.out ?_
  simp only [Act.put, List.getElem_toArray, List.getElem_cons_zero, List.getElem_cons_succ, List.setIfInBounds_toArray, List.set_cons_zero, List.set_cons_succ]
  refine wpAnyH_all (rs := [0]) (by kernel_rfl) (by simp) ?_
  intro ii hii
  rcases (by simpa using hii : ii = 0) with rfl
  refine wpOp_call (f := 55) (args := #[]) rfl (by rfl) (by go_simp) hcl.out ?_
  rintro e w4 ⟨rfl, hc2, hx4, hE4, hb4⟩
  have hx := Lib.hid hx4
  have hE2 := Lib.hid hE4
  have hbw := Lib.hid hb4
  clear hE4 hb4 hS
  refine ⟨_, rfl, ⟨(box13 hx.out).2.2.1, (box13 hx.out).2.2.2.2.1⟩, ?_⟩
  simp only [Act.put, List.getElem_toArray, List.getElem_cons_zero, List.getElem_cons_succ, List.setIfInBounds_toArray, List.set_cons_zero, List.set_cons_succ]
  refine wpAnyH_more (S' := fun W => W.cell? ⟨w2.heap.size, k, none⟩ = some (.string xb) ∧ W.cell? ⟨w.heap.size, 2, none⟩ = some (.int .i64 (k : Int)) ∧ W.cell? ⟨w.heap.size, 4, none⟩ = some (.int .i64 ds)) (fun _ h => h.2) _ _ _ _ ?_
  have hS := Lib.hid (show (fun W : World => W.cell? ⟨w2.heap.size, k, none⟩ = some (.string xb) ∧ W.cell? ⟨w.heap.size, 2, none⟩ = some (.int .i64 (k : Int)) ∧ W.cell? ⟨w.heap.size, 4, none⟩ = some (.int .i64 ds)) w4 from ⟨hc2, ⟨(box13 hx.out).2.2.1, (box13 hx.out).2.2.2.2.1⟩⟩)
  clear hc2 hx4
  refine wpAnyH_take (i := 3) (v := .pointer (some ⟨w2.heap.size, k, none⟩)) rfl (by kernel_rfl) (by kernel_rfl) (by kernel_rfl) (fun _ _ _ h => h) (Or.inl ⟨by rfl, fun V hV => by obtain ⟨h99, h2, h4⟩ := hV; go_simp⟩) hS.out ?_
  simp only [Act.put, List.getElem_toArray, List.getElem_cons_zero, List.getElem_cons_succ, List.setIfInBounds_toArray, List.set_cons_zero, List.set_cons_succ]
  refine wpAnyH_take (i := 4) (v := .string (xb)) rfl (by kernel_rfl) (by kernel_rfl) (by kernel_rfl) (fun _ _ _ h => h) (Or.inl ⟨by rfl, fun V hV => by obtain ⟨h99, h2, h4⟩ := hV; go_simp⟩) hS.out ?_
  simp only [Act.put, List.getElem_toArray, List.getElem_cons_zero, List.getElem_cons_succ, List.setIfInBounds_toArray, List.set_cons_zero, List.set_cons_succ]
  refine wpAnyH_take (i := 5) (v := .string (xb ++ (⟨#[32, 37, 99, 108, 44, 32]⟩ : ByteArray))) rfl (by kernel_rfl) (by kernel_rfl) (by kernel_rfl) (fun _ _ _ h => h) (Or.inl ⟨by rfl, fun V hV => by obtain ⟨h99, h2, h4⟩ := hV; go_simp; try omega⟩) hS.out ?_
  simp only [Act.put, List.getElem_toArray, List.getElem_cons_zero, List.getElem_cons_succ, List.setIfInBounds_toArray, List.set_cons_zero, List.set_cons_succ]
  refine wpAnyH_all (rs := [8]) (by kernel_rfl) (by simp) ?_
  intro ii hii
  rcases (by simpa using hii : ii = 8) with rfl
  refine wpOp_call (f := 47) (args := #[.int .i64 ds]) rfl (by rfl) (by go_simp) (hr0.out _ hE2.out) ?_
  rintro e w5 ⟨rfl, hb5⟩
  have hS := Lib.hid (show (fun W : World => W.cell? ⟨w2.heap.size, k, none⟩ = some (.string xb) ∧ W.cell? ⟨w.heap.size, 2, none⟩ = some (.int .i64 (k : Int)) ∧ W.cell? ⟨w.heap.size, 4, none⟩ = some (.int .i64 ds)) w5 from by obtain ⟨h99, h2, h4⟩ := hS.out; exact ⟨keepc hb5 h99, keepc hb5 h2, keepc hb5 h4⟩)
  have hE2 := Lib.hid (hE2.out.below hb5)
  have hbw := Lib.hid (Below.next hbw.out hb5)
  clear hb5
  refine ⟨_, rfl, hS.out, ?_⟩
  simp only [Act.put, List.getElem_toArray, List.getElem_cons_zero, List.getElem_cons_succ, List.setIfInBounds_toArray, List.set_cons_zero, List.set_cons_succ]
  refine wpAnyH_take (i := 9) (v := .string (xb ++ (⟨#[32, 37, 99, 108, 44, 32]⟩ : ByteArray) ++ x0)) rfl (by kernel_rfl) (by kernel_rfl) (by kernel_rfl) (fun _ _ _ h => h) (Or.inl ⟨by rfl, fun V hV => by obtain ⟨h99, h2, h4⟩ := hV; go_simp; try omega⟩) hS.out ?_
  simp only [Act.put, List.getElem_toArray, List.getElem_cons_zero, List.getElem_cons_succ, List.setIfInBounds_toArray, List.set_cons_zero, List.set_cons_succ]
  refine wpAnyH_take (i := 10) (v := .string (xb ++ (⟨#[32, 37, 99, 108, 44, 32]⟩ : ByteArray) ++ x0)) rfl (by kernel_rfl) (by kernel_rfl) (by kernel_rfl) (fun _ _ _ h => h) (Or.inl ⟨by rfl, fun V hV => by obtain ⟨h99, h2, h4⟩ := hV; go_simp; try omega⟩) hS.out ?_
  simp only [Act.put, List.getElem_toArray, List.getElem_cons_zero, List.getElem_cons_succ, List.setIfInBounds_toArray, List.set_cons_zero, List.set_cons_succ]
  refine wpAnyH_done (by kernel_rfl) ?_ _
  clear hS
  go_wp2
  go_ret
  exact ⟨ret_str (by simp [bt, lblT, hXL.out, hX0.out, hXB.out]), hbw.out⟩
set_option maxRecDepth 100000 in
set_option maxHeartbeats 8000000 in
theorem rl8_any (bn sh cd ds sr : Int) (im : Nat) (ba ix : Int) (hb hi : Bool) (dp lb : Int) (him : im < 18446744073709551616) (hds : 0 ≤ ds ∧ ds ≤ 15) (k : Nat) (hk : k < 6) (he : sh = (k : Int)) (hlb : 0 ≤ lb ∧ lb ≤ 1048576) (w : World) (hE : Env w) : Calls Tryz.prog 25 #[inV ⟨8, bn, sh, cd, ds, sr, im, ba, ix, hb, hi, dp, lb⟩] w (StrPost (bt (atW shfR sh ++ (32 :: (immT im ++ (44 :: 32 :: regT ds))))) w) := by
  subst he
  obtain ⟨W1, hW1⟩ : ∃ W1, w.alloc (.cells #[.int .i64 8, .int .i64 bn, .int .i64 (k : Int), .int .i64 cd, .int .i64 ds, .int .i64 sr, .int .u64 (im : Int), .int .i64 ba, .int .i64 ix, .bool hb, .bool hi, .int .i64 dp, .int .i64 lb] 32) = W1 := ⟨_, rfl⟩
  have hb1 : Below w.heap.size w W1 := by rw [← hW1]; exact below_new w _
  have hx1 : W1.heap[w.heap.size]? = some (.cells #[.int .i64 8, .int .i64 bn, .int .i64 (k : Int), .int .i64 cd, .int .i64 ds, .int .i64 sr, .int .u64 (im : Int), .int .i64 ba, .int .i64 ix, .bool hb, .bool hi, .int .i64 dp, .int .i64 lb] 32 (0, 0)) := by rw [← hW1]; exact heap_alloc_new _ _
  have hE1 := hE.below hb1
  have hit := itoa51 lb hlb W1 hE1
  have lL := itoa_sz lb hlb
  obtain ⟨xl, hxl⟩ : ∃ s, bt (Lib.itoa lb) = s := ⟨_, rfl⟩
  rw [hxl] at hit lL
  have hXL := Lib.hid (show xl.data.toList = Lib.itoa lb from by rw [← hxl]; rfl)
  clear hxl
  have hr0 := Lib.hid (fun (W : World) (hE : Env W) => rimm54_any im him W hE)
  have l0 := immT_sz im him
  unfold StrPost at hr0
  obtain ⟨x0, hx0'⟩ : ∃ s, bt (immT im) = s := ⟨_, rfl⟩
  rw [hx0'] at hr0 l0
  have hX0 := Lib.hid (show x0.data.toList = immT im from by rw [← hx0']; rfl)
  clear hx0'
  have hr1 := Lib.hid (fun (W : World) (hE : Env W) => rreg47_any ds hds W)
  have l1 := regT_len ds
  unfold StrPost at hr1
  obtain ⟨x1, hx1'⟩ : ∃ s, bt (regT ds) = s := ⟨_, rfl⟩
  rw [hx1'] at hr1 l1
  have hX1 := Lib.hid (show x1.data.toList = regT ds from by rw [← hx1']; rfl)
  clear hx1'
  have hcell := Lib.hid (fun (W : World) => lis_cell (w := W) (at_get (L := shfR) (k := k) hk))
  have hsz : (bt (atW shfR (k : Int))).size ≤ 10 := by rw [bt_size]; exact shfR_le (k : Int)
  obtain ⟨xb, hxb⟩ : ∃ x, bt (atW shfR (k : Int)) = x := ⟨_, rfl⟩
  rw [hxb] at hcell hsz
  have hXB := Lib.hid (show xb.data.toList = atW shfR (k : Int) from by rw [← hxb]; rfl)
  have e1 : (0 : Int) ≤ (k : Int) := by omega
  have e2 : (k : Int) < 6 := by omega
  clear hxb
  have hbw := Lib.hid hb1
  have hx := Lib.hid hx1
  have hE2 := Lib.hid hE1
  have hit := Lib.hid hit
  have hW1' := Lib.hid hW1
  clear hb1 hx1 hE1 hE hW1 hlb hk
  unfold inV inC
  obtain ⟨g0, g1, g2, g3, g4, g5, g6, g7, g8, g9, g10, g11, g12⟩ := box13 hx.out
  go_enter Tryz.func25, Tryz.ntmps25
  go_wp2_with fail
  rw [hW1'.out]
  refine hit.out.mono ?_
  rintro e w2 ⟨rfl, hb2⟩
  have hx := Lib.hid ((hb2.block _ (blk_lt hx.out)).trans hx.out)
  have hE2 := Lib.hid (hE2.out.below hb2)
  have hbw := Lib.hid (Below.next hbw.out hb2)
  clear hb2 g0 g1 g2 g3 g4 g5 g6 g7 g8 g9 g10 g11 g12
  obtain ⟨g0, g1, g2, g3, g4, g5, g6, g7, g8, g9, g10, g11, g12⟩ := box13 hx.out
  go_wp2_with fail
  have hcl : Calls Tryz.prog 55 #[] w2.drew fun e w' => e = .returned (.slice (some ⟨w2.heap.size, 0, none⟩) 6 6) ∧ w'.cell? ⟨w2.heap.size, k, none⟩ = some (.string xb) ∧ w'.heap[w.heap.size]? = some (.cells #[.int .i64 8, .int .i64 bn, .int .i64 (k : Int), .int .i64 cd, .int .i64 ds, .int .i64 sr, .int .u64 (im : Int), .int .i64 ba, .int .i64 ix, .bool hb, .bool hi, .int .i64 dp, .int .i64 lb] 32 (0, 0)) ∧ Env w' ∧ Below w.heap.size w w' := (rshifts_any w2.drew).mono fun e w' h => by
    obtain ⟨h1, h2⟩ := h
    have hb4 : Below w2.heap.size w2 w' := by rw [h2]; exact (Below.refl _ _).drew.alloc (Nat.le_refl _) _
    have hc4 := hcell.out w2.drew
    rw [← h2] at hc4
    exact ⟨h1, hc4, (hb4.block _ (blk_lt hx.out)).trans hx.out, hE2.out.below hb4, Below.next hbw.out hb4⟩
  have hcl := Lib.hid hcl
  clear g0 g1 g2 g3 g4 g5 g6 g7 g8 g9 g10 g11 g12
  have hx := Lib.hid (show w2.drew.heap[w.heap.size]? = some (.cells #[.int .i64 8, .int .i64 bn, .int .i64 (k : Int), .int .i64 cd, .int .i64 ds, .int .i64 sr, .int .u64 (im : Int), .int .i64 ba, .int .i64 ix, .bool hb, .bool hi, .int .i64 dp, .int .i64 lb] 32 (0, 0)) from hx.out)
  refine wp_region_held (S := fun W => W.cell? ⟨w.heap.size, 2, none⟩ = some (.int .i64 (k : Int)) ∧ W.cell? ⟨w.heap.size, 4, none⟩ = some (.int .i64 ds) ∧ W.cell? ⟨w.heap.size, 6, none⟩ = some (.int .u64 (im : Int))) (by kernel_rfl) ?_
  have hS : (fun W : World => W.cell? ⟨w.heap.size, 2, none⟩ = some (.int .i64 (k : Int)) ∧ W.cell? ⟨w.heap.size, 4, none⟩ = some (.int .i64 ds) ∧ W.cell? ⟨w.heap.size, 6, none⟩ = some (.int .u64 (im : Int))) w2.drew := ⟨(box13 hx.out).2.2.1, (box13 hx.out).2.2.2.2.1, (box13 hx.out).2.2.2.2.2.2.1⟩
  have hS := Lib.hid hS
  refine wpAnyH_take (i := 1) (v := .pointer (some ⟨w.heap.size, 2, none⟩)) rfl (by kernel_rfl) (by kernel_rfl) (by kernel_rfl) (fun _ _ _ h => h) (Or.inl ⟨by rfl, fun V hV => by obtain ⟨h2, h4, h6⟩ := hV; go_simp⟩) hS.out ?_
  simp only [Act.put, List.getElem_toArray, List.getElem_cons_zero, List.getElem_cons_succ, List.setIfInBounds_toArray, List.set_cons_zero, List.set_cons_succ]
  refine wpAnyH_take (i := 2) (v := .int .i64 (k : Int)) rfl (by kernel_rfl) (by kernel_rfl) (by kernel_rfl) (fun _ _ _ h => h) (Or.inl ⟨by rfl, fun V hV => by obtain ⟨h2, h4, h6⟩ := hV; go_simp⟩) hS.out ?_
  simp only [Act.put, List.getElem_toArray, List.getElem_cons_zero, List.getElem_cons_succ, List.setIfInBounds_toArray, List.set_cons_zero, List.set_cons_succ]
  refine wpAnyH_take (i := 6) (v := .pointer (some ⟨w.heap.size, 6, none⟩)) rfl (by kernel_rfl) (by kernel_rfl) (by kernel_rfl) (fun _ _ _ h => h) (Or.inl ⟨by rfl, fun V hV => by obtain ⟨h2, h4, h6⟩ := hV; go_simp⟩) hS.out ?_
  simp only [Act.put, List.getElem_toArray, List.getElem_cons_zero, List.getElem_cons_succ, List.setIfInBounds_toArray, List.set_cons_zero, List.set_cons_succ]
  refine wpAnyH_take (i := 7) (v := .int .u64 (im : Int)) rfl (by kernel_rfl) (by kernel_rfl) (by kernel_rfl) (fun _ _ _ h => h) (Or.inl ⟨by rfl, fun V hV => by obtain ⟨h2, h4, h6⟩ := hV; go_simp⟩) hS.out ?_
  simp only [Act.put, List.getElem_toArray, List.getElem_cons_zero, List.getElem_cons_succ, List.setIfInBounds_toArray, List.set_cons_zero, List.set_cons_succ]
  refine wpAnyH_take (i := 11) (v := .pointer (some ⟨w.heap.size, 4, none⟩)) rfl (by kernel_rfl) (by kernel_rfl) (by kernel_rfl) (fun _ _ _ h => h) (Or.inl ⟨by rfl, fun V hV => by obtain ⟨h2, h4, h6⟩ := hV; go_simp⟩) hS.out ?_
  simp only [Act.put, List.getElem_toArray, List.getElem_cons_zero, List.getElem_cons_succ, List.setIfInBounds_toArray, List.set_cons_zero, List.set_cons_succ]
  refine wpAnyH_take (i := 12) (v := .int .i64 ds) rfl (by kernel_rfl) (by kernel_rfl) (by kernel_rfl) (fun _ _ _ h => h) (Or.inl ⟨by rfl, fun V hV => by obtain ⟨h2, h4, h6⟩ := hV; go_simp⟩) hS.out ?_
  simp only [Act.put, List.getElem_toArray, List.getElem_cons_zero, List.getElem_cons_succ, List.setIfInBounds_toArray, List.set_cons_zero, List.set_cons_succ]
  refine wpAnyH_all (rs := [0]) (by kernel_rfl) (by simp) ?_
  intro ii hii
  rcases (by simpa using hii : ii = 0) with rfl
  refine wpOp_call (f := 55) (args := #[]) rfl (by rfl) (by go_simp) hcl.out ?_
  rintro e w4 ⟨rfl, hc2, hx4, hE4, hb4⟩
  have hx := Lib.hid hx4
  have hE2 := Lib.hid hE4
  have hbw := Lib.hid hb4
  clear hE4 hb4 hS
  refine ⟨_, rfl, ⟨(box13 hx.out).2.2.1, (box13 hx.out).2.2.2.2.1, (box13 hx.out).2.2.2.2.2.2.1⟩, ?_⟩
  simp only [Act.put, List.getElem_toArray, List.getElem_cons_zero, List.getElem_cons_succ, List.setIfInBounds_toArray, List.set_cons_zero, List.set_cons_succ]
  refine wpAnyH_more (S' := fun W => W.cell? ⟨w2.heap.size, k, none⟩ = some (.string xb) ∧ W.cell? ⟨w.heap.size, 2, none⟩ = some (.int .i64 (k : Int)) ∧ W.cell? ⟨w.heap.size, 4, none⟩ = some (.int .i64 ds) ∧ W.cell? ⟨w.heap.size, 6, none⟩ = some (.int .u64 (im : Int))) (fun _ h => h.2) _ _ _ _ ?_
  have hS := Lib.hid (show (fun W : World => W.cell? ⟨w2.heap.size, k, none⟩ = some (.string xb) ∧ W.cell? ⟨w.heap.size, 2, none⟩ = some (.int .i64 (k : Int)) ∧ W.cell? ⟨w.heap.size, 4, none⟩ = some (.int .i64 ds) ∧ W.cell? ⟨w.heap.size, 6, none⟩ = some (.int .u64 (im : Int))) w4 from ⟨hc2, ⟨(box13 hx.out).2.2.1, (box13 hx.out).2.2.2.2.1, (box13 hx.out).2.2.2.2.2.2.1⟩⟩)
  clear hc2 hx4
  refine wpAnyH_take (i := 3) (v := .pointer (some ⟨w2.heap.size, k, none⟩)) rfl (by kernel_rfl) (by kernel_rfl) (by kernel_rfl) (fun _ _ _ h => h) (Or.inl ⟨by rfl, fun V hV => by obtain ⟨h99, h2, h4, h6⟩ := hV; go_simp⟩) hS.out ?_
  simp only [Act.put, List.getElem_toArray, List.getElem_cons_zero, List.getElem_cons_succ, List.setIfInBounds_toArray, List.set_cons_zero, List.set_cons_succ]
  refine wpAnyH_take (i := 4) (v := .string (xb)) rfl (by kernel_rfl) (by kernel_rfl) (by kernel_rfl) (fun _ _ _ h => h) (Or.inl ⟨by rfl, fun V hV => by obtain ⟨h99, h2, h4, h6⟩ := hV; go_simp⟩) hS.out ?_
  simp only [Act.put, List.getElem_toArray, List.getElem_cons_zero, List.getElem_cons_succ, List.setIfInBounds_toArray, List.set_cons_zero, List.set_cons_succ]
  refine wpAnyH_take (i := 5) (v := .string (xb ++ (⟨#[32]⟩ : ByteArray))) rfl (by kernel_rfl) (by kernel_rfl) (by kernel_rfl) (fun _ _ _ h => h) (Or.inl ⟨by rfl, fun V hV => by obtain ⟨h99, h2, h4, h6⟩ := hV; go_simp; try omega⟩) hS.out ?_
  simp only [Act.put, List.getElem_toArray, List.getElem_cons_zero, List.getElem_cons_succ, List.setIfInBounds_toArray, List.set_cons_zero, List.set_cons_succ]
  refine wpAnyH_all (rs := [8]) (by kernel_rfl) (by simp) ?_
  intro ii hii
  rcases (by simpa using hii : ii = 8) with rfl
  refine wpOp_call (f := 54) (args := #[.int .u64 (im : Int)]) rfl (by rfl) (by go_simp) (hr0.out _ hE2.out) ?_
  rintro e w5 ⟨rfl, hb5⟩
  have hS := Lib.hid (show (fun W : World => W.cell? ⟨w2.heap.size, k, none⟩ = some (.string xb) ∧ W.cell? ⟨w.heap.size, 2, none⟩ = some (.int .i64 (k : Int)) ∧ W.cell? ⟨w.heap.size, 4, none⟩ = some (.int .i64 ds) ∧ W.cell? ⟨w.heap.size, 6, none⟩ = some (.int .u64 (im : Int))) w5 from by obtain ⟨h99, h2, h4, h6⟩ := hS.out; exact ⟨keepc hb5 h99, keepc hb5 h2, keepc hb5 h4, keepc hb5 h6⟩)
  have hE2 := Lib.hid (hE2.out.below hb5)
  have hbw := Lib.hid (Below.next hbw.out hb5)
  clear hb5
  refine ⟨_, rfl, hS.out, ?_⟩
  simp only [Act.put, List.getElem_toArray, List.getElem_cons_zero, List.getElem_cons_succ, List.setIfInBounds_toArray, List.set_cons_zero, List.set_cons_succ]
  refine wpAnyH_take (i := 9) (v := .string (xb ++ (⟨#[32]⟩ : ByteArray) ++ x0)) rfl (by kernel_rfl) (by kernel_rfl) (by kernel_rfl) (fun _ _ _ h => h) (Or.inl ⟨by rfl, fun V hV => by obtain ⟨h99, h2, h4, h6⟩ := hV; go_simp; try omega⟩) hS.out ?_
  simp only [Act.put, List.getElem_toArray, List.getElem_cons_zero, List.getElem_cons_succ, List.setIfInBounds_toArray, List.set_cons_zero, List.set_cons_succ]
  refine wpAnyH_take (i := 10) (v := .string (xb ++ (⟨#[32]⟩ : ByteArray) ++ x0 ++ (⟨#[44, 32]⟩ : ByteArray))) rfl (by kernel_rfl) (by kernel_rfl) (by kernel_rfl) (fun _ _ _ h => h) (Or.inl ⟨by rfl, fun V hV => by obtain ⟨h99, h2, h4, h6⟩ := hV; go_simp; try omega⟩) hS.out ?_
  simp only [Act.put, List.getElem_toArray, List.getElem_cons_zero, List.getElem_cons_succ, List.setIfInBounds_toArray, List.set_cons_zero, List.set_cons_succ]
  refine wpAnyH_all (rs := [13]) (by kernel_rfl) (by simp) ?_
  intro ii hii
  rcases (by simpa using hii : ii = 13) with rfl
  refine wpOp_call (f := 47) (args := #[.int .i64 ds]) rfl (by rfl) (by go_simp) (hr1.out _ hE2.out) ?_
  rintro e w6 ⟨rfl, hb5⟩
  have hS := Lib.hid (show (fun W : World => W.cell? ⟨w2.heap.size, k, none⟩ = some (.string xb) ∧ W.cell? ⟨w.heap.size, 2, none⟩ = some (.int .i64 (k : Int)) ∧ W.cell? ⟨w.heap.size, 4, none⟩ = some (.int .i64 ds) ∧ W.cell? ⟨w.heap.size, 6, none⟩ = some (.int .u64 (im : Int))) w6 from by obtain ⟨h99, h2, h4, h6⟩ := hS.out; exact ⟨keepc hb5 h99, keepc hb5 h2, keepc hb5 h4, keepc hb5 h6⟩)
  have hE2 := Lib.hid (hE2.out.below hb5)
  have hbw := Lib.hid (Below.next hbw.out hb5)
  clear hb5
  refine ⟨_, rfl, hS.out, ?_⟩
  simp only [Act.put, List.getElem_toArray, List.getElem_cons_zero, List.getElem_cons_succ, List.setIfInBounds_toArray, List.set_cons_zero, List.set_cons_succ]
  refine wpAnyH_take (i := 14) (v := .string (xb ++ (⟨#[32]⟩ : ByteArray) ++ x0 ++ (⟨#[44, 32]⟩ : ByteArray) ++ x1)) rfl (by kernel_rfl) (by kernel_rfl) (by kernel_rfl) (fun _ _ _ h => h) (Or.inl ⟨by rfl, fun V hV => by obtain ⟨h99, h2, h4, h6⟩ := hV; go_simp; try omega⟩) hS.out ?_
  simp only [Act.put, List.getElem_toArray, List.getElem_cons_zero, List.getElem_cons_succ, List.setIfInBounds_toArray, List.set_cons_zero, List.set_cons_succ]
  refine wpAnyH_take (i := 15) (v := .string (xb ++ (⟨#[32]⟩ : ByteArray) ++ x0 ++ (⟨#[44, 32]⟩ : ByteArray) ++ x1)) rfl (by kernel_rfl) (by kernel_rfl) (by kernel_rfl) (fun _ _ _ h => h) (Or.inl ⟨by rfl, fun V hV => by obtain ⟨h99, h2, h4, h6⟩ := hV; go_simp; try omega⟩) hS.out ?_
  simp only [Act.put, List.getElem_toArray, List.getElem_cons_zero, List.getElem_cons_succ, List.setIfInBounds_toArray, List.set_cons_zero, List.set_cons_succ]
  refine wpAnyH_done (by kernel_rfl) ?_ _
  clear hS
  go_wp2
  go_ret
  exact ⟨ret_str (by simp [bt, lblT, hXL.out, hX0.out, hX1.out, hXB.out]), hbw.out⟩
set_option maxRecDepth 100000 in
set_option maxHeartbeats 8000000 in
theorem rl9_any (bn sh cd ds sr : Int) (im : Nat) (ba ix : Int) (hb hi : Bool) (dp lb : Int) (hds : 0 ≤ ds ∧ ds ≤ 15) (hlb : 0 ≤ lb ∧ lb ≤ 1048576) (w : World) (hE : Env w) : Calls Tryz.prog 25 #[inV ⟨9, bn, sh, cd, ds, sr, im, ba, ix, hb, hi, dp, lb⟩] w (StrPost (bt (110 :: 111 :: 116 :: 113 :: 32 :: regT ds)) w) := by
  obtain ⟨W1, hW1⟩ : ∃ W1, w.alloc (.cells #[.int .i64 9, .int .i64 bn, .int .i64 sh, .int .i64 cd, .int .i64 ds, .int .i64 sr, .int .u64 (im : Int), .int .i64 ba, .int .i64 ix, .bool hb, .bool hi, .int .i64 dp, .int .i64 lb] 32) = W1 := ⟨_, rfl⟩
  have hb1 : Below w.heap.size w W1 := by rw [← hW1]; exact below_new w _
  have hx1 : W1.heap[w.heap.size]? = some (.cells #[.int .i64 9, .int .i64 bn, .int .i64 sh, .int .i64 cd, .int .i64 ds, .int .i64 sr, .int .u64 (im : Int), .int .i64 ba, .int .i64 ix, .bool hb, .bool hi, .int .i64 dp, .int .i64 lb] 32 (0, 0)) := by rw [← hW1]; exact heap_alloc_new _ _
  have hE1 := hE.below hb1
  have hit := itoa51 lb hlb W1 hE1
  have lL := itoa_sz lb hlb
  obtain ⟨xl, hxl⟩ : ∃ s, bt (Lib.itoa lb) = s := ⟨_, rfl⟩
  rw [hxl] at hit lL
  have hXL := Lib.hid (show xl.data.toList = Lib.itoa lb from by rw [← hxl]; rfl)
  clear hxl
  have hr0 := Lib.hid (fun (W : World) (hE : Env W) => rreg47_any ds hds W)
  have l0 := regT_len ds
  unfold StrPost at hr0
  obtain ⟨x0, hx0'⟩ : ∃ s, bt (regT ds) = s := ⟨_, rfl⟩
  rw [hx0'] at hr0 l0
  have hX0 := Lib.hid (show x0.data.toList = regT ds from by rw [← hx0']; rfl)
  clear hx0'
  have hbw := Lib.hid hb1
  have hx := Lib.hid hx1
  have hE2 := Lib.hid hE1
  have hit := Lib.hid hit
  have hW1' := Lib.hid hW1
  clear hb1 hx1 hE1 hE hW1 hlb
  unfold inV inC
  obtain ⟨g0, g1, g2, g3, g4, g5, g6, g7, g8, g9, g10, g11, g12⟩ := box13 hx.out
  go_enter Tryz.func25, Tryz.ntmps25
  go_wp2_with fail
  rw [hW1'.out]
  refine hit.out.mono ?_
  rintro e w2 ⟨rfl, hb2⟩
  have hx := Lib.hid ((hb2.block _ (blk_lt hx.out)).trans hx.out)
  have hE2 := Lib.hid (hE2.out.below hb2)
  have hbw := Lib.hid (Below.next hbw.out hb2)
  clear hb2 g0 g1 g2 g3 g4 g5 g6 g7 g8 g9 g10 g11 g12
  obtain ⟨g0, g1, g2, g3, g4, g5, g6, g7, g8, g9, g10, g11, g12⟩ := box13 hx.out
  go_wp2_with fail
  refine (hr0.out _ hE2.out).mono ?_
  rintro e w4 ⟨rfl, hb4⟩
  have hbw := Lib.hid (Below.next hbw.out hb4)
  clear hb4 g0 g1 g2 g3 g4 g5 g6 g7 g8 g9 g10 g11 g12
  go_wp2
  go_ret
  exact ⟨ret_str (by simp [bt, lblT, hXL.out, hX0.out]), hbw.out⟩
set_option maxRecDepth 100000 in
set_option maxHeartbeats 8000000 in
theorem rl10_any (bn sh cd ds sr : Int) (im : Nat) (ba ix : Int) (hb hi : Bool) (dp lb : Int) (hds : 0 ≤ ds ∧ ds ≤ 15) (hlb : 0 ≤ lb ∧ lb ≤ 1048576) (w : World) (hE : Env w) : Calls Tryz.prog 25 #[inV ⟨10, bn, sh, cd, ds, sr, im, ba, ix, hb, hi, dp, lb⟩] w (StrPost (bt (110 :: 101 :: 103 :: 113 :: 32 :: regT ds)) w) := by
  obtain ⟨W1, hW1⟩ : ∃ W1, w.alloc (.cells #[.int .i64 10, .int .i64 bn, .int .i64 sh, .int .i64 cd, .int .i64 ds, .int .i64 sr, .int .u64 (im : Int), .int .i64 ba, .int .i64 ix, .bool hb, .bool hi, .int .i64 dp, .int .i64 lb] 32) = W1 := ⟨_, rfl⟩
  have hb1 : Below w.heap.size w W1 := by rw [← hW1]; exact below_new w _
  have hx1 : W1.heap[w.heap.size]? = some (.cells #[.int .i64 10, .int .i64 bn, .int .i64 sh, .int .i64 cd, .int .i64 ds, .int .i64 sr, .int .u64 (im : Int), .int .i64 ba, .int .i64 ix, .bool hb, .bool hi, .int .i64 dp, .int .i64 lb] 32 (0, 0)) := by rw [← hW1]; exact heap_alloc_new _ _
  have hE1 := hE.below hb1
  have hit := itoa51 lb hlb W1 hE1
  have lL := itoa_sz lb hlb
  obtain ⟨xl, hxl⟩ : ∃ s, bt (Lib.itoa lb) = s := ⟨_, rfl⟩
  rw [hxl] at hit lL
  have hXL := Lib.hid (show xl.data.toList = Lib.itoa lb from by rw [← hxl]; rfl)
  clear hxl
  have hr0 := Lib.hid (fun (W : World) (hE : Env W) => rreg47_any ds hds W)
  have l0 := regT_len ds
  unfold StrPost at hr0
  obtain ⟨x0, hx0'⟩ : ∃ s, bt (regT ds) = s := ⟨_, rfl⟩
  rw [hx0'] at hr0 l0
  have hX0 := Lib.hid (show x0.data.toList = regT ds from by rw [← hx0']; rfl)
  clear hx0'
  have hbw := Lib.hid hb1
  have hx := Lib.hid hx1
  have hE2 := Lib.hid hE1
  have hit := Lib.hid hit
  have hW1' := Lib.hid hW1
  clear hb1 hx1 hE1 hE hW1 hlb
  unfold inV inC
  obtain ⟨g0, g1, g2, g3, g4, g5, g6, g7, g8, g9, g10, g11, g12⟩ := box13 hx.out
  go_enter Tryz.func25, Tryz.ntmps25
  go_wp2_with fail
  rw [hW1'.out]
  refine hit.out.mono ?_
  rintro e w2 ⟨rfl, hb2⟩
  have hx := Lib.hid ((hb2.block _ (blk_lt hx.out)).trans hx.out)
  have hE2 := Lib.hid (hE2.out.below hb2)
  have hbw := Lib.hid (Below.next hbw.out hb2)
  clear hb2 g0 g1 g2 g3 g4 g5 g6 g7 g8 g9 g10 g11 g12
  obtain ⟨g0, g1, g2, g3, g4, g5, g6, g7, g8, g9, g10, g11, g12⟩ := box13 hx.out
  go_wp2_with fail
  refine (hr0.out _ hE2.out).mono ?_
  rintro e w4 ⟨rfl, hb4⟩
  have hbw := Lib.hid (Below.next hbw.out hb4)
  clear hb4 g0 g1 g2 g3 g4 g5 g6 g7 g8 g9 g10 g11 g12
  go_wp2
  go_ret
  exact ⟨ret_str (by simp [bt, lblT, hXL.out, hX0.out]), hbw.out⟩
set_option maxRecDepth 100000 in
set_option maxHeartbeats 8000000 in
theorem rl11_any (bn sh cd ds sr : Int) (im : Nat) (ba ix : Int) (hb hi : Bool) (dp lb : Int) (hsr : 0 ≤ sr ∧ sr ≤ 15) (hds : 0 ≤ ds ∧ ds ≤ 15) (hlb : 0 ≤ lb ∧ lb ≤ 1048576) (w : World) (hE : Env w) : Calls Tryz.prog 25 #[inV ⟨11, bn, sh, cd, ds, sr, im, ba, ix, hb, hi, dp, lb⟩] w (StrPost (bt (99 :: 109 :: 112 :: 113 :: 32 :: (regT sr ++ (44 :: 32 :: regT ds)))) w) := by
  obtain ⟨W1, hW1⟩ : ∃ W1, w.alloc (.cells #[.int .i64 11, .int .i64 bn, .int .i64 sh, .int .i64 cd, .int .i64 ds, .int .i64 sr, .int .u64 (im : Int), .int .i64 ba, .int .i64 ix, .bool hb, .bool hi, .int .i64 dp, .int .i64 lb] 32) = W1 := ⟨_, rfl⟩
  have hb1 : Below w.heap.size w W1 := by rw [← hW1]; exact below_new w _
  have hx1 : W1.heap[w.heap.size]? = some (.cells #[.int .i64 11, .int .i64 bn, .int .i64 sh, .int .i64 cd, .int .i64 ds, .int .i64 sr, .int .u64 (im : Int), .int .i64 ba, .int .i64 ix, .bool hb, .bool hi, .int .i64 dp, .int .i64 lb] 32 (0, 0)) := by rw [← hW1]; exact heap_alloc_new _ _
  have hE1 := hE.below hb1
  have hit := itoa51 lb hlb W1 hE1
  have lL := itoa_sz lb hlb
  obtain ⟨xl, hxl⟩ : ∃ s, bt (Lib.itoa lb) = s := ⟨_, rfl⟩
  rw [hxl] at hit lL
  have hXL := Lib.hid (show xl.data.toList = Lib.itoa lb from by rw [← hxl]; rfl)
  clear hxl
  have hr0 := Lib.hid (fun (W : World) (hE : Env W) => rreg47_any sr hsr W)
  have l0 := regT_len sr
  unfold StrPost at hr0
  obtain ⟨x0, hx0'⟩ : ∃ s, bt (regT sr) = s := ⟨_, rfl⟩
  rw [hx0'] at hr0 l0
  have hX0 := Lib.hid (show x0.data.toList = regT sr from by rw [← hx0']; rfl)
  clear hx0'
  have hr1 := Lib.hid (fun (W : World) (hE : Env W) => rreg47_any ds hds W)
  have l1 := regT_len ds
  unfold StrPost at hr1
  obtain ⟨x1, hx1'⟩ : ∃ s, bt (regT ds) = s := ⟨_, rfl⟩
  rw [hx1'] at hr1 l1
  have hX1 := Lib.hid (show x1.data.toList = regT ds from by rw [← hx1']; rfl)
  clear hx1'
  have hbw := Lib.hid hb1
  have hx := Lib.hid hx1
  have hE2 := Lib.hid hE1
  have hit := Lib.hid hit
  have hW1' := Lib.hid hW1
  clear hb1 hx1 hE1 hE hW1 hlb
  unfold inV inC
  obtain ⟨g0, g1, g2, g3, g4, g5, g6, g7, g8, g9, g10, g11, g12⟩ := box13 hx.out
  go_enter Tryz.func25, Tryz.ntmps25
  go_wp2_with fail
  rw [hW1'.out]
  refine hit.out.mono ?_
  rintro e w2 ⟨rfl, hb2⟩
  have hx := Lib.hid ((hb2.block _ (blk_lt hx.out)).trans hx.out)
  have hE2 := Lib.hid (hE2.out.below hb2)
  have hbw := Lib.hid (Below.next hbw.out hb2)
  clear hb2 g0 g1 g2 g3 g4 g5 g6 g7 g8 g9 g10 g11 g12
  obtain ⟨g0, g1, g2, g3, g4, g5, g6, g7, g8, g9, g10, g11, g12⟩ := box13 hx.out
  have c4 := Sub.cell g4
  have c5 := Sub.cell g5
  have s0 := Lib.hid (fun s : Sub w2 => hr0.out s.val (hE2.out.below s.property))
  have s1 := Lib.hid (fun s : Sub w2 => hr1.out s.val (hE2.out.below s.property))
  go_wp2_with fail
  refine wp_region_below (by kernel_rfl) (by kernel_rfl) ?_
  repeat (go_big_quiet_step ((first | (go_at_call 47; with_reducible exact Sub.call (s0.out _)) | (go_at_call 47; with_reducible exact Sub.call (s1.out _)))))
  refine wpQuiet_nil ?_
  rintro w4 ⟨z4, hz4⟩
  have hb4 := hz4 ▸ z4.property
  have hbw := Lib.hid (Below.next hbw.out hb4)
  clear hz4 hb4 g0 g1 g2 g3 g4 g5 g6 g7 g8 g9 g10 g11 g12 c4 c5
  go_wp2
  go_ret
  exact ⟨ret_str (by simp [bt, lblT, hXL.out, hX0.out, hX1.out]), hbw.out⟩
set_option maxRecDepth 100000 in
set_option maxHeartbeats 8000000 in
theorem rl12_any (bn sh cd ds sr : Int) (im : Nat) (ba ix : Int) (hb hi : Bool) (dp lb : Int) (hsr : 0 ≤ sr ∧ sr ≤ 15) (hds : 0 ≤ ds ∧ ds ≤ 15) (hlb : 0 ≤ lb ∧ lb ≤ 1048576) (w : World) (hE : Env w) : Calls Tryz.prog 25 #[inV ⟨12, bn, sh, cd, ds, sr, im, ba, ix, hb, hi, dp, lb⟩] w (StrPost (bt (116 :: 101 :: 115 :: 116 :: 113 :: 32 :: (regT sr ++ (44 :: 32 :: regT ds)))) w) := by
  obtain ⟨W1, hW1⟩ : ∃ W1, w.alloc (.cells #[.int .i64 12, .int .i64 bn, .int .i64 sh, .int .i64 cd, .int .i64 ds, .int .i64 sr, .int .u64 (im : Int), .int .i64 ba, .int .i64 ix, .bool hb, .bool hi, .int .i64 dp, .int .i64 lb] 32) = W1 := ⟨_, rfl⟩
  have hb1 : Below w.heap.size w W1 := by rw [← hW1]; exact below_new w _
  have hx1 : W1.heap[w.heap.size]? = some (.cells #[.int .i64 12, .int .i64 bn, .int .i64 sh, .int .i64 cd, .int .i64 ds, .int .i64 sr, .int .u64 (im : Int), .int .i64 ba, .int .i64 ix, .bool hb, .bool hi, .int .i64 dp, .int .i64 lb] 32 (0, 0)) := by rw [← hW1]; exact heap_alloc_new _ _
  have hE1 := hE.below hb1
  have hit := itoa51 lb hlb W1 hE1
  have lL := itoa_sz lb hlb
  obtain ⟨xl, hxl⟩ : ∃ s, bt (Lib.itoa lb) = s := ⟨_, rfl⟩
  rw [hxl] at hit lL
  have hXL := Lib.hid (show xl.data.toList = Lib.itoa lb from by rw [← hxl]; rfl)
  clear hxl
  have hr0 := Lib.hid (fun (W : World) (hE : Env W) => rreg47_any sr hsr W)
  have l0 := regT_len sr
  unfold StrPost at hr0
  obtain ⟨x0, hx0'⟩ : ∃ s, bt (regT sr) = s := ⟨_, rfl⟩
  rw [hx0'] at hr0 l0
  have hX0 := Lib.hid (show x0.data.toList = regT sr from by rw [← hx0']; rfl)
  clear hx0'
  have hr1 := Lib.hid (fun (W : World) (hE : Env W) => rreg47_any ds hds W)
  have l1 := regT_len ds
  unfold StrPost at hr1
  obtain ⟨x1, hx1'⟩ : ∃ s, bt (regT ds) = s := ⟨_, rfl⟩
  rw [hx1'] at hr1 l1
  have hX1 := Lib.hid (show x1.data.toList = regT ds from by rw [← hx1']; rfl)
  clear hx1'
  have hbw := Lib.hid hb1
  have hx := Lib.hid hx1
  have hE2 := Lib.hid hE1
  have hit := Lib.hid hit
  have hW1' := Lib.hid hW1
  clear hb1 hx1 hE1 hE hW1 hlb
  unfold inV inC
  obtain ⟨g0, g1, g2, g3, g4, g5, g6, g7, g8, g9, g10, g11, g12⟩ := box13 hx.out
  go_enter Tryz.func25, Tryz.ntmps25
  go_wp2_with fail
  rw [hW1'.out]
  refine hit.out.mono ?_
  rintro e w2 ⟨rfl, hb2⟩
  have hx := Lib.hid ((hb2.block _ (blk_lt hx.out)).trans hx.out)
  have hE2 := Lib.hid (hE2.out.below hb2)
  have hbw := Lib.hid (Below.next hbw.out hb2)
  clear hb2 g0 g1 g2 g3 g4 g5 g6 g7 g8 g9 g10 g11 g12
  obtain ⟨g0, g1, g2, g3, g4, g5, g6, g7, g8, g9, g10, g11, g12⟩ := box13 hx.out
  have c4 := Sub.cell g4
  have c5 := Sub.cell g5
  have s0 := Lib.hid (fun s : Sub w2 => hr0.out s.val (hE2.out.below s.property))
  have s1 := Lib.hid (fun s : Sub w2 => hr1.out s.val (hE2.out.below s.property))
  go_wp2_with fail
  refine wp_region_below (by kernel_rfl) (by kernel_rfl) ?_
  repeat (go_big_quiet_step ((first | (go_at_call 47; with_reducible exact Sub.call (s0.out _)) | (go_at_call 47; with_reducible exact Sub.call (s1.out _)))))
  refine wpQuiet_nil ?_
  rintro w4 ⟨z4, hz4⟩
  have hb4 := hz4 ▸ z4.property
  have hbw := Lib.hid (Below.next hbw.out hb4)
  clear hz4 hb4 g0 g1 g2 g3 g4 g5 g6 g7 g8 g9 g10 g11 g12 c4 c5
  go_wp2
  go_ret
  exact ⟨ret_str (by simp [bt, lblT, hXL.out, hX0.out, hX1.out]), hbw.out⟩
set_option maxRecDepth 100000 in
set_option maxHeartbeats 8000000 in
theorem rl13_any (bn sh cd ds sr : Int) (im : Nat) (ba ix : Int) (hb hi : Bool) (dp lb : Int) (him : im < 18446744073709551616) (hds : 0 ≤ ds ∧ ds ≤ 15) (hlb : 0 ≤ lb ∧ lb ≤ 1048576) (w : World) (hE : Env w) : Calls Tryz.prog 25 #[inV ⟨13, bn, sh, cd, ds, sr, im, ba, ix, hb, hi, dp, lb⟩] w (StrPost (bt (99 :: 109 :: 112 :: 113 :: 32 :: (immT im ++ (44 :: 32 :: regT ds)))) w) := by
  obtain ⟨W1, hW1⟩ : ∃ W1, w.alloc (.cells #[.int .i64 13, .int .i64 bn, .int .i64 sh, .int .i64 cd, .int .i64 ds, .int .i64 sr, .int .u64 (im : Int), .int .i64 ba, .int .i64 ix, .bool hb, .bool hi, .int .i64 dp, .int .i64 lb] 32) = W1 := ⟨_, rfl⟩
  have hb1 : Below w.heap.size w W1 := by rw [← hW1]; exact below_new w _
  have hx1 : W1.heap[w.heap.size]? = some (.cells #[.int .i64 13, .int .i64 bn, .int .i64 sh, .int .i64 cd, .int .i64 ds, .int .i64 sr, .int .u64 (im : Int), .int .i64 ba, .int .i64 ix, .bool hb, .bool hi, .int .i64 dp, .int .i64 lb] 32 (0, 0)) := by rw [← hW1]; exact heap_alloc_new _ _
  have hE1 := hE.below hb1
  have hit := itoa51 lb hlb W1 hE1
  have lL := itoa_sz lb hlb
  obtain ⟨xl, hxl⟩ : ∃ s, bt (Lib.itoa lb) = s := ⟨_, rfl⟩
  rw [hxl] at hit lL
  have hXL := Lib.hid (show xl.data.toList = Lib.itoa lb from by rw [← hxl]; rfl)
  clear hxl
  have hr0 := Lib.hid (fun (W : World) (hE : Env W) => rimm54_any im him W hE)
  have l0 := immT_sz im him
  unfold StrPost at hr0
  obtain ⟨x0, hx0'⟩ : ∃ s, bt (immT im) = s := ⟨_, rfl⟩
  rw [hx0'] at hr0 l0
  have hX0 := Lib.hid (show x0.data.toList = immT im from by rw [← hx0']; rfl)
  clear hx0'
  have hr1 := Lib.hid (fun (W : World) (hE : Env W) => rreg47_any ds hds W)
  have l1 := regT_len ds
  unfold StrPost at hr1
  obtain ⟨x1, hx1'⟩ : ∃ s, bt (regT ds) = s := ⟨_, rfl⟩
  rw [hx1'] at hr1 l1
  have hX1 := Lib.hid (show x1.data.toList = regT ds from by rw [← hx1']; rfl)
  clear hx1'
  have hbw := Lib.hid hb1
  have hx := Lib.hid hx1
  have hE2 := Lib.hid hE1
  have hit := Lib.hid hit
  have hW1' := Lib.hid hW1
  clear hb1 hx1 hE1 hE hW1 hlb
  unfold inV inC
  obtain ⟨g0, g1, g2, g3, g4, g5, g6, g7, g8, g9, g10, g11, g12⟩ := box13 hx.out
  go_enter Tryz.func25, Tryz.ntmps25
  go_wp2_with fail
  rw [hW1'.out]
  refine hit.out.mono ?_
  rintro e w2 ⟨rfl, hb2⟩
  have hx := Lib.hid ((hb2.block _ (blk_lt hx.out)).trans hx.out)
  have hE2 := Lib.hid (hE2.out.below hb2)
  have hbw := Lib.hid (Below.next hbw.out hb2)
  clear hb2 g0 g1 g2 g3 g4 g5 g6 g7 g8 g9 g10 g11 g12
  obtain ⟨g0, g1, g2, g3, g4, g5, g6, g7, g8, g9, g10, g11, g12⟩ := box13 hx.out
  have c4 := Sub.cell g4
  have c6 := Sub.cell g6
  have s0 := Lib.hid (fun s : Sub w2 => hr0.out s.val (hE2.out.below s.property))
  have s1 := Lib.hid (fun s : Sub w2 => hr1.out s.val (hE2.out.below s.property))
  go_wp2_with fail
  refine wp_region_below (by kernel_rfl) (by kernel_rfl) ?_
  repeat (go_big_quiet_step ((first | (go_at_call 54; with_reducible exact Sub.call (s0.out _)) | (go_at_call 47; with_reducible exact Sub.call (s1.out _)))))
  refine wpQuiet_nil ?_
  rintro w4 ⟨z4, hz4⟩
  have hb4 := hz4 ▸ z4.property
  have hbw := Lib.hid (Below.next hbw.out hb4)
  clear hz4 hb4 g0 g1 g2 g3 g4 g5 g6 g7 g8 g9 g10 g11 g12 c4 c6
  go_wp2
  go_ret
  exact ⟨ret_str (by simp [bt, lblT, hXL.out, hX0.out, hX1.out]), hbw.out⟩
set_option maxRecDepth 100000 in
set_option maxHeartbeats 8000000 in
theorem rl14_any (bn sh cd ds sr : Int) (im : Nat) (ba ix : Int) (hb hi : Bool) (dp lb : Int) (hds : 0 ≤ ds ∧ ds ≤ 15) (k : Nat) (hk : k < 16) (he : cd = (k : Int)) (hlb : 0 ≤ lb ∧ lb ≤ 1048576) (w : World) (hE : Env w) : Calls Tryz.prog 25 #[inV ⟨14, bn, sh, cd, ds, sr, im, ba, ix, hb, hi, dp, lb⟩] w (StrPost (bt (115 :: 101 :: 116 :: (atW cndW cd ++ (32 :: lowT ds)))) w) := by
  subst he
  obtain ⟨W1, hW1⟩ : ∃ W1, w.alloc (.cells #[.int .i64 14, .int .i64 bn, .int .i64 sh, .int .i64 (k : Int), .int .i64 ds, .int .i64 sr, .int .u64 (im : Int), .int .i64 ba, .int .i64 ix, .bool hb, .bool hi, .int .i64 dp, .int .i64 lb] 32) = W1 := ⟨_, rfl⟩
  have hb1 : Below w.heap.size w W1 := by rw [← hW1]; exact below_new w _
  have hx1 : W1.heap[w.heap.size]? = some (.cells #[.int .i64 14, .int .i64 bn, .int .i64 sh, .int .i64 (k : Int), .int .i64 ds, .int .i64 sr, .int .u64 (im : Int), .int .i64 ba, .int .i64 ix, .bool hb, .bool hi, .int .i64 dp, .int .i64 lb] 32 (0, 0)) := by rw [← hW1]; exact heap_alloc_new _ _
  have hE1 := hE.below hb1
  have hit := itoa51 lb hlb W1 hE1
  have lL := itoa_sz lb hlb
  obtain ⟨xl, hxl⟩ : ∃ s, bt (Lib.itoa lb) = s := ⟨_, rfl⟩
  rw [hxl] at hit lL
  have hXL := Lib.hid (show xl.data.toList = Lib.itoa lb from by rw [← hxl]; rfl)
  clear hxl
  have hr0 := Lib.hid (fun (W : World) (hE : Env W) => rlow57_any ds hds W)
  have l0 := lowT_len ds
  unfold StrPost at hr0
  obtain ⟨x0, hx0'⟩ : ∃ s, bt (lowT ds) = s := ⟨_, rfl⟩
  rw [hx0'] at hr0 l0
  have hX0 := Lib.hid (show x0.data.toList = lowT ds from by rw [← hx0']; rfl)
  clear hx0'
  have hcell := Lib.hid (fun (W : World) => lis_cell (w := W) (at_get (L := cndW) (k := k) hk))
  have hsz : (bt (atW cndW (k : Int))).size ≤ 10 := by rw [bt_size]; exact cndW_le (k : Int)
  obtain ⟨xb, hxb⟩ : ∃ x, bt (atW cndW (k : Int)) = x := ⟨_, rfl⟩
  rw [hxb] at hcell hsz
  have hXB := Lib.hid (show xb.data.toList = atW cndW (k : Int) from by rw [← hxb]; rfl)
  have e1 : (0 : Int) ≤ (k : Int) := by omega
  have e2 : (k : Int) < 16 := by omega
  clear hxb
  have hbw := Lib.hid hb1
  have hx := Lib.hid hx1
  have hE2 := Lib.hid hE1
  have hit := Lib.hid hit
  have hW1' := Lib.hid hW1
  clear hb1 hx1 hE1 hE hW1 hlb hk
  unfold inV inC
  obtain ⟨g0, g1, g2, g3, g4, g5, g6, g7, g8, g9, g10, g11, g12⟩ := box13 hx.out
  go_enter Tryz.func25, Tryz.ntmps25
  go_wp2_with fail
  rw [hW1'.out]
  refine hit.out.mono ?_
  rintro e w2 ⟨rfl, hb2⟩
  have hx := Lib.hid ((hb2.block _ (blk_lt hx.out)).trans hx.out)
  have hE2 := Lib.hid (hE2.out.below hb2)
  have hbw := Lib.hid (Below.next hbw.out hb2)
  clear hb2 g0 g1 g2 g3 g4 g5 g6 g7 g8 g9 g10 g11 g12
  obtain ⟨g0, g1, g2, g3, g4, g5, g6, g7, g8, g9, g10, g11, g12⟩ := box13 hx.out
  go_wp2_with fail
  have hcl : Calls Tryz.prog 56 #[] w2.drew fun e w' => e = .returned (.slice (some ⟨w2.heap.size, 0, none⟩) 16 16) ∧ w'.cell? ⟨w2.heap.size, k, none⟩ = some (.string xb) ∧ w'.heap[w.heap.size]? = some (.cells #[.int .i64 14, .int .i64 bn, .int .i64 sh, .int .i64 (k : Int), .int .i64 ds, .int .i64 sr, .int .u64 (im : Int), .int .i64 ba, .int .i64 ix, .bool hb, .bool hi, .int .i64 dp, .int .i64 lb] 32 (0, 0)) ∧ Env w' ∧ Below w.heap.size w w' := (rconds_any w2.drew).mono fun e w' h => by
    obtain ⟨h1, h2⟩ := h
    have hb4 : Below w2.heap.size w2 w' := by rw [h2]; exact (Below.refl _ _).drew.alloc (Nat.le_refl _) _
    have hc4 := hcell.out w2.drew
    rw [← h2] at hc4
    exact ⟨h1, hc4, (hb4.block _ (blk_lt hx.out)).trans hx.out, hE2.out.below hb4, Below.next hbw.out hb4⟩
  have hcl := Lib.hid hcl
  clear g0 g1 g2 g3 g4 g5 g6 g7 g8 g9 g10 g11 g12
  have hx := Lib.hid (show w2.drew.heap[w.heap.size]? = some (.cells #[.int .i64 14, .int .i64 bn, .int .i64 sh, .int .i64 (k : Int), .int .i64 ds, .int .i64 sr, .int .u64 (im : Int), .int .i64 ba, .int .i64 ix, .bool hb, .bool hi, .int .i64 dp, .int .i64 lb] 32 (0, 0)) from hx.out)
  refine wp_region_held (S := fun W => W.cell? ⟨w.heap.size, 3, none⟩ = some (.int .i64 (k : Int)) ∧ W.cell? ⟨w.heap.size, 4, none⟩ = some (.int .i64 ds)) (by kernel_rfl) ?_
  have hS : (fun W : World => W.cell? ⟨w.heap.size, 3, none⟩ = some (.int .i64 (k : Int)) ∧ W.cell? ⟨w.heap.size, 4, none⟩ = some (.int .i64 ds)) w2.drew := ⟨(box13 hx.out).2.2.2.1, (box13 hx.out).2.2.2.2.1⟩
  have hS := Lib.hid hS
  refine wpAnyH_take (i := 1) (v := .pointer (some ⟨w.heap.size, 3, none⟩)) rfl (by kernel_rfl) (by kernel_rfl) (by kernel_rfl) (fun _ _ _ h => h) (Or.inl ⟨by rfl, fun V hV => by obtain ⟨h3, h4⟩ := hV; go_simp⟩) hS.out ?_
  simp only [Act.put, List.getElem_toArray, List.getElem_cons_zero, List.getElem_cons_succ, List.setIfInBounds_toArray, List.set_cons_zero, List.set_cons_succ]
  refine wpAnyH_take (i := 2) (v := .int .i64 (k : Int)) rfl (by kernel_rfl) (by kernel_rfl) (by kernel_rfl) (fun _ _ _ h => h) (Or.inl ⟨by rfl, fun V hV => by obtain ⟨h3, h4⟩ := hV; go_simp⟩) hS.out ?_
  simp only [Act.put, List.getElem_toArray, List.getElem_cons_zero, List.getElem_cons_succ, List.setIfInBounds_toArray, List.set_cons_zero, List.set_cons_succ]
  refine wpAnyH_take (i := 7) (v := .pointer (some ⟨w.heap.size, 4, none⟩)) rfl (by kernel_rfl) (by kernel_rfl) (by kernel_rfl) (fun _ _ _ h => h) (Or.inl ⟨by rfl, fun V hV => by obtain ⟨h3, h4⟩ := hV; go_simp⟩) hS.out ?_
  simp only [Act.put, List.getElem_toArray, List.getElem_cons_zero, List.getElem_cons_succ, List.setIfInBounds_toArray, List.set_cons_zero, List.set_cons_succ]
  refine wpAnyH_take (i := 8) (v := .int .i64 ds) rfl (by kernel_rfl) (by kernel_rfl) (by kernel_rfl) (fun _ _ _ h => h) (Or.inl ⟨by rfl, fun V hV => by obtain ⟨h3, h4⟩ := hV; go_simp⟩) hS.out ?_
  simp only [Act.put, List.getElem_toArray, List.getElem_cons_zero, List.getElem_cons_succ, List.setIfInBounds_toArray, List.set_cons_zero, List.set_cons_succ]
  refine wpAnyH_all (rs := [0]) (by kernel_rfl) (by simp) ?_
  intro ii hii
  rcases (by simpa using hii : ii = 0) with rfl
  refine wpOp_call (f := 56) (args := #[]) rfl (by rfl) (by go_simp) hcl.out ?_
  rintro e w4 ⟨rfl, hc2, hx4, hE4, hb4⟩
  have hx := Lib.hid hx4
  have hE2 := Lib.hid hE4
  have hbw := Lib.hid hb4
  clear hE4 hb4 hS
  refine ⟨_, rfl, ⟨(box13 hx.out).2.2.2.1, (box13 hx.out).2.2.2.2.1⟩, ?_⟩
  simp only [Act.put, List.getElem_toArray, List.getElem_cons_zero, List.getElem_cons_succ, List.setIfInBounds_toArray, List.set_cons_zero, List.set_cons_succ]
  refine wpAnyH_more (S' := fun W => W.cell? ⟨w2.heap.size, k, none⟩ = some (.string xb) ∧ W.cell? ⟨w.heap.size, 3, none⟩ = some (.int .i64 (k : Int)) ∧ W.cell? ⟨w.heap.size, 4, none⟩ = some (.int .i64 ds)) (fun _ h => h.2) _ _ _ _ ?_
  have hS := Lib.hid (show (fun W : World => W.cell? ⟨w2.heap.size, k, none⟩ = some (.string xb) ∧ W.cell? ⟨w.heap.size, 3, none⟩ = some (.int .i64 (k : Int)) ∧ W.cell? ⟨w.heap.size, 4, none⟩ = some (.int .i64 ds)) w4 from ⟨hc2, ⟨(box13 hx.out).2.2.2.1, (box13 hx.out).2.2.2.2.1⟩⟩)
  clear hc2 hx4
  refine wpAnyH_take (i := 3) (v := .pointer (some ⟨w2.heap.size, k, none⟩)) rfl (by kernel_rfl) (by kernel_rfl) (by kernel_rfl) (fun _ _ _ h => h) (Or.inl ⟨by rfl, fun V hV => by obtain ⟨h99, h3, h4⟩ := hV; go_simp⟩) hS.out ?_
  simp only [Act.put, List.getElem_toArray, List.getElem_cons_zero, List.getElem_cons_succ, List.setIfInBounds_toArray, List.set_cons_zero, List.set_cons_succ]
  refine wpAnyH_take (i := 4) (v := .string (xb)) rfl (by kernel_rfl) (by kernel_rfl) (by kernel_rfl) (fun _ _ _ h => h) (Or.inl ⟨by rfl, fun V hV => by obtain ⟨h99, h3, h4⟩ := hV; go_simp⟩) hS.out ?_
  simp only [Act.put, List.getElem_toArray, List.getElem_cons_zero, List.getElem_cons_succ, List.setIfInBounds_toArray, List.set_cons_zero, List.set_cons_succ]
  refine wpAnyH_take (i := 5) (v := .string ((⟨#[115, 101, 116]⟩ : ByteArray) ++ xb)) rfl (by kernel_rfl) (by kernel_rfl) (by kernel_rfl) (fun _ _ _ h => h) (Or.inl ⟨by rfl, fun V hV => by obtain ⟨h99, h3, h4⟩ := hV; go_simp; try omega⟩) hS.out ?_
  simp only [Act.put, List.getElem_toArray, List.getElem_cons_zero, List.getElem_cons_succ, List.setIfInBounds_toArray, List.set_cons_zero, List.set_cons_succ]
  refine wpAnyH_take (i := 6) (v := .string ((⟨#[115, 101, 116]⟩ : ByteArray) ++ xb ++ (⟨#[32]⟩ : ByteArray))) rfl (by kernel_rfl) (by kernel_rfl) (by kernel_rfl) (fun _ _ _ h => h) (Or.inl ⟨by rfl, fun V hV => by obtain ⟨h99, h3, h4⟩ := hV; go_simp; try omega⟩) hS.out ?_
  simp only [Act.put, List.getElem_toArray, List.getElem_cons_zero, List.getElem_cons_succ, List.setIfInBounds_toArray, List.set_cons_zero, List.set_cons_succ]
  refine wpAnyH_all (rs := [9]) (by kernel_rfl) (by simp) ?_
  intro ii hii
  rcases (by simpa using hii : ii = 9) with rfl
  refine wpOp_call (f := 57) (args := #[.int .i64 ds]) rfl (by rfl) (by go_simp) (hr0.out _ hE2.out) ?_
  rintro e w5 ⟨rfl, hb5⟩
  have hS := Lib.hid (show (fun W : World => W.cell? ⟨w2.heap.size, k, none⟩ = some (.string xb) ∧ W.cell? ⟨w.heap.size, 3, none⟩ = some (.int .i64 (k : Int)) ∧ W.cell? ⟨w.heap.size, 4, none⟩ = some (.int .i64 ds)) w5 from by obtain ⟨h99, h3, h4⟩ := hS.out; exact ⟨keepc hb5 h99, keepc hb5 h3, keepc hb5 h4⟩)
  have hE2 := Lib.hid (hE2.out.below hb5)
  have hbw := Lib.hid (Below.next hbw.out hb5)
  clear hb5
  refine ⟨_, rfl, hS.out, ?_⟩
  simp only [Act.put, List.getElem_toArray, List.getElem_cons_zero, List.getElem_cons_succ, List.setIfInBounds_toArray, List.set_cons_zero, List.set_cons_succ]
  refine wpAnyH_take (i := 10) (v := .string ((⟨#[115, 101, 116]⟩ : ByteArray) ++ xb ++ (⟨#[32]⟩ : ByteArray) ++ x0)) rfl (by kernel_rfl) (by kernel_rfl) (by kernel_rfl) (fun _ _ _ h => h) (Or.inl ⟨by rfl, fun V hV => by obtain ⟨h99, h3, h4⟩ := hV; go_simp; try omega⟩) hS.out ?_
  simp only [Act.put, List.getElem_toArray, List.getElem_cons_zero, List.getElem_cons_succ, List.setIfInBounds_toArray, List.set_cons_zero, List.set_cons_succ]
  refine wpAnyH_take (i := 11) (v := .string ((⟨#[115, 101, 116]⟩ : ByteArray) ++ xb ++ (⟨#[32]⟩ : ByteArray) ++ x0)) rfl (by kernel_rfl) (by kernel_rfl) (by kernel_rfl) (fun _ _ _ h => h) (Or.inl ⟨by rfl, fun V hV => by obtain ⟨h99, h3, h4⟩ := hV; go_simp; try omega⟩) hS.out ?_
  simp only [Act.put, List.getElem_toArray, List.getElem_cons_zero, List.getElem_cons_succ, List.setIfInBounds_toArray, List.set_cons_zero, List.set_cons_succ]
  refine wpAnyH_done (by kernel_rfl) ?_ _
  clear hS
  go_wp2
  go_ret
  exact ⟨ret_str (by simp [bt, lblT, hXL.out, hX0.out, hXB.out]), hbw.out⟩
set_option maxRecDepth 100000 in
set_option maxHeartbeats 8000000 in
theorem rl15_any (bn sh cd ds sr : Int) (im : Nat) (ba ix : Int) (hb hi : Bool) (dp lb : Int) (hsr : 0 ≤ sr ∧ sr ≤ 15) (hds : 0 ≤ ds ∧ ds ≤ 15) (hlb : 0 ≤ lb ∧ lb ≤ 1048576) (w : World) (hE : Env w) : Calls Tryz.prog 25 #[inV ⟨15, bn, sh, cd, ds, sr, im, ba, ix, hb, hi, dp, lb⟩] w (StrPost (bt (109 :: 111 :: 118 :: 122 :: 98 :: 113 :: 32 :: (lowT sr ++ (44 :: 32 :: regT ds)))) w) := by
  obtain ⟨W1, hW1⟩ : ∃ W1, w.alloc (.cells #[.int .i64 15, .int .i64 bn, .int .i64 sh, .int .i64 cd, .int .i64 ds, .int .i64 sr, .int .u64 (im : Int), .int .i64 ba, .int .i64 ix, .bool hb, .bool hi, .int .i64 dp, .int .i64 lb] 32) = W1 := ⟨_, rfl⟩
  have hb1 : Below w.heap.size w W1 := by rw [← hW1]; exact below_new w _
  have hx1 : W1.heap[w.heap.size]? = some (.cells #[.int .i64 15, .int .i64 bn, .int .i64 sh, .int .i64 cd, .int .i64 ds, .int .i64 sr, .int .u64 (im : Int), .int .i64 ba, .int .i64 ix, .bool hb, .bool hi, .int .i64 dp, .int .i64 lb] 32 (0, 0)) := by rw [← hW1]; exact heap_alloc_new _ _
  have hE1 := hE.below hb1
  have hit := itoa51 lb hlb W1 hE1
  have lL := itoa_sz lb hlb
  obtain ⟨xl, hxl⟩ : ∃ s, bt (Lib.itoa lb) = s := ⟨_, rfl⟩
  rw [hxl] at hit lL
  have hXL := Lib.hid (show xl.data.toList = Lib.itoa lb from by rw [← hxl]; rfl)
  clear hxl
  have hr0 := Lib.hid (fun (W : World) (hE : Env W) => rlow57_any sr hsr W)
  have l0 := lowT_len sr
  unfold StrPost at hr0
  obtain ⟨x0, hx0'⟩ : ∃ s, bt (lowT sr) = s := ⟨_, rfl⟩
  rw [hx0'] at hr0 l0
  have hX0 := Lib.hid (show x0.data.toList = lowT sr from by rw [← hx0']; rfl)
  clear hx0'
  have hr1 := Lib.hid (fun (W : World) (hE : Env W) => rreg47_any ds hds W)
  have l1 := regT_len ds
  unfold StrPost at hr1
  obtain ⟨x1, hx1'⟩ : ∃ s, bt (regT ds) = s := ⟨_, rfl⟩
  rw [hx1'] at hr1 l1
  have hX1 := Lib.hid (show x1.data.toList = regT ds from by rw [← hx1']; rfl)
  clear hx1'
  have hbw := Lib.hid hb1
  have hx := Lib.hid hx1
  have hE2 := Lib.hid hE1
  have hit := Lib.hid hit
  have hW1' := Lib.hid hW1
  clear hb1 hx1 hE1 hE hW1 hlb
  unfold inV inC
  obtain ⟨g0, g1, g2, g3, g4, g5, g6, g7, g8, g9, g10, g11, g12⟩ := box13 hx.out
  go_enter Tryz.func25, Tryz.ntmps25
  go_wp2_with fail
  rw [hW1'.out]
  refine hit.out.mono ?_
  rintro e w2 ⟨rfl, hb2⟩
  have hx := Lib.hid ((hb2.block _ (blk_lt hx.out)).trans hx.out)
  have hE2 := Lib.hid (hE2.out.below hb2)
  have hbw := Lib.hid (Below.next hbw.out hb2)
  clear hb2 g0 g1 g2 g3 g4 g5 g6 g7 g8 g9 g10 g11 g12
  obtain ⟨g0, g1, g2, g3, g4, g5, g6, g7, g8, g9, g10, g11, g12⟩ := box13 hx.out
  have c4 := Sub.cell g4
  have c5 := Sub.cell g5
  have s0 := Lib.hid (fun s : Sub w2 => hr0.out s.val (hE2.out.below s.property))
  have s1 := Lib.hid (fun s : Sub w2 => hr1.out s.val (hE2.out.below s.property))
  go_wp2_with fail
  refine wp_region_below (by kernel_rfl) (by kernel_rfl) ?_
  repeat (go_big_quiet_step ((first | (go_at_call 57; with_reducible exact Sub.call (s0.out _)) | (go_at_call 47; with_reducible exact Sub.call (s1.out _)))))
  refine wpQuiet_nil ?_
  rintro w4 ⟨z4, hz4⟩
  have hb4 := hz4 ▸ z4.property
  have hbw := Lib.hid (Below.next hbw.out hb4)
  clear hz4 hb4 g0 g1 g2 g3 g4 g5 g6 g7 g8 g9 g10 g11 g12 c4 c5
  go_wp2
  go_ret
  exact ⟨ret_str (by simp [bt, lblT, hXL.out, hX0.out, hX1.out]), hbw.out⟩
set_option maxRecDepth 100000 in
set_option maxHeartbeats 8000000 in
theorem rl16_any (bn sh cd ds sr : Int) (im : Nat) (ba ix : Int) (hb hi : Bool) (dp lb : Int) (hsr : 0 ≤ sr ∧ sr ≤ 15) (hds : 0 ≤ ds ∧ ds ≤ 15) (k : Nat) (hk : k < 16) (he : cd = (k : Int)) (hlb : 0 ≤ lb ∧ lb ≤ 1048576) (w : World) (hE : Env w) : Calls Tryz.prog 25 #[inV ⟨16, bn, sh, cd, ds, sr, im, ba, ix, hb, hi, dp, lb⟩] w (StrPost (bt (99 :: 109 :: 111 :: 118 :: (atW cndW cd ++ (32 :: (regT sr ++ (44 :: 32 :: regT ds)))))) w) := by
  subst he
  obtain ⟨W1, hW1⟩ : ∃ W1, w.alloc (.cells #[.int .i64 16, .int .i64 bn, .int .i64 sh, .int .i64 (k : Int), .int .i64 ds, .int .i64 sr, .int .u64 (im : Int), .int .i64 ba, .int .i64 ix, .bool hb, .bool hi, .int .i64 dp, .int .i64 lb] 32) = W1 := ⟨_, rfl⟩
  have hb1 : Below w.heap.size w W1 := by rw [← hW1]; exact below_new w _
  have hx1 : W1.heap[w.heap.size]? = some (.cells #[.int .i64 16, .int .i64 bn, .int .i64 sh, .int .i64 (k : Int), .int .i64 ds, .int .i64 sr, .int .u64 (im : Int), .int .i64 ba, .int .i64 ix, .bool hb, .bool hi, .int .i64 dp, .int .i64 lb] 32 (0, 0)) := by rw [← hW1]; exact heap_alloc_new _ _
  have hE1 := hE.below hb1
  have hit := itoa51 lb hlb W1 hE1
  have lL := itoa_sz lb hlb
  obtain ⟨xl, hxl⟩ : ∃ s, bt (Lib.itoa lb) = s := ⟨_, rfl⟩
  rw [hxl] at hit lL
  have hXL := Lib.hid (show xl.data.toList = Lib.itoa lb from by rw [← hxl]; rfl)
  clear hxl
  have hr0 := Lib.hid (fun (W : World) (hE : Env W) => rreg47_any sr hsr W)
  have l0 := regT_len sr
  unfold StrPost at hr0
  obtain ⟨x0, hx0'⟩ : ∃ s, bt (regT sr) = s := ⟨_, rfl⟩
  rw [hx0'] at hr0 l0
  have hX0 := Lib.hid (show x0.data.toList = regT sr from by rw [← hx0']; rfl)
  clear hx0'
  have hr1 := Lib.hid (fun (W : World) (hE : Env W) => rreg47_any ds hds W)
  have l1 := regT_len ds
  unfold StrPost at hr1
  obtain ⟨x1, hx1'⟩ : ∃ s, bt (regT ds) = s := ⟨_, rfl⟩
  rw [hx1'] at hr1 l1
  have hX1 := Lib.hid (show x1.data.toList = regT ds from by rw [← hx1']; rfl)
  clear hx1'
  have hcell := Lib.hid (fun (W : World) => lis_cell (w := W) (at_get (L := cndW) (k := k) hk))
  have hsz : (bt (atW cndW (k : Int))).size ≤ 10 := by rw [bt_size]; exact cndW_le (k : Int)
  obtain ⟨xb, hxb⟩ : ∃ x, bt (atW cndW (k : Int)) = x := ⟨_, rfl⟩
  rw [hxb] at hcell hsz
  have hXB := Lib.hid (show xb.data.toList = atW cndW (k : Int) from by rw [← hxb]; rfl)
  have e1 : (0 : Int) ≤ (k : Int) := by omega
  have e2 : (k : Int) < 16 := by omega
  clear hxb
  have hbw := Lib.hid hb1
  have hx := Lib.hid hx1
  have hE2 := Lib.hid hE1
  have hit := Lib.hid hit
  have hW1' := Lib.hid hW1
  clear hb1 hx1 hE1 hE hW1 hlb hk
  unfold inV inC
  obtain ⟨g0, g1, g2, g3, g4, g5, g6, g7, g8, g9, g10, g11, g12⟩ := box13 hx.out
  go_enter Tryz.func25, Tryz.ntmps25
  go_wp2_with fail
  rw [hW1'.out]
  refine hit.out.mono ?_
  rintro e w2 ⟨rfl, hb2⟩
  have hx := Lib.hid ((hb2.block _ (blk_lt hx.out)).trans hx.out)
  have hE2 := Lib.hid (hE2.out.below hb2)
  have hbw := Lib.hid (Below.next hbw.out hb2)
  clear hb2 g0 g1 g2 g3 g4 g5 g6 g7 g8 g9 g10 g11 g12
  obtain ⟨g0, g1, g2, g3, g4, g5, g6, g7, g8, g9, g10, g11, g12⟩ := box13 hx.out
  go_wp2_with fail
  have hcl : Calls Tryz.prog 56 #[] w2.drew fun e w' => e = .returned (.slice (some ⟨w2.heap.size, 0, none⟩) 16 16) ∧ w'.cell? ⟨w2.heap.size, k, none⟩ = some (.string xb) ∧ w'.heap[w.heap.size]? = some (.cells #[.int .i64 16, .int .i64 bn, .int .i64 sh, .int .i64 (k : Int), .int .i64 ds, .int .i64 sr, .int .u64 (im : Int), .int .i64 ba, .int .i64 ix, .bool hb, .bool hi, .int .i64 dp, .int .i64 lb] 32 (0, 0)) ∧ Env w' ∧ Below w.heap.size w w' := (rconds_any w2.drew).mono fun e w' h => by
    obtain ⟨h1, h2⟩ := h
    have hb4 : Below w2.heap.size w2 w' := by rw [h2]; exact (Below.refl _ _).drew.alloc (Nat.le_refl _) _
    have hc4 := hcell.out w2.drew
    rw [← h2] at hc4
    exact ⟨h1, hc4, (hb4.block _ (blk_lt hx.out)).trans hx.out, hE2.out.below hb4, Below.next hbw.out hb4⟩
  have hcl := Lib.hid hcl
  clear g0 g1 g2 g3 g4 g5 g6 g7 g8 g9 g10 g11 g12
  have hx := Lib.hid (show w2.drew.heap[w.heap.size]? = some (.cells #[.int .i64 16, .int .i64 bn, .int .i64 sh, .int .i64 (k : Int), .int .i64 ds, .int .i64 sr, .int .u64 (im : Int), .int .i64 ba, .int .i64 ix, .bool hb, .bool hi, .int .i64 dp, .int .i64 lb] 32 (0, 0)) from hx.out)
  refine wp_region_held (S := fun W => W.cell? ⟨w.heap.size, 3, none⟩ = some (.int .i64 (k : Int)) ∧ W.cell? ⟨w.heap.size, 4, none⟩ = some (.int .i64 ds) ∧ W.cell? ⟨w.heap.size, 5, none⟩ = some (.int .i64 sr)) (by kernel_rfl) ?_
  have hS : (fun W : World => W.cell? ⟨w.heap.size, 3, none⟩ = some (.int .i64 (k : Int)) ∧ W.cell? ⟨w.heap.size, 4, none⟩ = some (.int .i64 ds) ∧ W.cell? ⟨w.heap.size, 5, none⟩ = some (.int .i64 sr)) w2.drew := ⟨(box13 hx.out).2.2.2.1, (box13 hx.out).2.2.2.2.1, (box13 hx.out).2.2.2.2.2.1⟩
  have hS := Lib.hid hS
  refine wpAnyH_take (i := 1) (v := .pointer (some ⟨w.heap.size, 3, none⟩)) rfl (by kernel_rfl) (by kernel_rfl) (by kernel_rfl) (fun _ _ _ h => h) (Or.inl ⟨by rfl, fun V hV => by obtain ⟨h3, h4, h5⟩ := hV; go_simp⟩) hS.out ?_
  simp only [Act.put, List.getElem_toArray, List.getElem_cons_zero, List.getElem_cons_succ, List.setIfInBounds_toArray, List.set_cons_zero, List.set_cons_succ]
  refine wpAnyH_take (i := 2) (v := .int .i64 (k : Int)) rfl (by kernel_rfl) (by kernel_rfl) (by kernel_rfl) (fun _ _ _ h => h) (Or.inl ⟨by rfl, fun V hV => by obtain ⟨h3, h4, h5⟩ := hV; go_simp⟩) hS.out ?_
  simp only [Act.put, List.getElem_toArray, List.getElem_cons_zero, List.getElem_cons_succ, List.setIfInBounds_toArray, List.set_cons_zero, List.set_cons_succ]
  refine wpAnyH_take (i := 7) (v := .pointer (some ⟨w.heap.size, 5, none⟩)) rfl (by kernel_rfl) (by kernel_rfl) (by kernel_rfl) (fun _ _ _ h => h) (Or.inl ⟨by rfl, fun V hV => by obtain ⟨h3, h4, h5⟩ := hV; go_simp⟩) hS.out ?_
  simp only [Act.put, List.getElem_toArray, List.getElem_cons_zero, List.getElem_cons_succ, List.setIfInBounds_toArray, List.set_cons_zero, List.set_cons_succ]
  refine wpAnyH_take (i := 8) (v := .int .i64 sr) rfl (by kernel_rfl) (by kernel_rfl) (by kernel_rfl) (fun _ _ _ h => h) (Or.inl ⟨by rfl, fun V hV => by obtain ⟨h3, h4, h5⟩ := hV; go_simp⟩) hS.out ?_
  simp only [Act.put, List.getElem_toArray, List.getElem_cons_zero, List.getElem_cons_succ, List.setIfInBounds_toArray, List.set_cons_zero, List.set_cons_succ]
  refine wpAnyH_take (i := 12) (v := .pointer (some ⟨w.heap.size, 4, none⟩)) rfl (by kernel_rfl) (by kernel_rfl) (by kernel_rfl) (fun _ _ _ h => h) (Or.inl ⟨by rfl, fun V hV => by obtain ⟨h3, h4, h5⟩ := hV; go_simp⟩) hS.out ?_
  simp only [Act.put, List.getElem_toArray, List.getElem_cons_zero, List.getElem_cons_succ, List.setIfInBounds_toArray, List.set_cons_zero, List.set_cons_succ]
  refine wpAnyH_take (i := 13) (v := .int .i64 ds) rfl (by kernel_rfl) (by kernel_rfl) (by kernel_rfl) (fun _ _ _ h => h) (Or.inl ⟨by rfl, fun V hV => by obtain ⟨h3, h4, h5⟩ := hV; go_simp⟩) hS.out ?_
  simp only [Act.put, List.getElem_toArray, List.getElem_cons_zero, List.getElem_cons_succ, List.setIfInBounds_toArray, List.set_cons_zero, List.set_cons_succ]
  refine wpAnyH_all (rs := [0]) (by kernel_rfl) (by simp) ?_
  intro ii hii
  rcases (by simpa using hii : ii = 0) with rfl
  refine wpOp_call (f := 56) (args := #[]) rfl (by rfl) (by go_simp) hcl.out ?_
  rintro e w4 ⟨rfl, hc2, hx4, hE4, hb4⟩
  have hx := Lib.hid hx4
  have hE2 := Lib.hid hE4
  have hbw := Lib.hid hb4
  clear hE4 hb4 hS
  refine ⟨_, rfl, ⟨(box13 hx.out).2.2.2.1, (box13 hx.out).2.2.2.2.1, (box13 hx.out).2.2.2.2.2.1⟩, ?_⟩
  simp only [Act.put, List.getElem_toArray, List.getElem_cons_zero, List.getElem_cons_succ, List.setIfInBounds_toArray, List.set_cons_zero, List.set_cons_succ]
  refine wpAnyH_more (S' := fun W => W.cell? ⟨w2.heap.size, k, none⟩ = some (.string xb) ∧ W.cell? ⟨w.heap.size, 3, none⟩ = some (.int .i64 (k : Int)) ∧ W.cell? ⟨w.heap.size, 4, none⟩ = some (.int .i64 ds) ∧ W.cell? ⟨w.heap.size, 5, none⟩ = some (.int .i64 sr)) (fun _ h => h.2) _ _ _ _ ?_
  have hS := Lib.hid (show (fun W : World => W.cell? ⟨w2.heap.size, k, none⟩ = some (.string xb) ∧ W.cell? ⟨w.heap.size, 3, none⟩ = some (.int .i64 (k : Int)) ∧ W.cell? ⟨w.heap.size, 4, none⟩ = some (.int .i64 ds) ∧ W.cell? ⟨w.heap.size, 5, none⟩ = some (.int .i64 sr)) w4 from ⟨hc2, ⟨(box13 hx.out).2.2.2.1, (box13 hx.out).2.2.2.2.1, (box13 hx.out).2.2.2.2.2.1⟩⟩)
  clear hc2 hx4
  refine wpAnyH_take (i := 3) (v := .pointer (some ⟨w2.heap.size, k, none⟩)) rfl (by kernel_rfl) (by kernel_rfl) (by kernel_rfl) (fun _ _ _ h => h) (Or.inl ⟨by rfl, fun V hV => by obtain ⟨h99, h3, h4, h5⟩ := hV; go_simp⟩) hS.out ?_
  simp only [Act.put, List.getElem_toArray, List.getElem_cons_zero, List.getElem_cons_succ, List.setIfInBounds_toArray, List.set_cons_zero, List.set_cons_succ]
  refine wpAnyH_take (i := 4) (v := .string (xb)) rfl (by kernel_rfl) (by kernel_rfl) (by kernel_rfl) (fun _ _ _ h => h) (Or.inl ⟨by rfl, fun V hV => by obtain ⟨h99, h3, h4, h5⟩ := hV; go_simp⟩) hS.out ?_
  simp only [Act.put, List.getElem_toArray, List.getElem_cons_zero, List.getElem_cons_succ, List.setIfInBounds_toArray, List.set_cons_zero, List.set_cons_succ]
  refine wpAnyH_take (i := 5) (v := .string ((⟨#[99, 109, 111, 118]⟩ : ByteArray) ++ xb)) rfl (by kernel_rfl) (by kernel_rfl) (by kernel_rfl) (fun _ _ _ h => h) (Or.inl ⟨by rfl, fun V hV => by obtain ⟨h99, h3, h4, h5⟩ := hV; go_simp; try omega⟩) hS.out ?_
  simp only [Act.put, List.getElem_toArray, List.getElem_cons_zero, List.getElem_cons_succ, List.setIfInBounds_toArray, List.set_cons_zero, List.set_cons_succ]
  refine wpAnyH_take (i := 6) (v := .string ((⟨#[99, 109, 111, 118]⟩ : ByteArray) ++ xb ++ (⟨#[32]⟩ : ByteArray))) rfl (by kernel_rfl) (by kernel_rfl) (by kernel_rfl) (fun _ _ _ h => h) (Or.inl ⟨by rfl, fun V hV => by obtain ⟨h99, h3, h4, h5⟩ := hV; go_simp; try omega⟩) hS.out ?_
  simp only [Act.put, List.getElem_toArray, List.getElem_cons_zero, List.getElem_cons_succ, List.setIfInBounds_toArray, List.set_cons_zero, List.set_cons_succ]
  refine wpAnyH_all (rs := [9]) (by kernel_rfl) (by simp) ?_
  intro ii hii
  rcases (by simpa using hii : ii = 9) with rfl
  refine wpOp_call (f := 47) (args := #[.int .i64 sr]) rfl (by rfl) (by go_simp) (hr0.out _ hE2.out) ?_
  rintro e w5 ⟨rfl, hb5⟩
  have hS := Lib.hid (show (fun W : World => W.cell? ⟨w2.heap.size, k, none⟩ = some (.string xb) ∧ W.cell? ⟨w.heap.size, 3, none⟩ = some (.int .i64 (k : Int)) ∧ W.cell? ⟨w.heap.size, 4, none⟩ = some (.int .i64 ds) ∧ W.cell? ⟨w.heap.size, 5, none⟩ = some (.int .i64 sr)) w5 from by obtain ⟨h99, h3, h4, h5⟩ := hS.out; exact ⟨keepc hb5 h99, keepc hb5 h3, keepc hb5 h4, keepc hb5 h5⟩)
  have hE2 := Lib.hid (hE2.out.below hb5)
  have hbw := Lib.hid (Below.next hbw.out hb5)
  clear hb5
  refine ⟨_, rfl, hS.out, ?_⟩
  simp only [Act.put, List.getElem_toArray, List.getElem_cons_zero, List.getElem_cons_succ, List.setIfInBounds_toArray, List.set_cons_zero, List.set_cons_succ]
  refine wpAnyH_take (i := 10) (v := .string ((⟨#[99, 109, 111, 118]⟩ : ByteArray) ++ xb ++ (⟨#[32]⟩ : ByteArray) ++ x0)) rfl (by kernel_rfl) (by kernel_rfl) (by kernel_rfl) (fun _ _ _ h => h) (Or.inl ⟨by rfl, fun V hV => by obtain ⟨h99, h3, h4, h5⟩ := hV; go_simp; try omega⟩) hS.out ?_
  simp only [Act.put, List.getElem_toArray, List.getElem_cons_zero, List.getElem_cons_succ, List.setIfInBounds_toArray, List.set_cons_zero, List.set_cons_succ]
  refine wpAnyH_take (i := 11) (v := .string ((⟨#[99, 109, 111, 118]⟩ : ByteArray) ++ xb ++ (⟨#[32]⟩ : ByteArray) ++ x0 ++ (⟨#[44, 32]⟩ : ByteArray))) rfl (by kernel_rfl) (by kernel_rfl) (by kernel_rfl) (fun _ _ _ h => h) (Or.inl ⟨by rfl, fun V hV => by obtain ⟨h99, h3, h4, h5⟩ := hV; go_simp; try omega⟩) hS.out ?_
  simp only [Act.put, List.getElem_toArray, List.getElem_cons_zero, List.getElem_cons_succ, List.setIfInBounds_toArray, List.set_cons_zero, List.set_cons_succ]
  refine wpAnyH_all (rs := [14]) (by kernel_rfl) (by simp) ?_
  intro ii hii
  rcases (by simpa using hii : ii = 14) with rfl
  refine wpOp_call (f := 47) (args := #[.int .i64 ds]) rfl (by rfl) (by go_simp) (hr1.out _ hE2.out) ?_
  rintro e w6 ⟨rfl, hb5⟩
  have hS := Lib.hid (show (fun W : World => W.cell? ⟨w2.heap.size, k, none⟩ = some (.string xb) ∧ W.cell? ⟨w.heap.size, 3, none⟩ = some (.int .i64 (k : Int)) ∧ W.cell? ⟨w.heap.size, 4, none⟩ = some (.int .i64 ds) ∧ W.cell? ⟨w.heap.size, 5, none⟩ = some (.int .i64 sr)) w6 from by obtain ⟨h99, h3, h4, h5⟩ := hS.out; exact ⟨keepc hb5 h99, keepc hb5 h3, keepc hb5 h4, keepc hb5 h5⟩)
  have hE2 := Lib.hid (hE2.out.below hb5)
  have hbw := Lib.hid (Below.next hbw.out hb5)
  clear hb5
  refine ⟨_, rfl, hS.out, ?_⟩
  simp only [Act.put, List.getElem_toArray, List.getElem_cons_zero, List.getElem_cons_succ, List.setIfInBounds_toArray, List.set_cons_zero, List.set_cons_succ]
  refine wpAnyH_take (i := 15) (v := .string ((⟨#[99, 109, 111, 118]⟩ : ByteArray) ++ xb ++ (⟨#[32]⟩ : ByteArray) ++ x0 ++ (⟨#[44, 32]⟩ : ByteArray) ++ x1)) rfl (by kernel_rfl) (by kernel_rfl) (by kernel_rfl) (fun _ _ _ h => h) (Or.inl ⟨by rfl, fun V hV => by obtain ⟨h99, h3, h4, h5⟩ := hV; go_simp; try omega⟩) hS.out ?_
  simp only [Act.put, List.getElem_toArray, List.getElem_cons_zero, List.getElem_cons_succ, List.setIfInBounds_toArray, List.set_cons_zero, List.set_cons_succ]
  refine wpAnyH_take (i := 16) (v := .string ((⟨#[99, 109, 111, 118]⟩ : ByteArray) ++ xb ++ (⟨#[32]⟩ : ByteArray) ++ x0 ++ (⟨#[44, 32]⟩ : ByteArray) ++ x1)) rfl (by kernel_rfl) (by kernel_rfl) (by kernel_rfl) (fun _ _ _ h => h) (Or.inl ⟨by rfl, fun V hV => by obtain ⟨h99, h3, h4, h5⟩ := hV; go_simp; try omega⟩) hS.out ?_
  simp only [Act.put, List.getElem_toArray, List.getElem_cons_zero, List.getElem_cons_succ, List.setIfInBounds_toArray, List.set_cons_zero, List.set_cons_succ]
  refine wpAnyH_done (by kernel_rfl) ?_ _
  clear hS
  go_wp2
  go_ret
  exact ⟨ret_str (by simp [bt, lblT, hXL.out, hX0.out, hX1.out, hXB.out]), hbw.out⟩
set_option maxRecDepth 100000 in
set_option maxHeartbeats 8000000 in
theorem rl17_any (bn sh cd ds sr : Int) (im : Nat) (ba ix : Int) (hb hi : Bool) (dp lb : Int)  (hlb : 0 ≤ lb ∧ lb ≤ 1048576) (w : World) (hE : Env w) : Calls Tryz.prog 25 #[inV ⟨17, bn, sh, cd, ds, sr, im, ba, ix, hb, hi, dp, lb⟩] w (StrPost (bt (106 :: 109 :: 112 :: 32 :: lblT lb)) w) := by
  obtain ⟨W1, hW1⟩ : ∃ W1, w.alloc (.cells #[.int .i64 17, .int .i64 bn, .int .i64 sh, .int .i64 cd, .int .i64 ds, .int .i64 sr, .int .u64 (im : Int), .int .i64 ba, .int .i64 ix, .bool hb, .bool hi, .int .i64 dp, .int .i64 lb] 32) = W1 := ⟨_, rfl⟩
  have hb1 : Below w.heap.size w W1 := by rw [← hW1]; exact below_new w _
  have hx1 : W1.heap[w.heap.size]? = some (.cells #[.int .i64 17, .int .i64 bn, .int .i64 sh, .int .i64 cd, .int .i64 ds, .int .i64 sr, .int .u64 (im : Int), .int .i64 ba, .int .i64 ix, .bool hb, .bool hi, .int .i64 dp, .int .i64 lb] 32 (0, 0)) := by rw [← hW1]; exact heap_alloc_new _ _
  have hE1 := hE.below hb1
  have hit := itoa51 lb hlb W1 hE1
  have lL := itoa_sz lb hlb
  obtain ⟨xl, hxl⟩ : ∃ s, bt (Lib.itoa lb) = s := ⟨_, rfl⟩
  rw [hxl] at hit lL
  have hXL := Lib.hid (show xl.data.toList = Lib.itoa lb from by rw [← hxl]; rfl)
  clear hxl
  have hbw := Lib.hid hb1
  have hx := Lib.hid hx1
  have hE2 := Lib.hid hE1
  have hit := Lib.hid hit
  have hW1' := Lib.hid hW1
  clear hb1 hx1 hE1 hE hW1 hlb
  unfold inV inC
  obtain ⟨g0, g1, g2, g3, g4, g5, g6, g7, g8, g9, g10, g11, g12⟩ := box13 hx.out
  go_enter Tryz.func25, Tryz.ntmps25
  go_wp2_with fail
  rw [hW1'.out]
  refine hit.out.mono ?_
  rintro e w2 ⟨rfl, hb2⟩
  have hx := Lib.hid ((hb2.block _ (blk_lt hx.out)).trans hx.out)
  have hE2 := Lib.hid (hE2.out.below hb2)
  have hbw := Lib.hid (Below.next hbw.out hb2)
  clear hb2 g0 g1 g2 g3 g4 g5 g6 g7 g8 g9 g10 g11 g12
  obtain ⟨g0, g1, g2, g3, g4, g5, g6, g7, g8, g9, g10, g11, g12⟩ := box13 hx.out
  go_wp2
  go_ret
  exact ⟨ret_str (by simp [bt, lblT, hXL.out]), hbw.out⟩
set_option maxRecDepth 100000 in
set_option maxHeartbeats 8000000 in
theorem rl18_any (bn sh cd ds sr : Int) (im : Nat) (ba ix : Int) (hb hi : Bool) (dp lb : Int) (k : Nat) (hk : k < 16) (he : cd = (k : Int)) (hlb : 0 ≤ lb ∧ lb ≤ 1048576) (w : World) (hE : Env w) : Calls Tryz.prog 25 #[inV ⟨18, bn, sh, cd, ds, sr, im, ba, ix, hb, hi, dp, lb⟩] w (StrPost (bt (106 :: (atW cndW cd ++ (32 :: lblT lb)))) w) := by
  subst he
  obtain ⟨W1, hW1⟩ : ∃ W1, w.alloc (.cells #[.int .i64 18, .int .i64 bn, .int .i64 sh, .int .i64 (k : Int), .int .i64 ds, .int .i64 sr, .int .u64 (im : Int), .int .i64 ba, .int .i64 ix, .bool hb, .bool hi, .int .i64 dp, .int .i64 lb] 32) = W1 := ⟨_, rfl⟩
  have hb1 : Below w.heap.size w W1 := by rw [← hW1]; exact below_new w _
  have hx1 : W1.heap[w.heap.size]? = some (.cells #[.int .i64 18, .int .i64 bn, .int .i64 sh, .int .i64 (k : Int), .int .i64 ds, .int .i64 sr, .int .u64 (im : Int), .int .i64 ba, .int .i64 ix, .bool hb, .bool hi, .int .i64 dp, .int .i64 lb] 32 (0, 0)) := by rw [← hW1]; exact heap_alloc_new _ _
  have hE1 := hE.below hb1
  have hit := itoa51 lb hlb W1 hE1
  have lL := itoa_sz lb hlb
  obtain ⟨xl, hxl⟩ : ∃ s, bt (Lib.itoa lb) = s := ⟨_, rfl⟩
  rw [hxl] at hit lL
  have hXL := Lib.hid (show xl.data.toList = Lib.itoa lb from by rw [← hxl]; rfl)
  clear hxl
  have hcell := Lib.hid (fun (W : World) => lis_cell (w := W) (at_get (L := cndW) (k := k) hk))
  have hsz : (bt (atW cndW (k : Int))).size ≤ 10 := by rw [bt_size]; exact cndW_le (k : Int)
  obtain ⟨xb, hxb⟩ : ∃ x, bt (atW cndW (k : Int)) = x := ⟨_, rfl⟩
  rw [hxb] at hcell hsz
  have hXB := Lib.hid (show xb.data.toList = atW cndW (k : Int) from by rw [← hxb]; rfl)
  have e1 : (0 : Int) ≤ (k : Int) := by omega
  have e2 : (k : Int) < 16 := by omega
  clear hxb
  have hbw := Lib.hid hb1
  have hx := Lib.hid hx1
  have hE2 := Lib.hid hE1
  have hit := Lib.hid hit
  have hW1' := Lib.hid hW1
  clear hb1 hx1 hE1 hE hW1 hlb hk
  unfold inV inC
  obtain ⟨g0, g1, g2, g3, g4, g5, g6, g7, g8, g9, g10, g11, g12⟩ := box13 hx.out
  go_enter Tryz.func25, Tryz.ntmps25
  go_wp2_with fail
  rw [hW1'.out]
  refine hit.out.mono ?_
  rintro e w2 ⟨rfl, hb2⟩
  have hx := Lib.hid ((hb2.block _ (blk_lt hx.out)).trans hx.out)
  have hE2 := Lib.hid (hE2.out.below hb2)
  have hbw := Lib.hid (Below.next hbw.out hb2)
  clear hb2 g0 g1 g2 g3 g4 g5 g6 g7 g8 g9 g10 g11 g12
  obtain ⟨g0, g1, g2, g3, g4, g5, g6, g7, g8, g9, g10, g11, g12⟩ := box13 hx.out
  go_wp2_with fail
  have hcl : Calls Tryz.prog 56 #[] w2.drew fun e w' => e = .returned (.slice (some ⟨w2.heap.size, 0, none⟩) 16 16) ∧ w'.cell? ⟨w2.heap.size, k, none⟩ = some (.string xb) ∧ w'.heap[w.heap.size]? = some (.cells #[.int .i64 18, .int .i64 bn, .int .i64 sh, .int .i64 (k : Int), .int .i64 ds, .int .i64 sr, .int .u64 (im : Int), .int .i64 ba, .int .i64 ix, .bool hb, .bool hi, .int .i64 dp, .int .i64 lb] 32 (0, 0)) ∧ Env w' ∧ Below w.heap.size w w' := (rconds_any w2.drew).mono fun e w' h => by
    obtain ⟨h1, h2⟩ := h
    have hb4 : Below w2.heap.size w2 w' := by rw [h2]; exact (Below.refl _ _).drew.alloc (Nat.le_refl _) _
    have hc4 := hcell.out w2.drew
    rw [← h2] at hc4
    exact ⟨h1, hc4, (hb4.block _ (blk_lt hx.out)).trans hx.out, hE2.out.below hb4, Below.next hbw.out hb4⟩
  have hcl := Lib.hid hcl
  clear g0 g1 g2 g3 g4 g5 g6 g7 g8 g9 g10 g11 g12
  have hx := Lib.hid (show w2.drew.heap[w.heap.size]? = some (.cells #[.int .i64 18, .int .i64 bn, .int .i64 sh, .int .i64 (k : Int), .int .i64 ds, .int .i64 sr, .int .u64 (im : Int), .int .i64 ba, .int .i64 ix, .bool hb, .bool hi, .int .i64 dp, .int .i64 lb] 32 (0, 0)) from hx.out)
  refine wp_region_held (S := fun W => W.cell? ⟨w.heap.size, 3, none⟩ = some (.int .i64 (k : Int))) (by kernel_rfl) ?_
  have hS : (fun W : World => W.cell? ⟨w.heap.size, 3, none⟩ = some (.int .i64 (k : Int))) w2.drew := (box13 hx.out).2.2.2.1
  have hS := Lib.hid hS
  refine wpAnyH_take (i := 1) (v := .pointer (some ⟨w.heap.size, 3, none⟩)) rfl (by kernel_rfl) (by kernel_rfl) (by kernel_rfl) (fun _ _ _ h => h) (Or.inl ⟨by rfl, fun V hV => by have h3 := hV; go_simp⟩) hS.out ?_
  simp only [Act.put, List.getElem_toArray, List.getElem_cons_zero, List.getElem_cons_succ, List.setIfInBounds_toArray, List.set_cons_zero, List.set_cons_succ]
  refine wpAnyH_take (i := 2) (v := .int .i64 (k : Int)) rfl (by kernel_rfl) (by kernel_rfl) (by kernel_rfl) (fun _ _ _ h => h) (Or.inl ⟨by rfl, fun V hV => by have h3 := hV; go_simp⟩) hS.out ?_
  simp only [Act.put, List.getElem_toArray, List.getElem_cons_zero, List.getElem_cons_succ, List.setIfInBounds_toArray, List.set_cons_zero, List.set_cons_succ]
  refine wpAnyH_take (i := 7) (v := .string ((⟨#[76]⟩ : ByteArray) ++ xl)) rfl (by kernel_rfl) (by kernel_rfl) (by kernel_rfl) (fun _ _ _ h => h) (Or.inl ⟨by rfl, fun V hV => by have h3 := hV; go_simp; try omega⟩) hS.out ?_
  simp only [Act.put, List.getElem_toArray, List.getElem_cons_zero, List.getElem_cons_succ, List.setIfInBounds_toArray, List.set_cons_zero, List.set_cons_succ]
  refine wpAnyH_all (rs := [0]) (by kernel_rfl) (by simp) ?_
  intro ii hii
  rcases (by simpa using hii : ii = 0) with rfl
  refine wpOp_call (f := 56) (args := #[]) rfl (by rfl) (by go_simp) hcl.out ?_
  rintro e w4 ⟨rfl, hc2, hx4, hE4, hb4⟩
  have hx := Lib.hid hx4
  have hE2 := Lib.hid hE4
  have hbw := Lib.hid hb4
  clear hE4 hb4 hS
  refine ⟨_, rfl, (box13 hx.out).2.2.2.1, ?_⟩
  simp only [Act.put, List.getElem_toArray, List.getElem_cons_zero, List.getElem_cons_succ, List.setIfInBounds_toArray, List.set_cons_zero, List.set_cons_succ]
  refine wpAnyH_more (S' := fun W => W.cell? ⟨w2.heap.size, k, none⟩ = some (.string xb) ∧ W.cell? ⟨w.heap.size, 3, none⟩ = some (.int .i64 (k : Int))) (fun _ h => h.2) _ _ _ _ ?_
  have hS := Lib.hid (show (fun W : World => W.cell? ⟨w2.heap.size, k, none⟩ = some (.string xb) ∧ W.cell? ⟨w.heap.size, 3, none⟩ = some (.int .i64 (k : Int))) w4 from ⟨hc2, (box13 hx.out).2.2.2.1⟩)
  clear hc2 hx4
  refine wpAnyH_take (i := 3) (v := .pointer (some ⟨w2.heap.size, k, none⟩)) rfl (by kernel_rfl) (by kernel_rfl) (by kernel_rfl) (fun _ _ _ h => h) (Or.inl ⟨by rfl, fun V hV => by obtain ⟨h99, h3⟩ := hV; go_simp⟩) hS.out ?_
  simp only [Act.put, List.getElem_toArray, List.getElem_cons_zero, List.getElem_cons_succ, List.setIfInBounds_toArray, List.set_cons_zero, List.set_cons_succ]
  refine wpAnyH_take (i := 4) (v := .string (xb)) rfl (by kernel_rfl) (by kernel_rfl) (by kernel_rfl) (fun _ _ _ h => h) (Or.inl ⟨by rfl, fun V hV => by obtain ⟨h99, h3⟩ := hV; go_simp⟩) hS.out ?_
  simp only [Act.put, List.getElem_toArray, List.getElem_cons_zero, List.getElem_cons_succ, List.setIfInBounds_toArray, List.set_cons_zero, List.set_cons_succ]
  refine wpAnyH_take (i := 5) (v := .string ((⟨#[106]⟩ : ByteArray) ++ xb)) rfl (by kernel_rfl) (by kernel_rfl) (by kernel_rfl) (fun _ _ _ h => h) (Or.inl ⟨by rfl, fun V hV => by obtain ⟨h99, h3⟩ := hV; go_simp; try omega⟩) hS.out ?_
  simp only [Act.put, List.getElem_toArray, List.getElem_cons_zero, List.getElem_cons_succ, List.setIfInBounds_toArray, List.set_cons_zero, List.set_cons_succ]
  refine wpAnyH_take (i := 6) (v := .string ((⟨#[106]⟩ : ByteArray) ++ xb ++ (⟨#[32]⟩ : ByteArray))) rfl (by kernel_rfl) (by kernel_rfl) (by kernel_rfl) (fun _ _ _ h => h) (Or.inl ⟨by rfl, fun V hV => by obtain ⟨h99, h3⟩ := hV; go_simp; try omega⟩) hS.out ?_
  simp only [Act.put, List.getElem_toArray, List.getElem_cons_zero, List.getElem_cons_succ, List.setIfInBounds_toArray, List.set_cons_zero, List.set_cons_succ]
  refine wpAnyH_take (i := 8) (v := .string ((⟨#[106]⟩ : ByteArray) ++ xb ++ (⟨#[32]⟩ : ByteArray) ++ ((⟨#[76]⟩ : ByteArray) ++ xl))) rfl (by kernel_rfl) (by kernel_rfl) (by kernel_rfl) (fun _ _ _ h => h) (Or.inl ⟨by rfl, fun V hV => by obtain ⟨h99, h3⟩ := hV; go_simp; try omega⟩) hS.out ?_
  simp only [Act.put, List.getElem_toArray, List.getElem_cons_zero, List.getElem_cons_succ, List.setIfInBounds_toArray, List.set_cons_zero, List.set_cons_succ]
  refine wpAnyH_take (i := 9) (v := .string ((⟨#[106]⟩ : ByteArray) ++ xb ++ (⟨#[32]⟩ : ByteArray) ++ ((⟨#[76]⟩ : ByteArray) ++ xl))) rfl (by kernel_rfl) (by kernel_rfl) (by kernel_rfl) (fun _ _ _ h => h) (Or.inl ⟨by rfl, fun V hV => by obtain ⟨h99, h3⟩ := hV; go_simp; try omega⟩) hS.out ?_
  simp only [Act.put, List.getElem_toArray, List.getElem_cons_zero, List.getElem_cons_succ, List.setIfInBounds_toArray, List.set_cons_zero, List.set_cons_succ]
  refine wpAnyH_done (by kernel_rfl) ?_ _
  clear hS
  go_wp2
  go_ret
  exact ⟨ret_str (by simp [bt, lblT, hXL.out, hXB.out]), hbw.out⟩
set_option maxRecDepth 100000 in
set_option maxHeartbeats 8000000 in
theorem rl19_any (bn sh cd ds sr : Int) (im : Nat) (ba ix : Int) (hb hi : Bool) (dp lb : Int)  (hlb : 0 ≤ lb ∧ lb ≤ 1048576) (w : World) (hE : Env w) : Calls Tryz.prog 25 #[inV ⟨19, bn, sh, cd, ds, sr, im, ba, ix, hb, hi, dp, lb⟩] w (StrPost (bt (lblT lb ++ [58])) w) := by
  obtain ⟨W1, hW1⟩ : ∃ W1, w.alloc (.cells #[.int .i64 19, .int .i64 bn, .int .i64 sh, .int .i64 cd, .int .i64 ds, .int .i64 sr, .int .u64 (im : Int), .int .i64 ba, .int .i64 ix, .bool hb, .bool hi, .int .i64 dp, .int .i64 lb] 32) = W1 := ⟨_, rfl⟩
  have hb1 : Below w.heap.size w W1 := by rw [← hW1]; exact below_new w _
  have hx1 : W1.heap[w.heap.size]? = some (.cells #[.int .i64 19, .int .i64 bn, .int .i64 sh, .int .i64 cd, .int .i64 ds, .int .i64 sr, .int .u64 (im : Int), .int .i64 ba, .int .i64 ix, .bool hb, .bool hi, .int .i64 dp, .int .i64 lb] 32 (0, 0)) := by rw [← hW1]; exact heap_alloc_new _ _
  have hE1 := hE.below hb1
  have hit := itoa51 lb hlb W1 hE1
  have lL := itoa_sz lb hlb
  obtain ⟨xl, hxl⟩ : ∃ s, bt (Lib.itoa lb) = s := ⟨_, rfl⟩
  rw [hxl] at hit lL
  have hXL := Lib.hid (show xl.data.toList = Lib.itoa lb from by rw [← hxl]; rfl)
  clear hxl
  have hbw := Lib.hid hb1
  have hx := Lib.hid hx1
  have hE2 := Lib.hid hE1
  have hit := Lib.hid hit
  have hW1' := Lib.hid hW1
  clear hb1 hx1 hE1 hE hW1 hlb
  unfold inV inC
  obtain ⟨g0, g1, g2, g3, g4, g5, g6, g7, g8, g9, g10, g11, g12⟩ := box13 hx.out
  go_enter Tryz.func25, Tryz.ntmps25
  go_wp2_with fail
  rw [hW1'.out]
  refine hit.out.mono ?_
  rintro e w2 ⟨rfl, hb2⟩
  have hx := Lib.hid ((hb2.block _ (blk_lt hx.out)).trans hx.out)
  have hE2 := Lib.hid (hE2.out.below hb2)
  have hbw := Lib.hid (Below.next hbw.out hb2)
  clear hb2 g0 g1 g2 g3 g4 g5 g6 g7 g8 g9 g10 g11 g12
  obtain ⟨g0, g1, g2, g3, g4, g5, g6, g7, g8, g9, g10, g11, g12⟩ := box13 hx.out
  go_wp2
  go_ret
  exact ⟨ret_str (by simp [bt, lblT, hXL.out]), hbw.out⟩
set_option maxRecDepth 100000 in
set_option maxHeartbeats 8000000 in
theorem rl20_any (bn sh cd ds sr : Int) (im : Nat) (ba ix : Int) (hb hi : Bool) (dp lb : Int)  (hlb : 0 ≤ lb ∧ lb ≤ 1048576) (w : World) (hE : Env w) : Calls Tryz.prog 25 #[inV ⟨20, bn, sh, cd, ds, sr, im, ba, ix, hb, hi, dp, lb⟩] w (StrPost (bt ([114, 101, 116])) w) := by
  obtain ⟨W1, hW1⟩ : ∃ W1, w.alloc (.cells #[.int .i64 20, .int .i64 bn, .int .i64 sh, .int .i64 cd, .int .i64 ds, .int .i64 sr, .int .u64 (im : Int), .int .i64 ba, .int .i64 ix, .bool hb, .bool hi, .int .i64 dp, .int .i64 lb] 32) = W1 := ⟨_, rfl⟩
  have hb1 : Below w.heap.size w W1 := by rw [← hW1]; exact below_new w _
  have hx1 : W1.heap[w.heap.size]? = some (.cells #[.int .i64 20, .int .i64 bn, .int .i64 sh, .int .i64 cd, .int .i64 ds, .int .i64 sr, .int .u64 (im : Int), .int .i64 ba, .int .i64 ix, .bool hb, .bool hi, .int .i64 dp, .int .i64 lb] 32 (0, 0)) := by rw [← hW1]; exact heap_alloc_new _ _
  have hE1 := hE.below hb1
  have hit := itoa51 lb hlb W1 hE1
  have lL := itoa_sz lb hlb
  obtain ⟨xl, hxl⟩ : ∃ s, bt (Lib.itoa lb) = s := ⟨_, rfl⟩
  rw [hxl] at hit lL
  have hXL := Lib.hid (show xl.data.toList = Lib.itoa lb from by rw [← hxl]; rfl)
  clear hxl
  have hbw := Lib.hid hb1
  have hx := Lib.hid hx1
  have hE2 := Lib.hid hE1
  have hit := Lib.hid hit
  have hW1' := Lib.hid hW1
  clear hb1 hx1 hE1 hE hW1 hlb
  unfold inV inC
  obtain ⟨g0, g1, g2, g3, g4, g5, g6, g7, g8, g9, g10, g11, g12⟩ := box13 hx.out
  go_enter Tryz.func25, Tryz.ntmps25
  go_wp2_with fail
  rw [hW1'.out]
  refine hit.out.mono ?_
  rintro e w2 ⟨rfl, hb2⟩
  have hx := Lib.hid ((hb2.block _ (blk_lt hx.out)).trans hx.out)
  have hE2 := Lib.hid (hE2.out.below hb2)
  have hbw := Lib.hid (Below.next hbw.out hb2)
  clear hb2 g0 g1 g2 g3 g4 g5 g6 g7 g8 g9 g10 g11 g12
  obtain ⟨g0, g1, g2, g3, g4, g5, g6, g7, g8, g9, g10, g11, g12⟩ := box13 hx.out
  go_wp2
  go_ret
  exact ⟨ret_str (by simp [bt, lblT, hXL.out]), hbw.out⟩
theorem binR_at : ∀ k : Fin 8, atW binR ((((k.val : Nat) : Int) + 1)) = atW binW (((k.val : Nat) : Int) + 1 - 1) := by decide +kernel
theorem shfR_at : ∀ k : Fin 5, atW shfR ((((k.val : Nat) : Int) + 1)) = atW shfW (((k.val : Nat) : Int) + 1 - 1) := by decide +kernel
theorem rline25_any {i : In} (h : Form i) (w : World) (hE : Env w) : Calls Tryz.prog 25 #[inV i] w (StrPost (bt (lineL i)) w) := by
  have z : (0 : Int) ≤ 0 ∧ (0 : Int) ≤ 1048576 := by decide
  cases h with
  | two op d s ho hd hs =>
    rcases ho with rfl | rfl | rfl | rfl
    · exact rl1_any _ _ _ _ _ _ _ _ _ _ _ _ hs hd z w hE
    · exact rl11_any _ _ _ _ _ _ _ _ _ _ _ _ hs hd z w hE
    · exact rl12_any _ _ _ _ _ _ _ _ _ _ _ _ hs hd z w hE
    · exact rl15_any _ _ _ _ _ _ _ _ _ _ _ _ hs hd z w hE
  | set d n hd hn => exact rl2_any _ _ _ _ _ _ _ _ _ _ _ _ hn hd z w hE
  | load d ba ix hb hi dp hd ha =>
    have := rl3_any 0 0 0 d 0 0 ba ix hb hi dp 0 (dp_in ha).1 (dp_in ha).2 hd z w hE
    rw [addrS_yes ha] at this
    exact this
  | store s ba ix hb hi dp hs ha =>
    have := rl4_any 0 0 0 0 s 0 ba ix hb hi dp 0 hs (dp_in ha).1 (dp_in ha).2 z w hE
    rw [addrS_yes ha] at this
    exact this
  | bin b d s hb hd hs =>
    obtain ⟨k, rfl⟩ := fin8 hb
    have := rl5_any (((k.val : Nat) : Int) + 1) 0 0 d s 0 0 0 false false 0 0 hs hd (k.val + 1) (by omega) (by simp) z w hE
    rw [binR_at k] at this
    exact this
  | binI b d n hb hd hn =>
    obtain ⟨k, rfl⟩ := fin8 hb
    have := rl6_any (((k.val : Nat) : Int) + 1) 0 0 d 0 n 0 0 false false 0 0 (shortN_lt hn) hd (k.val + 1) (by omega) (by simp) z w hE
    rw [binR_at k] at this
    exact this
  | shf h d hh hd =>
    obtain ⟨k, rfl⟩ := fin5 hh
    have := rl7_any 0 (((k.val : Nat) : Int) + 1) 0 d 0 0 0 0 false false 0 0 hd (k.val + 1) (by omega) (by simp) z w hE
    rw [shfR_at k] at this
    exact this
  | shfI h d n hh hd hn =>
    obtain ⟨k, rfl⟩ := fin5 hh
    have := rl8_any 0 (((k.val : Nat) : Int) + 1) 0 d 0 n 0 0 false false 0 0 (Nat.lt_trans hn (by decide)) hd (k.val + 1) (by omega) (by simp) z w hE
    rw [shfR_at k] at this
    exact this
  | one op d ho hd =>
    rcases ho with rfl | rfl
    · exact rl9_any _ _ _ _ _ _ _ _ _ _ _ _ hd z w hE
    · exact rl10_any _ _ _ _ _ _ _ _ _ _ _ _ hd z w hE
  | cmpI d n hd hn => exact rl13_any _ _ _ _ _ _ _ _ _ _ _ _ (shortN_lt hn) hd z w hE
  | setc c d hc hd =>
    obtain ⟨k, rfl⟩ := fin16 hc
    exact rl14_any _ _ _ _ _ _ _ _ _ _ _ _ hd k.val k.isLt rfl z w hE
  | movc c d s hc hd hs =>
    obtain ⟨k, rfl⟩ := fin16 hc
    exact rl16_any _ _ _ _ _ _ _ _ _ _ _ _ hs hd k.val k.isLt rfl z w hE
  | jump n hn => exact rl17_any _ _ _ _ _ _ _ _ _ _ _ _ hn w hE
  | brc c n hc hn =>
    obtain ⟨k, rfl⟩ := fin16 hc
    exact rl18_any _ _ _ _ _ _ _ _ _ _ _ _ k.val k.isLt rfl hn w hE
  | lab n hn => exact rl19_any _ _ _ _ _ _ _ _ _ _ _ _ hn w hE
  | ret => exact rl20_any _ _ _ _ _ _ _ _ _ _ _ _ z w hE
end Go.Proofs.YtmimmnjdgpdjlaaGreatDoor
