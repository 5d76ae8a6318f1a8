/- An instruction's operands. -/
import Derived.Test.YtmimmnjdgpdjlaaGreatDoorV
import Derived.Deep.RegionHeldLaw
set_option linter.unusedSimpArgs false
set_option linter.unusedVariables false
namespace Go.Proofs.YtmimmnjdgpdjlaaGreatDoor
open Go.RowKit Go.Lib Go.Shelf

def OpsPost (l : List (List UInt8)) (w : World) (e : Ending) (w' : World) : Prop :=
  (l = [] ∧ e = .returned (.slice none 0 0) ∧ Below w.heap.size w w') ∨ ∃ b, e = .returned (.slice (some ⟨b, 0, none⟩) l.length l.length) ∧ w'.heap[b]? = some (.cells (lisC l) 9 (0, 0)) ∧ Below w.heap.size w w'
theorem ops2 {a b : List UInt8} {x y : ByteArray} {w W : World} (hx : x.data.toList = a) (hy : y.data.toList = b) (h : Below w.heap.size w W) : OpsPost [a, b] w (.returned (.slice (some ⟨W.heap.size, 0, none⟩) 2 2)) (W.alloc (.cells #[.string x, .string y] 9)) := by
  refine .inr ⟨W.heap.size, rfl, ?_, h.alloc h.size _⟩
  rw [heap_alloc_new]
  rw [show x = bt a from ext_bytes hx, show y = bt b from ext_bytes hy]
  rfl
theorem ops1 {a : List UInt8} {x : ByteArray} {w W : World} (hx : x.data.toList = a) (h : Below w.heap.size w W) : OpsPost [a] w (.returned (.slice (some ⟨W.heap.size, 0, none⟩) 1 1)) (W.alloc (.cells #[.string x] 9)) := by
  refine .inr ⟨W.heap.size, rfl, ?_, h.alloc h.size _⟩
  rw [heap_alloc_new]
  rw [show x = bt a from ext_bytes hx]
  rfl
theorem halloc {W : World} {b : Nat} {x : Obj} (h : W.heap[b]? = some x) (o : Obj) : (W.alloc o).heap[b]? = some x := (heap_alloc_old W o (blk_lt h)).trans h
theorem lowT_len (r : Int) : (bt (lowT r)).size ≤ 11 := by rw [bt_size]; unfold lowT; have := lowW_le r; simp; omega
theorem fmtD (u : Nat) (hu : u < 18446744073709551616) (w : World) (hE : Env w) : Calls Tryz.prog 52 #[.int .u64 (u : Int), .int .i64 10] w (StrPost (bt (Lib.decDigits u)) w) := fmtU u hu w hE.tab
set_option maxRecDepth 100000 in
set_option maxHeartbeats 8000000 in
theorem ops1_any (bn sh cd ds sr : Int) (im : Nat) (ba ix : Int) (hb hi : Bool) (dp lb : Int) (hsr : 0 ≤ sr ∧ sr ≤ 15) (hds : 0 ≤ ds ∧ ds ≤ 15) (w : World) (hE : Env w) : Calls Tryz.prog 104 #[inV ⟨1, bn, sh, cd, ds, sr, im, ba, ix, hb, hi, dp, lb⟩] w (OpsPost [(regT sr), (regT ds)] w) := by
  obtain ⟨W1, hW1⟩ : ∃ W1, w.alloc (.cells #[.int .i64 1, .int .i64 bn, .int .i64 sh, .int .i64 cd, .int .i64 ds, .int .i64 sr, .int .u64 (im : Int), .int .i64 ba, .int .i64 ix, .bool hb, .bool hi, .int .i64 dp, .int .i64 lb] 32) = W1 := ⟨_, rfl⟩
  have hb1 : Below w.heap.size w W1 := by rw [← hW1]; exact below_new w _
  have hx1 : W1.heap[w.heap.size]? = some (.cells #[.int .i64 1, .int .i64 bn, .int .i64 sh, .int .i64 cd, .int .i64 ds, .int .i64 sr, .int .u64 (im : Int), .int .i64 ba, .int .i64 ix, .bool hb, .bool hi, .int .i64 dp, .int .i64 lb] 32 (0, 0)) := by rw [← hW1]; exact heap_alloc_new _ _
  have hE1 := hE.below hb1
  have hr0 := Lib.hid (fun (W : World) (hE : Env W) => reg46_any sr hsr W hE)
  have l0 := regT_len sr
  unfold StrPost at hr0
  obtain ⟨x0, hx0'⟩ : ∃ s, bt (regT sr) = s := ⟨_, rfl⟩
  rw [hx0'] at hr0 l0
  have hX0 := Lib.hid (show x0.data.toList = regT sr from by rw [← hx0']; rfl)
  clear hx0'
  have hr1 := Lib.hid (fun (W : World) (hE : Env W) => reg46_any ds hds W hE)
  have l1 := regT_len ds
  unfold StrPost at hr1
  obtain ⟨x1, hx1'⟩ : ∃ s, bt (regT ds) = s := ⟨_, rfl⟩
  rw [hx1'] at hr1 l1
  have hX1 := Lib.hid (show x1.data.toList = regT ds from by rw [← hx1']; rfl)
  clear hx1'
  have hbw := Lib.hid (show Below w.heap.size w W1.drew from hb1.drew)
  have hx := Lib.hid (show W1.drew.heap[w.heap.size]? = some (.cells #[.int .i64 1, .int .i64 bn, .int .i64 sh, .int .i64 cd, .int .i64 ds, .int .i64 sr, .int .u64 (im : Int), .int .i64 ba, .int .i64 ix, .bool hb, .bool hi, .int .i64 dp, .int .i64 lb] 32 (0, 0)) from hx1)
  have hE2 := Lib.hid (show Env W1.drew from hE1.below (Below.refl _ _).drew)
  have hW1' := Lib.hid hW1
  clear hb1 hx1 hE1 hE hW1
  unfold inV inC
  go_enter Tryz.func104, Tryz.ntmps104
  go_upto_region 26 with fail
  rw [hW1'.out]
  go_region_held_law (fun W => W.cell? ⟨w.heap.size, 4, none⟩ = some (.int .i64 ds) ∧ W.cell? ⟨w.heap.size, 5, none⟩ = some (.int .i64 sr)) (first | exact ⟨(box13 hx.out).2.2.2.2.1, (box13 hx.out).2.2.2.2.2.1⟩ | exact ⟨(box13 (halloc hx.out _)).2.2.2.2.1, (box13 (halloc hx.out _)).2.2.2.2.2.1⟩) (first | (go_at_call 46; with_reducible refine (hr0.out _ hE2.out).mono ?_; rintro e w4 ⟨rfl, hb4⟩; have hx := Lib.hid ((hb4.block _ (blk_lt hx.out)).trans hx.out); have hE2 := Lib.hid (hE2.out.below hb4); have hbw := Lib.hid (Below.next hbw.out hb4); clear hb4) | (go_at_call 46; with_reducible refine (hr1.out _ hE2.out).mono ?_; rintro e w4 ⟨rfl, hb4⟩; have hx := Lib.hid ((hb4.block _ (blk_lt hx.out)).trans hx.out); have hE2 := Lib.hid (hE2.out.below hb4); have hbw := Lib.hid (Below.next hbw.out hb4); clear hb4))
  all_goals (
    go_wp2
    go_ret
    exact ops2 hX0.out hX1.out hbw.out)
set_option maxRecDepth 100000 in
set_option maxHeartbeats 8000000 in
theorem ops11_any (bn sh cd ds sr : Int) (im : Nat) (ba ix : Int) (hb hi : Bool) (dp lb : Int) (hsr : 0 ≤ sr ∧ sr ≤ 15) (hds : 0 ≤ ds ∧ ds ≤ 15) (w : World) (hE : Env w) : Calls Tryz.prog 104 #[inV ⟨11, bn, sh, cd, ds, sr, im, ba, ix, hb, hi, dp, lb⟩] w (OpsPost [(regT sr), (regT ds)] w) := by
  obtain ⟨W1, hW1⟩ : ∃ W1, w.alloc (.cells #[.int .i64 11, .int .i64 bn, .int .i64 sh, .int .i64 cd, .int .i64 ds, .int .i64 sr, .int .u64 (im : Int), .int .i64 ba, .int .i64 ix, .bool hb, .bool hi, .int .i64 dp, .int .i64 lb] 32) = W1 := ⟨_, rfl⟩
  have hb1 : Below w.heap.size w W1 := by rw [← hW1]; exact below_new w _
  have hx1 : W1.heap[w.heap.size]? = some (.cells #[.int .i64 11, .int .i64 bn, .int .i64 sh, .int .i64 cd, .int .i64 ds, .int .i64 sr, .int .u64 (im : Int), .int .i64 ba, .int .i64 ix, .bool hb, .bool hi, .int .i64 dp, .int .i64 lb] 32 (0, 0)) := by rw [← hW1]; exact heap_alloc_new _ _
  have hE1 := hE.below hb1
  have hr0 := Lib.hid (fun (W : World) (hE : Env W) => reg46_any sr hsr W hE)
  have l0 := regT_len sr
  unfold StrPost at hr0
  obtain ⟨x0, hx0'⟩ : ∃ s, bt (regT sr) = s := ⟨_, rfl⟩
  rw [hx0'] at hr0 l0
  have hX0 := Lib.hid (show x0.data.toList = regT sr from by rw [← hx0']; rfl)
  clear hx0'
  have hr1 := Lib.hid (fun (W : World) (hE : Env W) => reg46_any ds hds W hE)
  have l1 := regT_len ds
  unfold StrPost at hr1
  obtain ⟨x1, hx1'⟩ : ∃ s, bt (regT ds) = s := ⟨_, rfl⟩
  rw [hx1'] at hr1 l1
  have hX1 := Lib.hid (show x1.data.toList = regT ds from by rw [← hx1']; rfl)
  clear hx1'
  have hbw := Lib.hid (show Below w.heap.size w W1.drew from hb1.drew)
  have hx := Lib.hid (show W1.drew.heap[w.heap.size]? = some (.cells #[.int .i64 11, .int .i64 bn, .int .i64 sh, .int .i64 cd, .int .i64 ds, .int .i64 sr, .int .u64 (im : Int), .int .i64 ba, .int .i64 ix, .bool hb, .bool hi, .int .i64 dp, .int .i64 lb] 32 (0, 0)) from hx1)
  have hE2 := Lib.hid (show Env W1.drew from hE1.below (Below.refl _ _).drew)
  have hW1' := Lib.hid hW1
  clear hb1 hx1 hE1 hE hW1
  unfold inV inC
  go_enter Tryz.func104, Tryz.ntmps104
  go_upto_region 26 with fail
  rw [hW1'.out]
  go_region_held_law (fun W => W.cell? ⟨w.heap.size, 4, none⟩ = some (.int .i64 ds) ∧ W.cell? ⟨w.heap.size, 5, none⟩ = some (.int .i64 sr)) (first | exact ⟨(box13 hx.out).2.2.2.2.1, (box13 hx.out).2.2.2.2.2.1⟩ | exact ⟨(box13 (halloc hx.out _)).2.2.2.2.1, (box13 (halloc hx.out _)).2.2.2.2.2.1⟩) (first | (go_at_call 46; with_reducible refine (hr0.out _ hE2.out).mono ?_; rintro e w4 ⟨rfl, hb4⟩; have hx := Lib.hid ((hb4.block _ (blk_lt hx.out)).trans hx.out); have hE2 := Lib.hid (hE2.out.below hb4); have hbw := Lib.hid (Below.next hbw.out hb4); clear hb4) | (go_at_call 46; with_reducible refine (hr1.out _ hE2.out).mono ?_; rintro e w4 ⟨rfl, hb4⟩; have hx := Lib.hid ((hb4.block _ (blk_lt hx.out)).trans hx.out); have hE2 := Lib.hid (hE2.out.below hb4); have hbw := Lib.hid (Below.next hbw.out hb4); clear hb4))
  all_goals (
    go_wp2
    go_ret
    exact ops2 hX0.out hX1.out hbw.out)
set_option maxRecDepth 100000 in
set_option maxHeartbeats 8000000 in
theorem ops12_any (bn sh cd ds sr : Int) (im : Nat) (ba ix : Int) (hb hi : Bool) (dp lb : Int) (hsr : 0 ≤ sr ∧ sr ≤ 15) (hds : 0 ≤ ds ∧ ds ≤ 15) (w : World) (hE : Env w) : Calls Tryz.prog 104 #[inV ⟨12, bn, sh, cd, ds, sr, im, ba, ix, hb, hi, dp, lb⟩] w (OpsPost [(regT sr), (regT ds)] w) := by
  obtain ⟨W1, hW1⟩ : ∃ W1, w.alloc (.cells #[.int .i64 12, .int .i64 bn, .int .i64 sh, .int .i64 cd, .int .i64 ds, .int .i64 sr, .int .u64 (im : Int), .int .i64 ba, .int .i64 ix, .bool hb, .bool hi, .int .i64 dp, .int .i64 lb] 32) = W1 := ⟨_, rfl⟩
  have hb1 : Below w.heap.size w W1 := by rw [← hW1]; exact below_new w _
  have hx1 : W1.heap[w.heap.size]? = some (.cells #[.int .i64 12, .int .i64 bn, .int .i64 sh, .int .i64 cd, .int .i64 ds, .int .i64 sr, .int .u64 (im : Int), .int .i64 ba, .int .i64 ix, .bool hb, .bool hi, .int .i64 dp, .int .i64 lb] 32 (0, 0)) := by rw [← hW1]; exact heap_alloc_new _ _
  have hE1 := hE.below hb1
  have hr0 := Lib.hid (fun (W : World) (hE : Env W) => reg46_any sr hsr W hE)
  have l0 := regT_len sr
  unfold StrPost at hr0
  obtain ⟨x0, hx0'⟩ : ∃ s, bt (regT sr) = s := ⟨_, rfl⟩
  rw [hx0'] at hr0 l0
  have hX0 := Lib.hid (show x0.data.toList = regT sr from by rw [← hx0']; rfl)
  clear hx0'
  have hr1 := Lib.hid (fun (W : World) (hE : Env W) => reg46_any ds hds W hE)
  have l1 := regT_len ds
  unfold StrPost at hr1
  obtain ⟨x1, hx1'⟩ : ∃ s, bt (regT ds) = s := ⟨_, rfl⟩
  rw [hx1'] at hr1 l1
  have hX1 := Lib.hid (show x1.data.toList = regT ds from by rw [← hx1']; rfl)
  clear hx1'
  have hbw := Lib.hid (show Below w.heap.size w W1.drew from hb1.drew)
  have hx := Lib.hid (show W1.drew.heap[w.heap.size]? = some (.cells #[.int .i64 12, .int .i64 bn, .int .i64 sh, .int .i64 cd, .int .i64 ds, .int .i64 sr, .int .u64 (im : Int), .int .i64 ba, .int .i64 ix, .bool hb, .bool hi, .int .i64 dp, .int .i64 lb] 32 (0, 0)) from hx1)
  have hE2 := Lib.hid (show Env W1.drew from hE1.below (Below.refl _ _).drew)
  have hW1' := Lib.hid hW1
  clear hb1 hx1 hE1 hE hW1
  unfold inV inC
  go_enter Tryz.func104, Tryz.ntmps104
  go_upto_region 26 with fail
  rw [hW1'.out]
  go_region_held_law (fun W => W.cell? ⟨w.heap.size, 4, none⟩ = some (.int .i64 ds) ∧ W.cell? ⟨w.heap.size, 5, none⟩ = some (.int .i64 sr)) (first | exact ⟨(box13 hx.out).2.2.2.2.1, (box13 hx.out).2.2.2.2.2.1⟩ | exact ⟨(box13 (halloc hx.out _)).2.2.2.2.1, (box13 (halloc hx.out _)).2.2.2.2.2.1⟩) (first | (go_at_call 46; with_reducible refine (hr0.out _ hE2.out).mono ?_; rintro e w4 ⟨rfl, hb4⟩; have hx := Lib.hid ((hb4.block _ (blk_lt hx.out)).trans hx.out); have hE2 := Lib.hid (hE2.out.below hb4); have hbw := Lib.hid (Below.next hbw.out hb4); clear hb4) | (go_at_call 46; with_reducible refine (hr1.out _ hE2.out).mono ?_; rintro e w4 ⟨rfl, hb4⟩; have hx := Lib.hid ((hb4.block _ (blk_lt hx.out)).trans hx.out); have hE2 := Lib.hid (hE2.out.below hb4); have hbw := Lib.hid (Below.next hbw.out hb4); clear hb4))
  all_goals (
    go_wp2
    go_ret
    exact ops2 hX0.out hX1.out hbw.out)
set_option maxRecDepth 100000 in
set_option maxHeartbeats 8000000 in
theorem ops5_any (bn sh cd ds sr : Int) (im : Nat) (ba ix : Int) (hb hi : Bool) (dp lb : Int) (hsr : 0 ≤ sr ∧ sr ≤ 15) (hds : 0 ≤ ds ∧ ds ≤ 15) (w : World) (hE : Env w) : Calls Tryz.prog 104 #[inV ⟨5, bn, sh, cd, ds, sr, im, ba, ix, hb, hi, dp, lb⟩] w (OpsPost [(regT sr), (regT ds)] w) := by
  obtain ⟨W1, hW1⟩ : ∃ W1, w.alloc (.cells #[.int .i64 5, .int .i64 bn, .int .i64 sh, .int .i64 cd, .int .i64 ds, .int .i64 sr, .int .u64 (im : Int), .int .i64 ba, .int .i64 ix, .bool hb, .bool hi, .int .i64 dp, .int .i64 lb] 32) = W1 := ⟨_, rfl⟩
  have hb1 : Below w.heap.size w W1 := by rw [← hW1]; exact below_new w _
  have hx1 : W1.heap[w.heap.size]? = some (.cells #[.int .i64 5, .int .i64 bn, .int .i64 sh, .int .i64 cd, .int .i64 ds, .int .i64 sr, .int .u64 (im : Int), .int .i64 ba, .int .i64 ix, .bool hb, .bool hi, .int .i64 dp, .int .i64 lb] 32 (0, 0)) := by rw [← hW1]; exact heap_alloc_new _ _
  have hE1 := hE.below hb1
  have hr0 := Lib.hid (fun (W : World) (hE : Env W) => reg46_any sr hsr W hE)
  have l0 := regT_len sr
  unfold StrPost at hr0
  obtain ⟨x0, hx0'⟩ : ∃ s, bt (regT sr) = s := ⟨_, rfl⟩
  rw [hx0'] at hr0 l0
  have hX0 := Lib.hid (show x0.data.toList = regT sr from by rw [← hx0']; rfl)
  clear hx0'
  have hr1 := Lib.hid (fun (W : World) (hE : Env W) => reg46_any ds hds W hE)
  have l1 := regT_len ds
  unfold StrPost at hr1
  obtain ⟨x1, hx1'⟩ : ∃ s, bt (regT ds) = s := ⟨_, rfl⟩
  rw [hx1'] at hr1 l1
  have hX1 := Lib.hid (show x1.data.toList = regT ds from by rw [← hx1']; rfl)
  clear hx1'
  have hbw := Lib.hid (show Below w.heap.size w W1.drew from hb1.drew)
  have hx := Lib.hid (show W1.drew.heap[w.heap.size]? = some (.cells #[.int .i64 5, .int .i64 bn, .int .i64 sh, .int .i64 cd, .int .i64 ds, .int .i64 sr, .int .u64 (im : Int), .int .i64 ba, .int .i64 ix, .bool hb, .bool hi, .int .i64 dp, .int .i64 lb] 32 (0, 0)) from hx1)
  have hE2 := Lib.hid (show Env W1.drew from hE1.below (Below.refl _ _).drew)
  have hW1' := Lib.hid hW1
  clear hb1 hx1 hE1 hE hW1
  unfold inV inC
  go_enter Tryz.func104, Tryz.ntmps104
  go_upto_region 26 with fail
  rw [hW1'.out]
  go_region_held_law (fun W => W.cell? ⟨w.heap.size, 4, none⟩ = some (.int .i64 ds) ∧ W.cell? ⟨w.heap.size, 5, none⟩ = some (.int .i64 sr)) (first | exact ⟨(box13 hx.out).2.2.2.2.1, (box13 hx.out).2.2.2.2.2.1⟩ | exact ⟨(box13 (halloc hx.out _)).2.2.2.2.1, (box13 (halloc hx.out _)).2.2.2.2.2.1⟩) (first | (go_at_call 46; with_reducible refine (hr0.out _ hE2.out).mono ?_; rintro e w4 ⟨rfl, hb4⟩; have hx := Lib.hid ((hb4.block _ (blk_lt hx.out)).trans hx.out); have hE2 := Lib.hid (hE2.out.below hb4); have hbw := Lib.hid (Below.next hbw.out hb4); clear hb4) | (go_at_call 46; with_reducible refine (hr1.out _ hE2.out).mono ?_; rintro e w4 ⟨rfl, hb4⟩; have hx := Lib.hid ((hb4.block _ (blk_lt hx.out)).trans hx.out); have hE2 := Lib.hid (hE2.out.below hb4); have hbw := Lib.hid (Below.next hbw.out hb4); clear hb4))
  all_goals (
    go_wp2
    go_ret
    exact ops2 hX0.out hX1.out hbw.out)
set_option maxRecDepth 100000 in
set_option maxHeartbeats 8000000 in
theorem ops16_any (bn sh cd ds sr : Int) (im : Nat) (ba ix : Int) (hb hi : Bool) (dp lb : Int) (hsr : 0 ≤ sr ∧ sr ≤ 15) (hds : 0 ≤ ds ∧ ds ≤ 15) (w : World) (hE : Env w) : Calls Tryz.prog 104 #[inV ⟨16, bn, sh, cd, ds, sr, im, ba, ix, hb, hi, dp, lb⟩] w (OpsPost [(regT sr), (regT ds)] w) := by
  obtain ⟨W1, hW1⟩ : ∃ W1, w.alloc (.cells #[.int .i64 16, .int .i64 bn, .int .i64 sh, .int .i64 cd, .int .i64 ds, .int .i64 sr, .int .u64 (im : Int), .int .i64 ba, .int .i64 ix, .bool hb, .bool hi, .int .i64 dp, .int .i64 lb] 32) = W1 := ⟨_, rfl⟩
  have hb1 : Below w.heap.size w W1 := by rw [← hW1]; exact below_new w _
  have hx1 : W1.heap[w.heap.size]? = some (.cells #[.int .i64 16, .int .i64 bn, .int .i64 sh, .int .i64 cd, .int .i64 ds, .int .i64 sr, .int .u64 (im : Int), .int .i64 ba, .int .i64 ix, .bool hb, .bool hi, .int .i64 dp, .int .i64 lb] 32 (0, 0)) := by rw [← hW1]; exact heap_alloc_new _ _
  have hE1 := hE.below hb1
  have hr0 := Lib.hid (fun (W : World) (hE : Env W) => reg46_any sr hsr W hE)
  have l0 := regT_len sr
  unfold StrPost at hr0
  obtain ⟨x0, hx0'⟩ : ∃ s, bt (regT sr) = s := ⟨_, rfl⟩
  rw [hx0'] at hr0 l0
  have hX0 := Lib.hid (show x0.data.toList = regT sr from by rw [← hx0']; rfl)
  clear hx0'
  have hr1 := Lib.hid (fun (W : World) (hE : Env W) => reg46_any ds hds W hE)
  have l1 := regT_len ds
  unfold StrPost at hr1
  obtain ⟨x1, hx1'⟩ : ∃ s, bt (regT ds) = s := ⟨_, rfl⟩
  rw [hx1'] at hr1 l1
  have hX1 := Lib.hid (show x1.data.toList = regT ds from by rw [← hx1']; rfl)
  clear hx1'
  have hbw := Lib.hid (show Below w.heap.size w W1.drew from hb1.drew)
  have hx := Lib.hid (show W1.drew.heap[w.heap.size]? = some (.cells #[.int .i64 16, .int .i64 bn, .int .i64 sh, .int .i64 cd, .int .i64 ds, .int .i64 sr, .int .u64 (im : Int), .int .i64 ba, .int .i64 ix, .bool hb, .bool hi, .int .i64 dp, .int .i64 lb] 32 (0, 0)) from hx1)
  have hE2 := Lib.hid (show Env W1.drew from hE1.below (Below.refl _ _).drew)
  have hW1' := Lib.hid hW1
  clear hb1 hx1 hE1 hE hW1
  unfold inV inC
  go_enter Tryz.func104, Tryz.ntmps104
  go_upto_region 26 with fail
  rw [hW1'.out]
  go_region_held_law (fun W => W.cell? ⟨w.heap.size, 4, none⟩ = some (.int .i64 ds) ∧ W.cell? ⟨w.heap.size, 5, none⟩ = some (.int .i64 sr)) (first | exact ⟨(box13 hx.out).2.2.2.2.1, (box13 hx.out).2.2.2.2.2.1⟩ | exact ⟨(box13 (halloc hx.out _)).2.2.2.2.1, (box13 (halloc hx.out _)).2.2.2.2.2.1⟩) (first | (go_at_call 46; with_reducible refine (hr0.out _ hE2.out).mono ?_; rintro e w4 ⟨rfl, hb4⟩; have hx := Lib.hid ((hb4.block _ (blk_lt hx.out)).trans hx.out); have hE2 := Lib.hid (hE2.out.below hb4); have hbw := Lib.hid (Below.next hbw.out hb4); clear hb4) | (go_at_call 46; with_reducible refine (hr1.out _ hE2.out).mono ?_; rintro e w4 ⟨rfl, hb4⟩; have hx := Lib.hid ((hb4.block _ (blk_lt hx.out)).trans hx.out); have hE2 := Lib.hid (hE2.out.below hb4); have hbw := Lib.hid (Below.next hbw.out hb4); clear hb4))
  all_goals (
    go_wp2
    go_ret
    exact ops2 hX0.out hX1.out hbw.out)
set_option maxRecDepth 100000 in
set_option maxHeartbeats 8000000 in
theorem ops15_any (bn sh cd ds sr : Int) (im : Nat) (ba ix : Int) (hb hi : Bool) (dp lb : Int) (hsr : 0 ≤ sr ∧ sr ≤ 15) (hds : 0 ≤ ds ∧ ds ≤ 15) (w : World) (hE : Env w) : Calls Tryz.prog 104 #[inV ⟨15, bn, sh, cd, ds, sr, im, ba, ix, hb, hi, dp, lb⟩] w (OpsPost [(lowT sr), (regT ds)] w) := by
  obtain ⟨W1, hW1⟩ : ∃ W1, w.alloc (.cells #[.int .i64 15, .int .i64 bn, .int .i64 sh, .int .i64 cd, .int .i64 ds, .int .i64 sr, .int .u64 (im : Int), .int .i64 ba, .int .i64 ix, .bool hb, .bool hi, .int .i64 dp, .int .i64 lb] 32) = W1 := ⟨_, rfl⟩
  have hb1 : Below w.heap.size w W1 := by rw [← hW1]; exact below_new w _
  have hx1 : W1.heap[w.heap.size]? = some (.cells #[.int .i64 15, .int .i64 bn, .int .i64 sh, .int .i64 cd, .int .i64 ds, .int .i64 sr, .int .u64 (im : Int), .int .i64 ba, .int .i64 ix, .bool hb, .bool hi, .int .i64 dp, .int .i64 lb] 32 (0, 0)) := by rw [← hW1]; exact heap_alloc_new _ _
  have hE1 := hE.below hb1
  have hr0 := Lib.hid (fun (W : World) (hE : Env W) => low130_any sr hsr W hE)
  have l0 := lowT_len sr
  unfold StrPost at hr0
  obtain ⟨x0, hx0'⟩ : ∃ s, bt (lowT sr) = s := ⟨_, rfl⟩
  rw [hx0'] at hr0 l0
  have hX0 := Lib.hid (show x0.data.toList = lowT sr from by rw [← hx0']; rfl)
  clear hx0'
  have hr1 := Lib.hid (fun (W : World) (hE : Env W) => reg46_any ds hds W hE)
  have l1 := regT_len ds
  unfold StrPost at hr1
  obtain ⟨x1, hx1'⟩ : ∃ s, bt (regT ds) = s := ⟨_, rfl⟩
  rw [hx1'] at hr1 l1
  have hX1 := Lib.hid (show x1.data.toList = regT ds from by rw [← hx1']; rfl)
  clear hx1'
  have hbw := Lib.hid (show Below w.heap.size w W1.drew from hb1.drew)
  have hx := Lib.hid (show W1.drew.heap[w.heap.size]? = some (.cells #[.int .i64 15, .int .i64 bn, .int .i64 sh, .int .i64 cd, .int .i64 ds, .int .i64 sr, .int .u64 (im : Int), .int .i64 ba, .int .i64 ix, .bool hb, .bool hi, .int .i64 dp, .int .i64 lb] 32 (0, 0)) from hx1)
  have hE2 := Lib.hid (show Env W1.drew from hE1.below (Below.refl _ _).drew)
  have hW1' := Lib.hid hW1
  clear hb1 hx1 hE1 hE hW1
  unfold inV inC
  go_enter Tryz.func104, Tryz.ntmps104
  go_upto_region 20 with fail
  rw [hW1'.out]
  go_region_held_law (fun W => W.cell? ⟨w.heap.size, 4, none⟩ = some (.int .i64 ds) ∧ W.cell? ⟨w.heap.size, 5, none⟩ = some (.int .i64 sr)) (first | exact ⟨(box13 hx.out).2.2.2.2.1, (box13 hx.out).2.2.2.2.2.1⟩ | exact ⟨(box13 (halloc hx.out _)).2.2.2.2.1, (box13 (halloc hx.out _)).2.2.2.2.2.1⟩) (first | (go_at_call 130; with_reducible refine (hr0.out _ hE2.out).mono ?_; rintro e w4 ⟨rfl, hb4⟩; have hx := Lib.hid ((hb4.block _ (blk_lt hx.out)).trans hx.out); have hE2 := Lib.hid (hE2.out.below hb4); have hbw := Lib.hid (Below.next hbw.out hb4); clear hb4) | (go_at_call 46; with_reducible refine (hr1.out _ hE2.out).mono ?_; rintro e w4 ⟨rfl, hb4⟩; have hx := Lib.hid ((hb4.block _ (blk_lt hx.out)).trans hx.out); have hE2 := Lib.hid (hE2.out.below hb4); have hbw := Lib.hid (Below.next hbw.out hb4); clear hb4))
  all_goals (
    go_wp2
    go_ret
    exact ops2 hX0.out hX1.out hbw.out)
set_option maxRecDepth 100000 in
set_option maxHeartbeats 8000000 in
theorem ops2_any (bn sh cd ds sr : Int) (im : Nat) (ba ix : Int) (hb hi : Bool) (dp lb : Int) (him : im < 18446744073709551616) (hds : 0 ≤ ds ∧ ds ≤ 15) (w : World) (hE : Env w) : Calls Tryz.prog 104 #[inV ⟨2, bn, sh, cd, ds, sr, im, ba, ix, hb, hi, dp, lb⟩] w (OpsPost [(36 :: Lib.decDigits im), (regT ds)] w) := by
  obtain ⟨W1, hW1⟩ : ∃ W1, w.alloc (.cells #[.int .i64 2, .int .i64 bn, .int .i64 sh, .int .i64 cd, .int .i64 ds, .int .i64 sr, .int .u64 (im : Int), .int .i64 ba, .int .i64 ix, .bool hb, .bool hi, .int .i64 dp, .int .i64 lb] 32) = W1 := ⟨_, rfl⟩
  have hb1 : Below w.heap.size w W1 := by rw [← hW1]; exact below_new w _
  have hx1 : W1.heap[w.heap.size]? = some (.cells #[.int .i64 2, .int .i64 bn, .int .i64 sh, .int .i64 cd, .int .i64 ds, .int .i64 sr, .int .u64 (im : Int), .int .i64 ba, .int .i64 ix, .bool hb, .bool hi, .int .i64 dp, .int .i64 lb] 32 (0, 0)) := by rw [← hW1]; exact heap_alloc_new _ _
  have hE1 := hE.below hb1
  have hr0 := Lib.hid (fun (W : World) (hE : Env W) => fmtD im him W hE)
  have l0 : (bt (Lib.decDigits im)).size ≤ 30 := by rw [bt_size]; have := dec_len im him; omega
  unfold StrPost at hr0
  obtain ⟨x0, hx0'⟩ : ∃ s, bt (Lib.decDigits im) = s := ⟨_, rfl⟩
  rw [hx0'] at hr0 l0
  have hX0 := Lib.hid (show x0.data.toList = Lib.decDigits im from by rw [← hx0']; rfl)
  clear hx0'
  have hr1 := Lib.hid (fun (W : World) (hE : Env W) => reg46_any ds hds W hE)
  have l1 := regT_len ds
  unfold StrPost at hr1
  obtain ⟨x1, hx1'⟩ : ∃ s, bt (regT ds) = s := ⟨_, rfl⟩
  rw [hx1'] at hr1 l1
  have hX1 := Lib.hid (show x1.data.toList = regT ds from by rw [← hx1']; rfl)
  clear hx1'
  have hbw := Lib.hid (show Below w.heap.size w W1.drew from hb1.drew)
  have hx := Lib.hid (show W1.drew.heap[w.heap.size]? = some (.cells #[.int .i64 2, .int .i64 bn, .int .i64 sh, .int .i64 cd, .int .i64 ds, .int .i64 sr, .int .u64 (im : Int), .int .i64 ba, .int .i64 ix, .bool hb, .bool hi, .int .i64 dp, .int .i64 lb] 32 (0, 0)) from hx1)
  have hE2 := Lib.hid (show Env W1.drew from hE1.below (Below.refl _ _).drew)
  have hW1' := Lib.hid hW1
  clear hb1 hx1 hE1 hE hW1
  unfold inV inC
  go_enter Tryz.func104, Tryz.ntmps104
  go_upto_region 3 with fail
  rw [hW1'.out]
  go_region_held_law (fun W => W.cell? ⟨w.heap.size, 4, none⟩ = some (.int .i64 ds) ∧ W.cell? ⟨w.heap.size, 6, none⟩ = some (.int .u64 (im : Int))) (first | exact ⟨(box13 hx.out).2.2.2.2.1, (box13 hx.out).2.2.2.2.2.2.1⟩ | exact ⟨(box13 (halloc hx.out _)).2.2.2.2.1, (box13 (halloc hx.out _)).2.2.2.2.2.2.1⟩) (first | (go_at_call 52; with_reducible refine (hr0.out _ hE2.out).mono ?_; rintro e w4 ⟨rfl, hb4⟩; have hx := Lib.hid ((hb4.block _ (blk_lt hx.out)).trans hx.out); have hE2 := Lib.hid (hE2.out.below hb4); have hbw := Lib.hid (Below.next hbw.out hb4); clear hb4) | (go_at_call 46; with_reducible refine (hr1.out _ hE2.out).mono ?_; rintro e w4 ⟨rfl, hb4⟩; have hx := Lib.hid ((hb4.block _ (blk_lt hx.out)).trans hx.out); have hE2 := Lib.hid (hE2.out.below hb4); have hbw := Lib.hid (Below.next hbw.out hb4); clear hb4))
  all_goals (
    go_wp2
    go_ret
    exact ops2 (by simp [bt, hX0.out]) hX1.out hbw.out)
set_option maxRecDepth 100000 in
set_option maxHeartbeats 8000000 in
theorem ops3_any (bn sh cd ds sr : Int) (im : Nat) (ba ix : Int) (hb hi : Bool) (dp lb : Int) (hd0 : -9223372036854775808 ≤ dp) (hd1 : dp ≤ 9223372036854775807) (hds : 0 ≤ ds ∧ ds ≤ 15) (w : World) (hE : Env w) : Calls Tryz.prog 104 #[inV ⟨3, bn, sh, cd, ds, sr, im, ba, ix, hb, hi, dp, lb⟩] w (OpsPost [(addrS ba ix hb hi dp), (regT ds)] w) := by
  obtain ⟨W1, hW1⟩ : ∃ W1, w.alloc (.cells #[.int .i64 3, .int .i64 bn, .int .i64 sh, .int .i64 cd, .int .i64 ds, .int .i64 sr, .int .u64 (im : Int), .int .i64 ba, .int .i64 ix, .bool hb, .bool hi, .int .i64 dp, .int .i64 lb] 32) = W1 := ⟨_, rfl⟩
  have hb1 : Below w.heap.size w W1 := by rw [← hW1]; exact below_new w _
  have hx1 : W1.heap[w.heap.size]? = some (.cells #[.int .i64 3, .int .i64 bn, .int .i64 sh, .int .i64 cd, .int .i64 ds, .int .i64 sr, .int .u64 (im : Int), .int .i64 ba, .int .i64 ix, .bool hb, .bool hi, .int .i64 dp, .int .i64 lb] 32 (0, 0)) := by rw [← hW1]; exact heap_alloc_new _ _
  have hE1 := hE.below hb1
  have hr0 := Lib.hid (fun (W : World) (hE : Env W) => addr22_any ba ix hb hi dp hd0 hd1 W hE)
  unfold StrPost at hr0
  obtain ⟨x0, hx0'⟩ : ∃ s, bt (addrS ba ix hb hi dp) = s := ⟨_, rfl⟩
  rw [hx0'] at hr0
  have hX0 := Lib.hid (show x0.data.toList = addrS ba ix hb hi dp from by rw [← hx0']; rfl)
  clear hx0'
  unfold adV at hr0
  have hr1 := Lib.hid (fun (W : World) (hE : Env W) => reg46_any ds hds W hE)
  have l1 := regT_len ds
  unfold StrPost at hr1
  obtain ⟨x1, hx1'⟩ : ∃ s, bt (regT ds) = s := ⟨_, rfl⟩
  rw [hx1'] at hr1 l1
  have hX1 := Lib.hid (show x1.data.toList = regT ds from by rw [← hx1']; rfl)
  clear hx1'
  have hbw := Lib.hid (show Below w.heap.size w W1.drew from hb1.drew)
  have hx := Lib.hid (show W1.drew.heap[w.heap.size]? = some (.cells #[.int .i64 3, .int .i64 bn, .int .i64 sh, .int .i64 cd, .int .i64 ds, .int .i64 sr, .int .u64 (im : Int), .int .i64 ba, .int .i64 ix, .bool hb, .bool hi, .int .i64 dp, .int .i64 lb] 32 (0, 0)) from hx1)
  have hE2 := Lib.hid (show Env W1.drew from hE1.below (Below.refl _ _).drew)
  have hW1' := Lib.hid hW1
  clear hb1 hx1 hE1 hE hW1
  unfold inV inC
  go_enter Tryz.func104, Tryz.ntmps104
  go_upto_region 5 with fail
  rw [hW1'.out]
  go_region_held_law (fun W => W.cell? ⟨w.heap.size, 4, none⟩ = some (.int .i64 ds) ∧ W.cell? ⟨w.heap.size, 7, none⟩ = some (.int .i64 ba) ∧ W.cell? ⟨w.heap.size, 8, none⟩ = some (.int .i64 ix) ∧ W.cell? ⟨w.heap.size, 9, none⟩ = some (.bool hb) ∧ W.cell? ⟨w.heap.size, 10, none⟩ = some (.bool hi) ∧ W.cell? ⟨w.heap.size, 11, none⟩ = some (.int .i64 dp)) (first | exact ⟨(box13 hx.out).2.2.2.2.1, (box13 hx.out).2.2.2.2.2.2.2.1, (box13 hx.out).2.2.2.2.2.2.2.2.1, (box13 hx.out).2.2.2.2.2.2.2.2.2.1, (box13 hx.out).2.2.2.2.2.2.2.2.2.2.1, (box13 hx.out).2.2.2.2.2.2.2.2.2.2.2.1⟩ | exact ⟨(box13 (halloc hx.out _)).2.2.2.2.1, (box13 (halloc hx.out _)).2.2.2.2.2.2.2.1, (box13 (halloc hx.out _)).2.2.2.2.2.2.2.2.1, (box13 (halloc hx.out _)).2.2.2.2.2.2.2.2.2.1, (box13 (halloc hx.out _)).2.2.2.2.2.2.2.2.2.2.1, (box13 (halloc hx.out _)).2.2.2.2.2.2.2.2.2.2.2.1⟩) (first | (go_at_call 22; with_reducible refine (hr0.out _ hE2.out).mono ?_; rintro e w4 ⟨rfl, hb4⟩; have hx := Lib.hid ((hb4.block _ (blk_lt hx.out)).trans hx.out); have hE2 := Lib.hid (hE2.out.below hb4); have hbw := Lib.hid (Below.next hbw.out hb4); clear hb4) | (go_at_call 46; with_reducible refine (hr1.out _ hE2.out).mono ?_; rintro e w4 ⟨rfl, hb4⟩; have hx := Lib.hid ((hb4.block _ (blk_lt hx.out)).trans hx.out); have hE2 := Lib.hid (hE2.out.below hb4); have hbw := Lib.hid (Below.next hbw.out hb4); clear hb4))
  all_goals (
    go_wp2
    go_ret
    exact ops2 hX0.out hX1.out hbw.out)
set_option maxRecDepth 100000 in
set_option maxHeartbeats 8000000 in
theorem ops4_any (bn sh cd ds sr : Int) (im : Nat) (ba ix : Int) (hb hi : Bool) (dp lb : Int) (hsr : 0 ≤ sr ∧ sr ≤ 15) (hd0 : -9223372036854775808 ≤ dp) (hd1 : dp ≤ 9223372036854775807) (w : World) (hE : Env w) : Calls Tryz.prog 104 #[inV ⟨4, bn, sh, cd, ds, sr, im, ba, ix, hb, hi, dp, lb⟩] w (OpsPost [(regT sr), (addrS ba ix hb hi dp)] w) := by
  obtain ⟨W1, hW1⟩ : ∃ W1, w.alloc (.cells #[.int .i64 4, .int .i64 bn, .int .i64 sh, .int .i64 cd, .int .i64 ds, .int .i64 sr, .int .u64 (im : Int), .int .i64 ba, .int .i64 ix, .bool hb, .bool hi, .int .i64 dp, .int .i64 lb] 32) = W1 := ⟨_, rfl⟩
  have hb1 : Below w.heap.size w W1 := by rw [← hW1]; exact below_new w _
  have hx1 : W1.heap[w.heap.size]? = some (.cells #[.int .i64 4, .int .i64 bn, .int .i64 sh, .int .i64 cd, .int .i64 ds, .int .i64 sr, .int .u64 (im : Int), .int .i64 ba, .int .i64 ix, .bool hb, .bool hi, .int .i64 dp, .int .i64 lb] 32 (0, 0)) := by rw [← hW1]; exact heap_alloc_new _ _
  have hE1 := hE.below hb1
  have hr0 := Lib.hid (fun (W : World) (hE : Env W) => reg46_any sr hsr W hE)
  have l0 := regT_len sr
  unfold StrPost at hr0
  obtain ⟨x0, hx0'⟩ : ∃ s, bt (regT sr) = s := ⟨_, rfl⟩
  rw [hx0'] at hr0 l0
  have hX0 := Lib.hid (show x0.data.toList = regT sr from by rw [← hx0']; rfl)
  clear hx0'
  have hr1 := Lib.hid (fun (W : World) (hE : Env W) => addr22_any ba ix hb hi dp hd0 hd1 W hE)
  unfold StrPost at hr1
  obtain ⟨x1, hx1'⟩ : ∃ s, bt (addrS ba ix hb hi dp) = s := ⟨_, rfl⟩
  rw [hx1'] at hr1
  have hX1 := Lib.hid (show x1.data.toList = addrS ba ix hb hi dp from by rw [← hx1']; rfl)
  clear hx1'
  unfold adV at hr1
  have hbw := Lib.hid (show Below w.heap.size w W1.drew from hb1.drew)
  have hx := Lib.hid (show W1.drew.heap[w.heap.size]? = some (.cells #[.int .i64 4, .int .i64 bn, .int .i64 sh, .int .i64 cd, .int .i64 ds, .int .i64 sr, .int .u64 (im : Int), .int .i64 ba, .int .i64 ix, .bool hb, .bool hi, .int .i64 dp, .int .i64 lb] 32 (0, 0)) from hx1)
  have hE2 := Lib.hid (show Env W1.drew from hE1.below (Below.refl _ _).drew)
  have hW1' := Lib.hid hW1
  clear hb1 hx1 hE1 hE hW1
  unfold inV inC
  go_enter Tryz.func104, Tryz.ntmps104
  go_upto_region 7 with fail
  rw [hW1'.out]
  go_region_held_law (fun W => W.cell? ⟨w.heap.size, 5, none⟩ = some (.int .i64 sr) ∧ W.cell? ⟨w.heap.size, 7, none⟩ = some (.int .i64 ba) ∧ W.cell? ⟨w.heap.size, 8, none⟩ = some (.int .i64 ix) ∧ W.cell? ⟨w.heap.size, 9, none⟩ = some (.bool hb) ∧ W.cell? ⟨w.heap.size, 10, none⟩ = some (.bool hi) ∧ W.cell? ⟨w.heap.size, 11, none⟩ = some (.int .i64 dp)) (first | exact ⟨(box13 hx.out).2.2.2.2.2.1, (box13 hx.out).2.2.2.2.2.2.2.1, (box13 hx.out).2.2.2.2.2.2.2.2.1, (box13 hx.out).2.2.2.2.2.2.2.2.2.1, (box13 hx.out).2.2.2.2.2.2.2.2.2.2.1, (box13 hx.out).2.2.2.2.2.2.2.2.2.2.2.1⟩ | exact ⟨(box13 (halloc hx.out _)).2.2.2.2.2.1, (box13 (halloc hx.out _)).2.2.2.2.2.2.2.1, (box13 (halloc hx.out _)).2.2.2.2.2.2.2.2.1, (box13 (halloc hx.out _)).2.2.2.2.2.2.2.2.2.1, (box13 (halloc hx.out _)).2.2.2.2.2.2.2.2.2.2.1, (box13 (halloc hx.out _)).2.2.2.2.2.2.2.2.2.2.2.1⟩) (first | (go_at_call 46; with_reducible refine (hr0.out _ hE2.out).mono ?_; rintro e w4 ⟨rfl, hb4⟩; have hx := Lib.hid ((hb4.block _ (blk_lt hx.out)).trans hx.out); have hE2 := Lib.hid (hE2.out.below hb4); have hbw := Lib.hid (Below.next hbw.out hb4); clear hb4) | (go_at_call 22; with_reducible refine (hr1.out _ hE2.out).mono ?_; rintro e w4 ⟨rfl, hb4⟩; have hx := Lib.hid ((hb4.block _ (blk_lt hx.out)).trans hx.out); have hE2 := Lib.hid (hE2.out.below hb4); have hbw := Lib.hid (Below.next hbw.out hb4); clear hb4))
  all_goals (
    go_wp2
    go_ret
    exact ops2 hX0.out hX1.out hbw.out)
set_option maxRecDepth 100000 in
set_option maxHeartbeats 8000000 in
theorem ops6_any (bn sh cd ds sr : Int) (im : Nat) (ba ix : Int) (hb hi : Bool) (dp lb : Int) (him : im < 18446744073709551616) (hds : 0 ≤ ds ∧ ds ≤ 15) (w : World) (hE : Env w) : Calls Tryz.prog 104 #[inV ⟨6, bn, sh, cd, ds, sr, im, ba, ix, hb, hi, dp, lb⟩] w (OpsPost [(immT im), (regT ds)] w) := by
  obtain ⟨W1, hW1⟩ : ∃ W1, w.alloc (.cells #[.int .i64 6, .int .i64 bn, .int .i64 sh, .int .i64 cd, .int .i64 ds, .int .i64 sr, .int .u64 (im : Int), .int .i64 ba, .int .i64 ix, .bool hb, .bool hi, .int .i64 dp, .int .i64 lb] 32) = W1 := ⟨_, rfl⟩
  have hb1 : Below w.heap.size w W1 := by rw [← hW1]; exact below_new w _
  have hx1 : W1.heap[w.heap.size]? = some (.cells #[.int .i64 6, .int .i64 bn, .int .i64 sh, .int .i64 cd, .int .i64 ds, .int .i64 sr, .int .u64 (im : Int), .int .i64 ba, .int .i64 ix, .bool hb, .bool hi, .int .i64 dp, .int .i64 lb] 32 (0, 0)) := by rw [← hW1]; exact heap_alloc_new _ _
  have hE1 := hE.below hb1
  have hr0 := Lib.hid (fun (W : World) (hE : Env W) => imm129_any im him W hE)
  unfold StrPost at hr0
  obtain ⟨x0, hx0'⟩ : ∃ s, bt (immT im) = s := ⟨_, rfl⟩
  rw [hx0'] at hr0
  have hX0 := Lib.hid (show x0.data.toList = immT im from by rw [← hx0']; rfl)
  clear hx0'
  have hr1 := Lib.hid (fun (W : World) (hE : Env W) => reg46_any ds hds W hE)
  have l1 := regT_len ds
  unfold StrPost at hr1
  obtain ⟨x1, hx1'⟩ : ∃ s, bt (regT ds) = s := ⟨_, rfl⟩
  rw [hx1'] at hr1 l1
  have hX1 := Lib.hid (show x1.data.toList = regT ds from by rw [← hx1']; rfl)
  clear hx1'
  have hbw := Lib.hid (show Below w.heap.size w W1.drew from hb1.drew)
  have hx := Lib.hid (show W1.drew.heap[w.heap.size]? = some (.cells #[.int .i64 6, .int .i64 bn, .int .i64 sh, .int .i64 cd, .int .i64 ds, .int .i64 sr, .int .u64 (im : Int), .int .i64 ba, .int .i64 ix, .bool hb, .bool hi, .int .i64 dp, .int .i64 lb] 32 (0, 0)) from hx1)
  have hE2 := Lib.hid (show Env W1.drew from hE1.below (Below.refl _ _).drew)
  have hW1' := Lib.hid hW1
  clear hb1 hx1 hE1 hE hW1
  unfold inV inC
  go_enter Tryz.func104, Tryz.ntmps104
  go_upto_region 11 with fail
  rw [hW1'.out]
  go_region_held_law (fun W => W.cell? ⟨w.heap.size, 4, none⟩ = some (.int .i64 ds) ∧ W.cell? ⟨w.heap.size, 6, none⟩ = some (.int .u64 (im : Int))) (first | exact ⟨(box13 hx.out).2.2.2.2.1, (box13 hx.out).2.2.2.2.2.2.1⟩ | exact ⟨(box13 (halloc hx.out _)).2.2.2.2.1, (box13 (halloc hx.out _)).2.2.2.2.2.2.1⟩) (first | (go_at_call 129; with_reducible refine (hr0.out _ hE2.out).mono ?_; rintro e w4 ⟨rfl, hb4⟩; have hx := Lib.hid ((hb4.block _ (blk_lt hx.out)).trans hx.out); have hE2 := Lib.hid (hE2.out.below hb4); have hbw := Lib.hid (Below.next hbw.out hb4); clear hb4) | (go_at_call 46; with_reducible refine (hr1.out _ hE2.out).mono ?_; rintro e w4 ⟨rfl, hb4⟩; have hx := Lib.hid ((hb4.block _ (blk_lt hx.out)).trans hx.out); have hE2 := Lib.hid (hE2.out.below hb4); have hbw := Lib.hid (Below.next hbw.out hb4); clear hb4))
  all_goals (
    go_wp2
    go_ret
    exact ops2 hX0.out hX1.out hbw.out)
set_option maxRecDepth 100000 in
set_option maxHeartbeats 8000000 in
theorem ops8_any (bn sh cd ds sr : Int) (im : Nat) (ba ix : Int) (hb hi : Bool) (dp lb : Int) (him : im < 18446744073709551616) (hds : 0 ≤ ds ∧ ds ≤ 15) (w : World) (hE : Env w) : Calls Tryz.prog 104 #[inV ⟨8, bn, sh, cd, ds, sr, im, ba, ix, hb, hi, dp, lb⟩] w (OpsPost [(immT im), (regT ds)] w) := by
  obtain ⟨W1, hW1⟩ : ∃ W1, w.alloc (.cells #[.int .i64 8, .int .i64 bn, .int .i64 sh, .int .i64 cd, .int .i64 ds, .int .i64 sr, .int .u64 (im : Int), .int .i64 ba, .int .i64 ix, .bool hb, .bool hi, .int .i64 dp, .int .i64 lb] 32) = W1 := ⟨_, rfl⟩
  have hb1 : Below w.heap.size w W1 := by rw [← hW1]; exact below_new w _
  have hx1 : W1.heap[w.heap.size]? = some (.cells #[.int .i64 8, .int .i64 bn, .int .i64 sh, .int .i64 cd, .int .i64 ds, .int .i64 sr, .int .u64 (im : Int), .int .i64 ba, .int .i64 ix, .bool hb, .bool hi, .int .i64 dp, .int .i64 lb] 32 (0, 0)) := by rw [← hW1]; exact heap_alloc_new _ _
  have hE1 := hE.below hb1
  have hr0 := Lib.hid (fun (W : World) (hE : Env W) => imm129_any im him W hE)
  unfold StrPost at hr0
  obtain ⟨x0, hx0'⟩ : ∃ s, bt (immT im) = s := ⟨_, rfl⟩
  rw [hx0'] at hr0
  have hX0 := Lib.hid (show x0.data.toList = immT im from by rw [← hx0']; rfl)
  clear hx0'
  have hr1 := Lib.hid (fun (W : World) (hE : Env W) => reg46_any ds hds W hE)
  have l1 := regT_len ds
  unfold StrPost at hr1
  obtain ⟨x1, hx1'⟩ : ∃ s, bt (regT ds) = s := ⟨_, rfl⟩
  rw [hx1'] at hr1 l1
  have hX1 := Lib.hid (show x1.data.toList = regT ds from by rw [← hx1']; rfl)
  clear hx1'
  have hbw := Lib.hid (show Below w.heap.size w W1.drew from hb1.drew)
  have hx := Lib.hid (show W1.drew.heap[w.heap.size]? = some (.cells #[.int .i64 8, .int .i64 bn, .int .i64 sh, .int .i64 cd, .int .i64 ds, .int .i64 sr, .int .u64 (im : Int), .int .i64 ba, .int .i64 ix, .bool hb, .bool hi, .int .i64 dp, .int .i64 lb] 32 (0, 0)) from hx1)
  have hE2 := Lib.hid (show Env W1.drew from hE1.below (Below.refl _ _).drew)
  have hW1' := Lib.hid hW1
  clear hb1 hx1 hE1 hE hW1
  unfold inV inC
  go_enter Tryz.func104, Tryz.ntmps104
  go_upto_region 11 with fail
  rw [hW1'.out]
  go_region_held_law (fun W => W.cell? ⟨w.heap.size, 4, none⟩ = some (.int .i64 ds) ∧ W.cell? ⟨w.heap.size, 6, none⟩ = some (.int .u64 (im : Int))) (first | exact ⟨(box13 hx.out).2.2.2.2.1, (box13 hx.out).2.2.2.2.2.2.1⟩ | exact ⟨(box13 (halloc hx.out _)).2.2.2.2.1, (box13 (halloc hx.out _)).2.2.2.2.2.2.1⟩) (first | (go_at_call 129; with_reducible refine (hr0.out _ hE2.out).mono ?_; rintro e w4 ⟨rfl, hb4⟩; have hx := Lib.hid ((hb4.block _ (blk_lt hx.out)).trans hx.out); have hE2 := Lib.hid (hE2.out.below hb4); have hbw := Lib.hid (Below.next hbw.out hb4); clear hb4) | (go_at_call 46; with_reducible refine (hr1.out _ hE2.out).mono ?_; rintro e w4 ⟨rfl, hb4⟩; have hx := Lib.hid ((hb4.block _ (blk_lt hx.out)).trans hx.out); have hE2 := Lib.hid (hE2.out.below hb4); have hbw := Lib.hid (Below.next hbw.out hb4); clear hb4))
  all_goals (
    go_wp2
    go_ret
    exact ops2 hX0.out hX1.out hbw.out)
set_option maxRecDepth 100000 in
set_option maxHeartbeats 8000000 in
theorem ops13_any (bn sh cd ds sr : Int) (im : Nat) (ba ix : Int) (hb hi : Bool) (dp lb : Int) (him : im < 18446744073709551616) (hds : 0 ≤ ds ∧ ds ≤ 15) (w : World) (hE : Env w) : Calls Tryz.prog 104 #[inV ⟨13, bn, sh, cd, ds, sr, im, ba, ix, hb, hi, dp, lb⟩] w (OpsPost [(immT im), (regT ds)] w) := by
  obtain ⟨W1, hW1⟩ : ∃ W1, w.alloc (.cells #[.int .i64 13, .int .i64 bn, .int .i64 sh, .int .i64 cd, .int .i64 ds, .int .i64 sr, .int .u64 (im : Int), .int .i64 ba, .int .i64 ix, .bool hb, .bool hi, .int .i64 dp, .int .i64 lb] 32) = W1 := ⟨_, rfl⟩
  have hb1 : Below w.heap.size w W1 := by rw [← hW1]; exact below_new w _
  have hx1 : W1.heap[w.heap.size]? = some (.cells #[.int .i64 13, .int .i64 bn, .int .i64 sh, .int .i64 cd, .int .i64 ds, .int .i64 sr, .int .u64 (im : Int), .int .i64 ba, .int .i64 ix, .bool hb, .bool hi, .int .i64 dp, .int .i64 lb] 32 (0, 0)) := by rw [← hW1]; exact heap_alloc_new _ _
  have hE1 := hE.below hb1
  have hr0 := Lib.hid (fun (W : World) (hE : Env W) => imm129_any im him W hE)
  unfold StrPost at hr0
  obtain ⟨x0, hx0'⟩ : ∃ s, bt (immT im) = s := ⟨_, rfl⟩
  rw [hx0'] at hr0
  have hX0 := Lib.hid (show x0.data.toList = immT im from by rw [← hx0']; rfl)
  clear hx0'
  have hr1 := Lib.hid (fun (W : World) (hE : Env W) => reg46_any ds hds W hE)
  have l1 := regT_len ds
  unfold StrPost at hr1
  obtain ⟨x1, hx1'⟩ : ∃ s, bt (regT ds) = s := ⟨_, rfl⟩
  rw [hx1'] at hr1 l1
  have hX1 := Lib.hid (show x1.data.toList = regT ds from by rw [← hx1']; rfl)
  clear hx1'
  have hbw := Lib.hid (show Below w.heap.size w W1.drew from hb1.drew)
  have hx := Lib.hid (show W1.drew.heap[w.heap.size]? = some (.cells #[.int .i64 13, .int .i64 bn, .int .i64 sh, .int .i64 cd, .int .i64 ds, .int .i64 sr, .int .u64 (im : Int), .int .i64 ba, .int .i64 ix, .bool hb, .bool hi, .int .i64 dp, .int .i64 lb] 32 (0, 0)) from hx1)
  have hE2 := Lib.hid (show Env W1.drew from hE1.below (Below.refl _ _).drew)
  have hW1' := Lib.hid hW1
  clear hb1 hx1 hE1 hE hW1
  unfold inV inC
  go_enter Tryz.func104, Tryz.ntmps104
  go_upto_region 11 with fail
  rw [hW1'.out]
  go_region_held_law (fun W => W.cell? ⟨w.heap.size, 4, none⟩ = some (.int .i64 ds) ∧ W.cell? ⟨w.heap.size, 6, none⟩ = some (.int .u64 (im : Int))) (first | exact ⟨(box13 hx.out).2.2.2.2.1, (box13 hx.out).2.2.2.2.2.2.1⟩ | exact ⟨(box13 (halloc hx.out _)).2.2.2.2.1, (box13 (halloc hx.out _)).2.2.2.2.2.2.1⟩) (first | (go_at_call 129; with_reducible refine (hr0.out _ hE2.out).mono ?_; rintro e w4 ⟨rfl, hb4⟩; have hx := Lib.hid ((hb4.block _ (blk_lt hx.out)).trans hx.out); have hE2 := Lib.hid (hE2.out.below hb4); have hbw := Lib.hid (Below.next hbw.out hb4); clear hb4) | (go_at_call 46; with_reducible refine (hr1.out _ hE2.out).mono ?_; rintro e w4 ⟨rfl, hb4⟩; have hx := Lib.hid ((hb4.block _ (blk_lt hx.out)).trans hx.out); have hE2 := Lib.hid (hE2.out.below hb4); have hbw := Lib.hid (Below.next hbw.out hb4); clear hb4))
  all_goals (
    go_wp2
    go_ret
    exact ops2 hX0.out hX1.out hbw.out)
set_option maxRecDepth 100000 in
set_option maxHeartbeats 8000000 in
theorem ops7_any (bn sh cd ds sr : Int) (im : Nat) (ba ix : Int) (hb hi : Bool) (dp lb : Int) (hds : 0 ≤ ds ∧ ds ≤ 15) (w : World) (hE : Env w) : Calls Tryz.prog 104 #[inV ⟨7, bn, sh, cd, ds, sr, im, ba, ix, hb, hi, dp, lb⟩] w (OpsPost [[37, 99, 108], (regT ds)] w) := by
  obtain ⟨W1, hW1⟩ : ∃ W1, w.alloc (.cells #[.int .i64 7, .int .i64 bn, .int .i64 sh, .int .i64 cd, .int .i64 ds, .int .i64 sr, .int .u64 (im : Int), .int .i64 ba, .int .i64 ix, .bool hb, .bool hi, .int .i64 dp, .int .i64 lb] 32) = W1 := ⟨_, rfl⟩
  have hb1 : Below w.heap.size w W1 := by rw [← hW1]; exact below_new w _
  have hx1 : W1.heap[w.heap.size]? = some (.cells #[.int .i64 7, .int .i64 bn, .int .i64 sh, .int .i64 cd, .int .i64 ds, .int .i64 sr, .int .u64 (im : Int), .int .i64 ba, .int .i64 ix, .bool hb, .bool hi, .int .i64 dp, .int .i64 lb] 32 (0, 0)) := by rw [← hW1]; exact heap_alloc_new _ _
  have hE1 := hE.below hb1
  have hr0 := Lib.hid (fun (W : World) (hE : Env W) => reg46_any ds hds W hE)
  have l0 := regT_len ds
  unfold StrPost at hr0
  obtain ⟨x0, hx0'⟩ : ∃ s, bt (regT ds) = s := ⟨_, rfl⟩
  rw [hx0'] at hr0 l0
  have hX0 := Lib.hid (show x0.data.toList = regT ds from by rw [← hx0']; rfl)
  clear hx0'
  have hbw := Lib.hid (show Below w.heap.size w W1 from hb1)
  have hx := Lib.hid (show W1.heap[w.heap.size]? = some (.cells #[.int .i64 7, .int .i64 bn, .int .i64 sh, .int .i64 cd, .int .i64 ds, .int .i64 sr, .int .u64 (im : Int), .int .i64 ba, .int .i64 ix, .bool hb, .bool hi, .int .i64 dp, .int .i64 lb] 32 (0, 0)) from hx1)
  have hE2 := Lib.hid (show Env W1 from hE1)
  have hW1' := Lib.hid hW1
  clear hb1 hx1 hE1 hE hW1
  unfold inV inC
  go_enter Tryz.func104, Tryz.ntmps104
  go_upto_region 13 with fail
  rw [hW1'.out]
  obtain ⟨g0, g1, g2, g3, g4, g5, g6, g7, g8, g9, g10, g11, g12⟩ := box13 hx.out
  go_wp2_with (first | (go_at_call 46; with_reducible refine (hr0.out _ hE2.out).mono ?_; rintro e w4 ⟨rfl, hb4⟩; have hx := Lib.hid ((hb4.block _ (blk_lt hx.out)).trans hx.out); have hE2 := Lib.hid (hE2.out.below hb4); have hbw := Lib.hid (Below.next hbw.out hb4); clear hb4 g0 g1 g2 g3 g4 g5 g6 g7 g8 g9 g10 g11 g12; obtain ⟨g0, g1, g2, g3, g4, g5, g6, g7, g8, g9, g10, g11, g12⟩ := box13 hx.out))
  all_goals (
    go_wp2
    go_ret
    exact ops2 (x := ⟨#[37, 99, 108]⟩) rfl hX0.out hbw.out)
set_option maxRecDepth 100000 in
set_option maxHeartbeats 8000000 in
theorem ops9_any (bn sh cd ds sr : Int) (im : Nat) (ba ix : Int) (hb hi : Bool) (dp lb : Int) (hds : 0 ≤ ds ∧ ds ≤ 15) (w : World) (hE : Env w) : Calls Tryz.prog 104 #[inV ⟨9, bn, sh, cd, ds, sr, im, ba, ix, hb, hi, dp, lb⟩] w (OpsPost [(regT ds)] w) := by
  obtain ⟨W1, hW1⟩ : ∃ W1, w.alloc (.cells #[.int .i64 9, .int .i64 bn, .int .i64 sh, .int .i64 cd, .int .i64 ds, .int .i64 sr, .int .u64 (im : Int), .int .i64 ba, .int .i64 ix, .bool hb, .bool hi, .int .i64 dp, .int .i64 lb] 32) = W1 := ⟨_, rfl⟩
  have hb1 : Below w.heap.size w W1 := by rw [← hW1]; exact below_new w _
  have hx1 : W1.heap[w.heap.size]? = some (.cells #[.int .i64 9, .int .i64 bn, .int .i64 sh, .int .i64 cd, .int .i64 ds, .int .i64 sr, .int .u64 (im : Int), .int .i64 ba, .int .i64 ix, .bool hb, .bool hi, .int .i64 dp, .int .i64 lb] 32 (0, 0)) := by rw [← hW1]; exact heap_alloc_new _ _
  have hE1 := hE.below hb1
  have hr0 := Lib.hid (fun (W : World) (hE : Env W) => reg46_any ds hds W hE)
  have l0 := regT_len ds
  unfold StrPost at hr0
  obtain ⟨x0, hx0'⟩ : ∃ s, bt (regT ds) = s := ⟨_, rfl⟩
  rw [hx0'] at hr0 l0
  have hX0 := Lib.hid (show x0.data.toList = regT ds from by rw [← hx0']; rfl)
  clear hx0'
  have hbw := Lib.hid (show Below w.heap.size w W1 from hb1)
  have hx := Lib.hid (show W1.heap[w.heap.size]? = some (.cells #[.int .i64 9, .int .i64 bn, .int .i64 sh, .int .i64 cd, .int .i64 ds, .int .i64 sr, .int .u64 (im : Int), .int .i64 ba, .int .i64 ix, .bool hb, .bool hi, .int .i64 dp, .int .i64 lb] 32 (0, 0)) from hx1)
  have hE2 := Lib.hid (show Env W1 from hE1)
  have hW1' := Lib.hid hW1
  clear hb1 hx1 hE1 hE hW1
  unfold inV inC
  go_enter Tryz.func104, Tryz.ntmps104
  go_upto_region 16 with fail
  rw [hW1'.out]
  obtain ⟨g0, g1, g2, g3, g4, g5, g6, g7, g8, g9, g10, g11, g12⟩ := box13 hx.out
  go_wp2_with (first | (go_at_call 46; with_reducible refine (hr0.out _ hE2.out).mono ?_; rintro e w4 ⟨rfl, hb4⟩; have hx := Lib.hid ((hb4.block _ (blk_lt hx.out)).trans hx.out); have hE2 := Lib.hid (hE2.out.below hb4); have hbw := Lib.hid (Below.next hbw.out hb4); clear hb4 g0 g1 g2 g3 g4 g5 g6 g7 g8 g9 g10 g11 g12; obtain ⟨g0, g1, g2, g3, g4, g5, g6, g7, g8, g9, g10, g11, g12⟩ := box13 hx.out))
  all_goals (
    go_wp2
    go_ret
    exact ops1 hX0.out hbw.out)
set_option maxRecDepth 100000 in
set_option maxHeartbeats 8000000 in
theorem ops10_any (bn sh cd ds sr : Int) (im : Nat) (ba ix : Int) (hb hi : Bool) (dp lb : Int) (hds : 0 ≤ ds ∧ ds ≤ 15) (w : World) (hE : Env w) : Calls Tryz.prog 104 #[inV ⟨10, bn, sh, cd, ds, sr, im, ba, ix, hb, hi, dp, lb⟩] w (OpsPost [(regT ds)] w) := by
  obtain ⟨W1, hW1⟩ : ∃ W1, w.alloc (.cells #[.int .i64 10, .int .i64 bn, .int .i64 sh, .int .i64 cd, .int .i64 ds, .int .i64 sr, .int .u64 (im : Int), .int .i64 ba, .int .i64 ix, .bool hb, .bool hi, .int .i64 dp, .int .i64 lb] 32) = W1 := ⟨_, rfl⟩
  have hb1 : Below w.heap.size w W1 := by rw [← hW1]; exact below_new w _
  have hx1 : W1.heap[w.heap.size]? = some (.cells #[.int .i64 10, .int .i64 bn, .int .i64 sh, .int .i64 cd, .int .i64 ds, .int .i64 sr, .int .u64 (im : Int), .int .i64 ba, .int .i64 ix, .bool hb, .bool hi, .int .i64 dp, .int .i64 lb] 32 (0, 0)) := by rw [← hW1]; exact heap_alloc_new _ _
  have hE1 := hE.below hb1
  have hr0 := Lib.hid (fun (W : World) (hE : Env W) => reg46_any ds hds W hE)
  have l0 := regT_len ds
  unfold StrPost at hr0
  obtain ⟨x0, hx0'⟩ : ∃ s, bt (regT ds) = s := ⟨_, rfl⟩
  rw [hx0'] at hr0 l0
  have hX0 := Lib.hid (show x0.data.toList = regT ds from by rw [← hx0']; rfl)
  clear hx0'
  have hbw := Lib.hid (show Below w.heap.size w W1 from hb1)
  have hx := Lib.hid (show W1.heap[w.heap.size]? = some (.cells #[.int .i64 10, .int .i64 bn, .int .i64 sh, .int .i64 cd, .int .i64 ds, .int .i64 sr, .int .u64 (im : Int), .int .i64 ba, .int .i64 ix, .bool hb, .bool hi, .int .i64 dp, .int .i64 lb] 32 (0, 0)) from hx1)
  have hE2 := Lib.hid (show Env W1 from hE1)
  have hW1' := Lib.hid hW1
  clear hb1 hx1 hE1 hE hW1
  unfold inV inC
  go_enter Tryz.func104, Tryz.ntmps104
  go_upto_region 16 with fail
  rw [hW1'.out]
  obtain ⟨g0, g1, g2, g3, g4, g5, g6, g7, g8, g9, g10, g11, g12⟩ := box13 hx.out
  go_wp2_with (first | (go_at_call 46; with_reducible refine (hr0.out _ hE2.out).mono ?_; rintro e w4 ⟨rfl, hb4⟩; have hx := Lib.hid ((hb4.block _ (blk_lt hx.out)).trans hx.out); have hE2 := Lib.hid (hE2.out.below hb4); have hbw := Lib.hid (Below.next hbw.out hb4); clear hb4 g0 g1 g2 g3 g4 g5 g6 g7 g8 g9 g10 g11 g12; obtain ⟨g0, g1, g2, g3, g4, g5, g6, g7, g8, g9, g10, g11, g12⟩ := box13 hx.out))
  all_goals (
    go_wp2
    go_ret
    exact ops1 hX0.out hbw.out)
set_option maxRecDepth 100000 in
set_option maxHeartbeats 8000000 in
theorem ops14_any (bn sh cd ds sr : Int) (im : Nat) (ba ix : Int) (hb hi : Bool) (dp lb : Int) (hds : 0 ≤ ds ∧ ds ≤ 15) (w : World) (hE : Env w) : Calls Tryz.prog 104 #[inV ⟨14, bn, sh, cd, ds, sr, im, ba, ix, hb, hi, dp, lb⟩] w (OpsPost [(lowT ds)] w) := by
  obtain ⟨W1, hW1⟩ : ∃ W1, w.alloc (.cells #[.int .i64 14, .int .i64 bn, .int .i64 sh, .int .i64 cd, .int .i64 ds, .int .i64 sr, .int .u64 (im : Int), .int .i64 ba, .int .i64 ix, .bool hb, .bool hi, .int .i64 dp, .int .i64 lb] 32) = W1 := ⟨_, rfl⟩
  have hb1 : Below w.heap.size w W1 := by rw [← hW1]; exact below_new w _
  have hx1 : W1.heap[w.heap.size]? = some (.cells #[.int .i64 14, .int .i64 bn, .int .i64 sh, .int .i64 cd, .int .i64 ds, .int .i64 sr, .int .u64 (im : Int), .int .i64 ba, .int .i64 ix, .bool hb, .bool hi, .int .i64 dp, .int .i64 lb] 32 (0, 0)) := by rw [← hW1]; exact heap_alloc_new _ _
  have hE1 := hE.below hb1
  have hr0 := Lib.hid (fun (W : World) (hE : Env W) => low130_any ds hds W hE)
  have l0 := lowT_len ds
  unfold StrPost at hr0
  obtain ⟨x0, hx0'⟩ : ∃ s, bt (lowT ds) = s := ⟨_, rfl⟩
  rw [hx0'] at hr0 l0
  have hX0 := Lib.hid (show x0.data.toList = lowT ds from by rw [← hx0']; rfl)
  clear hx0'
  have hbw := Lib.hid (show Below w.heap.size w W1 from hb1)
  have hx := Lib.hid (show W1.heap[w.heap.size]? = some (.cells #[.int .i64 14, .int .i64 bn, .int .i64 sh, .int .i64 cd, .int .i64 ds, .int .i64 sr, .int .u64 (im : Int), .int .i64 ba, .int .i64 ix, .bool hb, .bool hi, .int .i64 dp, .int .i64 lb] 32 (0, 0)) from hx1)
  have hE2 := Lib.hid (show Env W1 from hE1)
  have hW1' := Lib.hid hW1
  clear hb1 hx1 hE1 hE hW1
  unfold inV inC
  go_enter Tryz.func104, Tryz.ntmps104
  go_upto_region 18 with fail
  rw [hW1'.out]
  obtain ⟨g0, g1, g2, g3, g4, g5, g6, g7, g8, g9, g10, g11, g12⟩ := box13 hx.out
  go_wp2_with (first | (go_at_call 130; with_reducible refine (hr0.out _ hE2.out).mono ?_; rintro e w4 ⟨rfl, hb4⟩; have hx := Lib.hid ((hb4.block _ (blk_lt hx.out)).trans hx.out); have hE2 := Lib.hid (hE2.out.below hb4); have hbw := Lib.hid (Below.next hbw.out hb4); clear hb4 g0 g1 g2 g3 g4 g5 g6 g7 g8 g9 g10 g11 g12; obtain ⟨g0, g1, g2, g3, g4, g5, g6, g7, g8, g9, g10, g11, g12⟩ := box13 hx.out))
  all_goals (
    go_wp2
    go_ret
    exact ops1 hX0.out hbw.out)
set_option maxRecDepth 100000 in
set_option maxHeartbeats 8000000 in
theorem ops17_any (bn sh cd ds sr : Int) (im : Nat) (ba ix : Int) (hb hi : Bool) (dp lb : Int) (hl0 : -9223372036854775808 ≤ lb) (hl1 : lb ≤ 9223372036854775807) (w : World) (hE : Env w) : Calls Tryz.prog 104 #[inV ⟨17, bn, sh, cd, ds, sr, im, ba, ix, hb, hi, dp, lb⟩] w (OpsPost [(lblT lb)] w) := by
  obtain ⟨W1, hW1⟩ : ∃ W1, w.alloc (.cells #[.int .i64 17, .int .i64 bn, .int .i64 sh, .int .i64 cd, .int .i64 ds, .int .i64 sr, .int .u64 (im : Int), .int .i64 ba, .int .i64 ix, .bool hb, .bool hi, .int .i64 dp, .int .i64 lb] 32) = W1 := ⟨_, rfl⟩
  have hb1 : Below w.heap.size w W1 := by rw [← hW1]; exact below_new w _
  have hx1 : W1.heap[w.heap.size]? = some (.cells #[.int .i64 17, .int .i64 bn, .int .i64 sh, .int .i64 cd, .int .i64 ds, .int .i64 sr, .int .u64 (im : Int), .int .i64 ba, .int .i64 ix, .bool hb, .bool hi, .int .i64 dp, .int .i64 lb] 32 (0, 0)) := by rw [← hW1]; exact heap_alloc_new _ _
  have hE1 := hE.below hb1
  have hr0 := Lib.hid (fun (W : World) (hE : Env W) => label100_any lb hl0 hl1 W hE)
  unfold StrPost at hr0
  obtain ⟨x0, hx0'⟩ : ∃ s, bt (lblT lb) = s := ⟨_, rfl⟩
  rw [hx0'] at hr0
  have hX0 := Lib.hid (show x0.data.toList = lblT lb from by rw [← hx0']; rfl)
  clear hx0'
  have hbw := Lib.hid (show Below w.heap.size w W1 from hb1)
  have hx := Lib.hid (show W1.heap[w.heap.size]? = some (.cells #[.int .i64 17, .int .i64 bn, .int .i64 sh, .int .i64 cd, .int .i64 ds, .int .i64 sr, .int .u64 (im : Int), .int .i64 ba, .int .i64 ix, .bool hb, .bool hi, .int .i64 dp, .int .i64 lb] 32 (0, 0)) from hx1)
  have hE2 := Lib.hid (show Env W1 from hE1)
  have hW1' := Lib.hid hW1
  clear hb1 hx1 hE1 hE hW1
  unfold inV inC
  go_enter Tryz.func104, Tryz.ntmps104
  go_upto_region 23 with fail
  rw [hW1'.out]
  obtain ⟨g0, g1, g2, g3, g4, g5, g6, g7, g8, g9, g10, g11, g12⟩ := box13 hx.out
  go_wp2_with (first | (go_at_call 100; with_reducible refine (hr0.out _ hE2.out).mono ?_; rintro e w4 ⟨rfl, hb4⟩; have hx := Lib.hid ((hb4.block _ (blk_lt hx.out)).trans hx.out); have hE2 := Lib.hid (hE2.out.below hb4); have hbw := Lib.hid (Below.next hbw.out hb4); clear hb4 g0 g1 g2 g3 g4 g5 g6 g7 g8 g9 g10 g11 g12; obtain ⟨g0, g1, g2, g3, g4, g5, g6, g7, g8, g9, g10, g11, g12⟩ := box13 hx.out))
  all_goals (
    go_wp2
    go_ret
    exact ops1 hX0.out hbw.out)
set_option maxRecDepth 100000 in
set_option maxHeartbeats 8000000 in
theorem ops18_any (bn sh cd ds sr : Int) (im : Nat) (ba ix : Int) (hb hi : Bool) (dp lb : Int) (hl0 : -9223372036854775808 ≤ lb) (hl1 : lb ≤ 9223372036854775807) (w : World) (hE : Env w) : Calls Tryz.prog 104 #[inV ⟨18, bn, sh, cd, ds, sr, im, ba, ix, hb, hi, dp, lb⟩] w (OpsPost [(lblT lb)] w) := by
  obtain ⟨W1, hW1⟩ : ∃ W1, w.alloc (.cells #[.int .i64 18, .int .i64 bn, .int .i64 sh, .int .i64 cd, .int .i64 ds, .int .i64 sr, .int .u64 (im : Int), .int .i64 ba, .int .i64 ix, .bool hb, .bool hi, .int .i64 dp, .int .i64 lb] 32) = W1 := ⟨_, rfl⟩
  have hb1 : Below w.heap.size w W1 := by rw [← hW1]; exact below_new w _
  have hx1 : W1.heap[w.heap.size]? = some (.cells #[.int .i64 18, .int .i64 bn, .int .i64 sh, .int .i64 cd, .int .i64 ds, .int .i64 sr, .int .u64 (im : Int), .int .i64 ba, .int .i64 ix, .bool hb, .bool hi, .int .i64 dp, .int .i64 lb] 32 (0, 0)) := by rw [← hW1]; exact heap_alloc_new _ _
  have hE1 := hE.below hb1
  have hr0 := Lib.hid (fun (W : World) (hE : Env W) => label100_any lb hl0 hl1 W hE)
  unfold StrPost at hr0
  obtain ⟨x0, hx0'⟩ : ∃ s, bt (lblT lb) = s := ⟨_, rfl⟩
  rw [hx0'] at hr0
  have hX0 := Lib.hid (show x0.data.toList = lblT lb from by rw [← hx0']; rfl)
  clear hx0'
  have hbw := Lib.hid (show Below w.heap.size w W1 from hb1)
  have hx := Lib.hid (show W1.heap[w.heap.size]? = some (.cells #[.int .i64 18, .int .i64 bn, .int .i64 sh, .int .i64 cd, .int .i64 ds, .int .i64 sr, .int .u64 (im : Int), .int .i64 ba, .int .i64 ix, .bool hb, .bool hi, .int .i64 dp, .int .i64 lb] 32 (0, 0)) from hx1)
  have hE2 := Lib.hid (show Env W1 from hE1)
  have hW1' := Lib.hid hW1
  clear hb1 hx1 hE1 hE hW1
  unfold inV inC
  go_enter Tryz.func104, Tryz.ntmps104
  go_upto_region 23 with fail
  rw [hW1'.out]
  obtain ⟨g0, g1, g2, g3, g4, g5, g6, g7, g8, g9, g10, g11, g12⟩ := box13 hx.out
  go_wp2_with (first | (go_at_call 100; with_reducible refine (hr0.out _ hE2.out).mono ?_; rintro e w4 ⟨rfl, hb4⟩; have hx := Lib.hid ((hb4.block _ (blk_lt hx.out)).trans hx.out); have hE2 := Lib.hid (hE2.out.below hb4); have hbw := Lib.hid (Below.next hbw.out hb4); clear hb4 g0 g1 g2 g3 g4 g5 g6 g7 g8 g9 g10 g11 g12; obtain ⟨g0, g1, g2, g3, g4, g5, g6, g7, g8, g9, g10, g11, g12⟩ := box13 hx.out))
  all_goals (
    go_wp2
    go_ret
    exact ops1 hX0.out hbw.out)
set_option maxRecDepth 100000 in
theorem opsR_any (w : World) : Calls Tryz.prog 104 #[inV (inZ 20)] w (OpsPost [] w) := by
  unfold inV inC inZ
  go_enter Tryz.func104, Tryz.ntmps104
  go_wp2
  go_ret
  exact .inl ⟨rfl, rfl, below_new _ _⟩
theorem addrS_yes {ba ix dp : Int} {hb hi : Bool} (h : addrB ba ix hb hi dp = true) : addrS ba ix hb hi dp = addrT ba ix hb hi dp := by unfold addrS; rw [h]; rfl
theorem dp_in {ba ix dp : Int} {hb hi : Bool} (h : addrB ba ix hb hi dp = true) : -9223372036854775808 ≤ dp ∧ dp ≤ 9223372036854775807 := by
  obtain ⟨_, _, _, _, _, h5, h6⟩ := addr_parts h
  omega
theorem ops_any {i : In} (h : Form i) (hl : i.op ≠ 19) (w : World) (hE : Env w) : Calls Tryz.prog 104 #[inV i] w (OpsPost (opsT i) w) := by
  cases h with
  | two op d s ho hd hs =>
    rcases ho with rfl | rfl | rfl | rfl
    · exact ops1_any _ _ _ _ _ _ _ _ _ _ _ _ hs hd w hE
    · exact ops11_any _ _ _ _ _ _ _ _ _ _ _ _ hs hd w hE
    · exact ops12_any _ _ _ _ _ _ _ _ _ _ _ _ hs hd w hE
    · exact ops15_any _ _ _ _ _ _ _ _ _ _ _ _ hs hd w hE
  | set d n hd hn => exact ops2_any _ _ _ _ _ _ _ _ _ _ _ _ hn hd w hE
  | load d ba ix hb hi dp hd ha =>
    have := ops3_any 0 0 0 d 0 0 ba ix hb hi dp 0 (dp_in ha).1 (dp_in ha).2 hd w hE
    rw [addrS_yes ha] at this
    exact this
  | store s ba ix hb hi dp hs ha =>
    have := ops4_any 0 0 0 0 s 0 ba ix hb hi dp 0 hs (dp_in ha).1 (dp_in ha).2 w hE
    rw [addrS_yes ha] at this
    exact this
  | bin b d s hb hd hs => exact ops5_any _ _ _ _ _ _ _ _ _ _ _ _ hs hd w hE
  | binI b d n hb hd hn => exact ops6_any _ _ _ _ _ _ _ _ _ _ _ _ (shortN_lt hn) hd w hE
  | shf h d hh hd => exact ops7_any _ _ _ _ _ _ _ _ _ _ _ _ hd w hE
  | shfI h d n hh hd hn =>
    have h64 : n < 18446744073709551616 := Nat.lt_trans hn (by decide)
    exact ops8_any _ _ _ _ _ _ _ _ _ _ _ _ h64 hd w hE
  | one op d ho hd =>
    rcases ho with rfl | rfl
    · exact ops9_any _ _ _ _ _ _ _ _ _ _ _ _ hd w hE
    · exact ops10_any _ _ _ _ _ _ _ _ _ _ _ _ hd w hE
  | cmpI d n hd hn => exact ops13_any _ _ _ _ _ _ _ _ _ _ _ _ (shortN_lt hn) hd w hE
  | setc c d hc hd => exact ops14_any _ _ _ _ _ _ _ _ _ _ _ _ hd w hE
  | movc c d s hc hd hs => exact ops16_any _ _ _ _ _ _ _ _ _ _ _ _ hs hd w hE
  | jump n hn => exact ops17_any _ _ _ _ _ _ _ _ _ _ _ _ (by omega) (by omega) w hE
  | brc c n hc hn => exact ops18_any _ _ _ _ _ _ _ _ _ _ _ _ (by omega) (by omega) w hE
  | lab n hn => exact absurd rfl hl
  | ret => exact opsR_any w
end Go.Proofs.YtmimmnjdgpdjlaaGreatDoor
