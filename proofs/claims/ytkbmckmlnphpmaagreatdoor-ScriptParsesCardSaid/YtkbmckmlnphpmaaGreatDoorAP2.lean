/- The reference's Unline, case by case (genap.py). -/
import Derived.Test.YtkbmckmlnphpmaaGreatDoorAP
set_option linter.unusedSimpArgs false
set_option linter.unusedVariables false
namespace Go.Proofs.YtkbmckmlnphpmaaGreatDoor
open Go.RowKit Go.Lib Go.Shelf

set_option maxRecDepth 100000 in
set_option maxHeartbeats 2000000 in
theorem refUnline_other (s : ByteArray) (p : ByteArray) (k1 : ¬ p.toList = [115, 111, 117, 114, 99, 101]) (k2 : ¬ p.toList = [109, 97, 99, 104, 105, 110, 101]) (k3 : ¬ p.toList = [108, 101, 97, 107]) (l : List Int) (n : Nat) (x : Int) (w : World) (hs : s.size ≤ 1000000) (hu : unwM s = some (p, l)) (hn : l.length = n + 1) (hx : l[n]? = some x) (hbig : ¬ 1000000 < x)
    (hm : unlineM s = none)  : Calls Tryz.prog 22 #[.string s] w (RUnlPost s w) := by
  have hm' := Lib.hid hm
  have hb0 := Lib.hid ((Below.refl w.heap.size w).alloc (Nat.le_refl _) (.cells zAsk 42))
  have hk := Lib.hid (refUnl_hk s p l w zAsk hs hu)
  have hn' := Lib.hid hn
  have hx' := Lib.hid hx
  rw [hn] at hk
  have hn1 : n ≤ 1000000 := by have := unw_len hu; omega
  clear hu hn hx hm
  unfold zAsk at hb0 hk
  go_enter Tryz.func22, Tryz.ntmps22
  go_wp2_with fail
  refine hk.out.mono ?_
  rintro e w1 ⟨A, c, rfl, hA, hb1⟩
  obtain ⟨blk, off, x', rfl, hxx, cx, x0, x1⟩ := hA.at_ (k := n) (by rw [hn'.out]; omega)
  rw [hx'.out] at hxx
  cases hxx
  have hw : IntKind.i64.wrap x = x := by rw [IntKind.wrap_i64]; omega
  obtain ⟨g0, g1, g2, g3, g4, gf⟩ := box5 (box_kept w _ hb1)
  have hsz := hb1.size
  have hsz2 : w.heap.size < w1.heap.size := by simp at hsz; omega
  have hfin := Lib.hid (hb0.out.trans (hb1.mono hb0.out.size))
  clear hb1 hsz hA
  have e0 : ¬ (((n + 1 : Nat) : Int) < 1) := by omega
  have ha : ∀ (W : World) (o : Obj) (k : Nat), W.heap.size = w1.heap.size → (W.alloc o).cell? ⟨w.heap.size, k, none⟩ = W.cell? ⟨w.heap.size, k, none⟩ := fun W o k h => World.cell?_alloc_past o _ _ (by omega)
  go_wp2_with fail
  refine bodyPost_ret (v := .tuple #[.agg zAsk, .bool false]) (by simp [results, Tryz.results22, go_sem, zAsk, ha, g0, g1, g2, g3, g4]) rfl ⟨fun _ => rfl, fun k st fu h => ?_, ?_⟩
  · rw [hm'.out] at h; cases h
  · repeat (first | with_reducible exact hfin.out | with_reducible refine Below.alloc ?_ (by simp; omega) _ | with_reducible refine Below.setCell ?_ (by simp) _)

set_option maxRecDepth 100000 in
set_option maxHeartbeats 2000000 in
theorem refUnline_src_no (s : ByteArray)  (l : List Int) (n : Nat) (x : Int) (w : World) (hs : s.size ≤ 1000000) (hu : unwM s = some (srcW, l)) (hn : l.length = n + 1) (hx : l[n]? = some x) (hbig : ¬ 1000000 < x)
    (hm : unlineM s = none) (hq : n ≠ 0) : Calls Tryz.prog 22 #[.string s] w (RUnlPost s w) := by
  have hm' := Lib.hid hm
  have hb0 := Lib.hid ((Below.refl w.heap.size w).alloc (Nat.le_refl _) (.cells zAsk 42))
  have hk := Lib.hid (refUnl_hk s srcW l w zAsk hs hu)
  have hn' := Lib.hid hn
  have hx' := Lib.hid hx
  rw [hn] at hk
  have hwd : srcW = ⟨#[115, 111, 117, 114, 99, 101]⟩ := rfl
  rw [hwd] at hk
  have hn1 : n ≤ 1000000 := by have := unw_len hu; omega
  have hq1 : (((n + 1 : Nat) : Int) == 1) = false := by simp; omega
  clear hu hn hx hm
  unfold zAsk at hb0 hk
  go_enter Tryz.func22, Tryz.ntmps22
  go_wp2_with fail
  refine hk.out.mono ?_
  rintro e w1 ⟨A, c, rfl, hA, hb1⟩
  obtain ⟨blk, off, x', rfl, hxx, cx, x0, x1⟩ := hA.at_ (k := n) (by rw [hn'.out]; omega)
  rw [hx'.out] at hxx
  cases hxx
  have hw : IntKind.i64.wrap x = x := by rw [IntKind.wrap_i64]; omega
  obtain ⟨g0, g1, g2, g3, g4, gf⟩ := box5 (box_kept w _ hb1)
  have hsz := hb1.size
  have hsz2 : w.heap.size < w1.heap.size := by simp at hsz; omega
  have hfin := Lib.hid (hb0.out.trans (hb1.mono hb0.out.size))
  clear hb1 hsz hA
  have e0 : ¬ (((n + 1 : Nat) : Int) < 1) := by omega
  have ha : ∀ (W : World) (o : Obj) (k : Nat), W.heap.size = w1.heap.size → (W.alloc o).cell? ⟨w.heap.size, k, none⟩ = W.cell? ⟨w.heap.size, k, none⟩ := fun W o k h => World.cell?_alloc_past o _ _ (by omega)
  go_wp2_with fail
  refine bodyPost_ret (v := .tuple #[.agg zAsk, .bool false]) (by simp [results, Tryz.results22, go_sem, zAsk, ha, g0, g1, g2, g3, g4]) rfl ⟨fun _ => rfl, fun k st fu h => ?_, ?_⟩
  · rw [hm'.out] at h; cases h
  · repeat (first | with_reducible exact hfin.out | with_reducible refine Below.alloc ?_ (by simp; omega) _ | with_reducible refine Below.setCell ?_ (by simp) _)

set_option maxRecDepth 100000 in
set_option maxHeartbeats 2000000 in
theorem refUnline_mac_no (s : ByteArray)  (l : List Int) (n : Nat) (x : Int) (w : World) (hs : s.size ≤ 1000000) (hu : unwM s = some (macW, l)) (hn : l.length = n + 1) (hx : l[n]? = some x) (hbig : ¬ 1000000 < x)
    (hm : unlineM s = none) (hq : n ≠ 1) : Calls Tryz.prog 22 #[.string s] w (RUnlPost s w) := by
  have hm' := Lib.hid hm
  have hb0 := Lib.hid ((Below.refl w.heap.size w).alloc (Nat.le_refl _) (.cells zAsk 42))
  have hk := Lib.hid (refUnl_hk s macW l w zAsk hs hu)
  have hn' := Lib.hid hn
  have hx' := Lib.hid hx
  rw [hn] at hk
  have hwd : macW = ⟨#[109, 97, 99, 104, 105, 110, 101]⟩ := rfl
  rw [hwd] at hk
  have hn1 : n ≤ 1000000 := by have := unw_len hu; omega
  have hq1 : (((n + 1 : Nat) : Int) == 2) = false := by simp; omega
  clear hu hn hx hm
  unfold zAsk at hb0 hk
  go_enter Tryz.func22, Tryz.ntmps22
  go_wp2_with fail
  refine hk.out.mono ?_
  rintro e w1 ⟨A, c, rfl, hA, hb1⟩
  obtain ⟨blk, off, x', rfl, hxx, cx, x0, x1⟩ := hA.at_ (k := n) (by rw [hn'.out]; omega)
  rw [hx'.out] at hxx
  cases hxx
  have hw : IntKind.i64.wrap x = x := by rw [IntKind.wrap_i64]; omega
  obtain ⟨g0, g1, g2, g3, g4, gf⟩ := box5 (box_kept w _ hb1)
  have hsz := hb1.size
  have hsz2 : w.heap.size < w1.heap.size := by simp at hsz; omega
  have hfin := Lib.hid (hb0.out.trans (hb1.mono hb0.out.size))
  clear hb1 hsz hA
  have e0 : ¬ (((n + 1 : Nat) : Int) < 1) := by omega
  have ha : ∀ (W : World) (o : Obj) (k : Nat), W.heap.size = w1.heap.size → (W.alloc o).cell? ⟨w.heap.size, k, none⟩ = W.cell? ⟨w.heap.size, k, none⟩ := fun W o k h => World.cell?_alloc_past o _ _ (by omega)
  go_wp2_with fail
  refine bodyPost_ret (v := .tuple #[.agg zAsk, .bool false]) (by simp [results, Tryz.results22, go_sem, zAsk, ha, g0, g1, g2, g3, g4]) rfl ⟨fun _ => rfl, fun k st fu h => ?_, ?_⟩
  · rw [hm'.out] at h; cases h
  · repeat (first | with_reducible exact hfin.out | with_reducible refine Below.alloc ?_ (by simp; omega) _ | with_reducible refine Below.setCell ?_ (by simp) _)

set_option maxRecDepth 100000 in
set_option maxHeartbeats 2000000 in
theorem refUnline_leak_no (s : ByteArray)  (l : List Int) (n : Nat) (x : Int) (w : World) (hs : s.size ≤ 1000000) (hu : unwM s = some (leakW, l)) (hn : l.length = n + 1) (hx : l[n]? = some x) (hbig : ¬ 1000000 < x)
    (hm : unlineM s = none) (hq : n ≠ 1) : Calls Tryz.prog 22 #[.string s] w (RUnlPost s w) := by
  have hm' := Lib.hid hm
  have hb0 := Lib.hid ((Below.refl w.heap.size w).alloc (Nat.le_refl _) (.cells zAsk 42))
  have hk := Lib.hid (refUnl_hk s leakW l w zAsk hs hu)
  have hn' := Lib.hid hn
  have hx' := Lib.hid hx
  rw [hn] at hk
  have hwd : leakW = ⟨#[108, 101, 97, 107]⟩ := rfl
  rw [hwd] at hk
  have hn1 : n ≤ 1000000 := by have := unw_len hu; omega
  have hq1 : (((n + 1 : Nat) : Int) == 2) = false := by simp; omega
  clear hu hn hx hm
  unfold zAsk at hb0 hk
  go_enter Tryz.func22, Tryz.ntmps22
  go_wp2_with fail
  refine hk.out.mono ?_
  rintro e w1 ⟨A, c, rfl, hA, hb1⟩
  obtain ⟨blk, off, x', rfl, hxx, cx, x0, x1⟩ := hA.at_ (k := n) (by rw [hn'.out]; omega)
  rw [hx'.out] at hxx
  cases hxx
  have hw : IntKind.i64.wrap x = x := by rw [IntKind.wrap_i64]; omega
  obtain ⟨g0, g1, g2, g3, g4, gf⟩ := box5 (box_kept w _ hb1)
  have hsz := hb1.size
  have hsz2 : w.heap.size < w1.heap.size := by simp at hsz; omega
  have hfin := Lib.hid (hb0.out.trans (hb1.mono hb0.out.size))
  clear hb1 hsz hA
  have e0 : ¬ (((n + 1 : Nat) : Int) < 1) := by omega
  have ha : ∀ (W : World) (o : Obj) (k : Nat), W.heap.size = w1.heap.size → (W.alloc o).cell? ⟨w.heap.size, k, none⟩ = W.cell? ⟨w.heap.size, k, none⟩ := fun W o k h => World.cell?_alloc_past o _ _ (by omega)
  go_wp2_with fail
  refine bodyPost_ret (v := .tuple #[.agg zAsk, .bool false]) (by simp [results, Tryz.results22, go_sem, zAsk, ha, g0, g1, g2, g3, g4]) rfl ⟨fun _ => rfl, fun k st fu h => ?_, ?_⟩
  · rw [hm'.out] at h; cases h
  · repeat (first | with_reducible exact hfin.out | with_reducible refine Below.alloc ?_ (by simp; omega) _ | with_reducible refine Below.setCell ?_ (by simp) _)

set_option maxRecDepth 100000 in
set_option maxHeartbeats 2000000 in
theorem refUnline_src (s : ByteArray) (x : Int) (w : World) (hs : s.size ≤ 1000000) (hu : unwM s = some (srcW, [x])) (hbig : ¬ 1000000 < x) : Calls Tryz.prog 22 #[.string s] w (RUnlPost s w) := by
  have hm' := Lib.hid (show unlineM s = some (1, 0, x) by rw [unlineM_eq]; unfold refUnlM; rw [hu]; dsimp only; rw [if_neg (show ¬ 1000000 < ([x] : List Int).getLastD 1000001 from hbig)]; rfl)
  have hr := unw_range hu
  have hx := hr x (by simp)
  have hb0 := Lib.hid ((Below.refl w.heap.size w).alloc (Nat.le_refl _) (.cells zAsk 42))
  have hk := Lib.hid (refUnl_hk s srcW [x] w zAsk hs hu)
  have hwd : srcW = ⟨#[115, 111, 117, 114, 99, 101]⟩ := rfl
  rw [hwd, show ([x] : List Int).length = 1 from rfl] at hk
  clear hu hr hwd
  unfold zAsk at hb0 hk
  go_enter Tryz.func22, Tryz.ntmps22
  go_wp2_with fail
  refine hk.out.mono ?_
  rintro e w1 ⟨A, c, rfl, hA, hb1⟩
  obtain ⟨blk, off, rfl, hc⟩ := hA.2 (by simp)
  have cx : w1.cell? ⟨blk, off, none⟩ = some (.int .u64 x) := hc 0 x rfl
  have hw : IntKind.i64.wrap x = x := by rw [IntKind.wrap_i64]; omega
  obtain ⟨g0, g1, g2, g3, g4, gf⟩ := box5 (box_kept w _ hb1)
  have hsz := hb1.size
  have hsz2 : w.heap.size < w1.heap.size := by simp at hsz; omega
  have hfin := Lib.hid (hb0.out.trans (hb1.mono hb0.out.size))
  clear hb1 hsz hA hc
  have ha : ∀ (W : World) (o : Obj) (k : Nat), W.heap.size = w1.heap.size → (W.alloc o).cell? ⟨w.heap.size, k, none⟩ = W.cell? ⟨w.heap.size, k, none⟩ := fun W o k h => World.cell?_alloc_past o _ _ (by omega)
  go_wp2_with fail
  refine bodyPost_ret (v := .tuple #[.agg #[.int .i64 1, .slice none 0 0, .slice none 0 0, .int .u64 0, .int .i64 x], .bool true]) (by simp [results, Tryz.results22, go_sem, ha, g0, g1, g2, g3, g4]) rfl ⟨fun h => ?_, fun k st fu h => ?_, ?_⟩
  · rw [hm'.out] at h; cases h
  · rw [hm'.out] at h; cases h; rfl
  · repeat (first | with_reducible exact hfin.out | with_reducible refine Below.alloc ?_ (by simp; omega) _ | with_reducible refine Below.setCell ?_ (by simp; omega) _ | with_reducible refine Below.setCell ?_ (by simp) _ | with_reducible refine Below.drew ?_)

set_option maxRecDepth 100000 in
set_option maxHeartbeats 2000000 in
theorem refUnline_mac (s : ByteArray) (a x : Int) (w : World) (hs : s.size ≤ 1000000) (hu : unwM s = some (macW, [a, x])) (hbig : ¬ 1000000 < x) : Calls Tryz.prog 22 #[.string s] w (RUnlPost s w) := by
  have hm' := Lib.hid (show unlineM s = some (2, a, x) by rw [unlineM_eq]; unfold refUnlM; rw [hu]; dsimp only; rw [if_neg (show ¬ 1000000 < ([a, x] : List Int).getLastD 1000001 from hbig)]; rfl)
  have hr := unw_range hu
  have hx := hr x (by simp)
  have hb0 := Lib.hid ((Below.refl w.heap.size w).alloc (Nat.le_refl _) (.cells zAsk 42))
  have hk := Lib.hid (refUnl_hk s macW [a, x] w zAsk hs hu)
  have hwd : macW = ⟨#[109, 97, 99, 104, 105, 110, 101]⟩ := rfl
  rw [hwd, show ([a, x] : List Int).length = 2 from rfl] at hk
  clear hu hr hwd
  unfold zAsk at hb0 hk
  go_enter Tryz.func22, Tryz.ntmps22
  go_wp2_with fail
  refine hk.out.mono ?_
  rintro e w1 ⟨A, c, rfl, hA, hb1⟩
  obtain ⟨blk, off, rfl, hc⟩ := hA.2 (by simp)
  have cx : w1.cell? ⟨blk, off + 1, none⟩ = some (.int .u64 x) := hc 1 x rfl
  have ca : w1.cell? ⟨blk, off, none⟩ = some (.int .u64 a) := hc 0 a rfl
  have hbl : blk < w1.heap.size := cell_some_lt cx
  have cxm : ∀ (W : World) (o : Obj) (k : Nat), W.heap.size = w1.heap.size → (W.alloc o).cell? ⟨blk, k, none⟩ = W.cell? ⟨blk, k, none⟩ := fun W o k h => World.cell?_alloc_past o _ _ (by omega)
  have hw : IntKind.i64.wrap x = x := by rw [IntKind.wrap_i64]; omega
  obtain ⟨g0, g1, g2, g3, g4, gf⟩ := box5 (box_kept w _ hb1)
  have hsz := hb1.size
  have hsz2 : w.heap.size < w1.heap.size := by simp at hsz; omega
  have hfin := Lib.hid (hb0.out.trans (hb1.mono hb0.out.size))
  clear hb1 hsz hA hc
  have ha : ∀ (W : World) (o : Obj) (k : Nat), W.heap.size = w1.heap.size → (W.alloc o).cell? ⟨w.heap.size, k, none⟩ = W.cell? ⟨w.heap.size, k, none⟩ := fun W o k h => World.cell?_alloc_past o _ _ (by omega)
  go_wp2_with fail
  have cat : ∀ (W : World), W.cell? ⟨blk, off, none⟩ = some (.int .u64 a) → True := fun _ _ => trivial
  trace_state
  go_region
  go_wp2_with fail
  refine bodyPost_ret (v := .tuple #[.agg #[.int .i64 2, .slice none 0 0, .slice none 0 0, .int .u64 a, .int .i64 x], .bool true]) (by simp [results, Tryz.results22, go_sem, ha, g0, g1, g2, g3, g4]) rfl ⟨fun h => ?_, fun k st fu h => ?_, ?_⟩
  · rw [hm'.out] at h; cases h
  · rw [hm'.out] at h; cases h; rfl
  · repeat (first | with_reducible exact hfin.out | with_reducible refine Below.alloc ?_ (by simp; omega) _ | with_reducible refine Below.setCell ?_ (by simp; omega) _ | with_reducible refine Below.setCell ?_ (by simp) _ | with_reducible refine Below.drew ?_)

set_option maxRecDepth 100000 in
set_option maxHeartbeats 2000000 in
theorem refUnline_leak (s : ByteArray) (a x : Int) (w : World) (hs : s.size ≤ 1000000) (hu : unwM s = some (leakW, [a, x])) (hbig : ¬ 1000000 < x) : Calls Tryz.prog 22 #[.string s] w (RUnlPost s w) := by
  have hm' := Lib.hid (show unlineM s = some (3, a, x) by rw [unlineM_eq]; unfold refUnlM; rw [hu]; dsimp only; rw [if_neg (show ¬ 1000000 < ([a, x] : List Int).getLastD 1000001 from hbig)]; rfl)
  have hr := unw_range hu
  have hx := hr x (by simp)
  have hb0 := Lib.hid ((Below.refl w.heap.size w).alloc (Nat.le_refl _) (.cells zAsk 42))
  have hk := Lib.hid (refUnl_hk s leakW [a, x] w zAsk hs hu)
  have hwd : leakW = ⟨#[108, 101, 97, 107]⟩ := rfl
  rw [hwd, show ([a, x] : List Int).length = 2 from rfl] at hk
  clear hu hr hwd
  unfold zAsk at hb0 hk
  go_enter Tryz.func22, Tryz.ntmps22
  go_wp2_with fail
  refine hk.out.mono ?_
  rintro e w1 ⟨A, c, rfl, hA, hb1⟩
  obtain ⟨blk, off, rfl, hc⟩ := hA.2 (by simp)
  have cx : w1.cell? ⟨blk, off + 1, none⟩ = some (.int .u64 x) := hc 1 x rfl
  have ca : w1.cell? ⟨blk, off, none⟩ = some (.int .u64 a) := hc 0 a rfl
  have hbl : blk < w1.heap.size := cell_some_lt cx
  have cxm : ∀ (W : World) (o : Obj) (k : Nat), W.heap.size = w1.heap.size → (W.alloc o).cell? ⟨blk, k, none⟩ = W.cell? ⟨blk, k, none⟩ := fun W o k h => World.cell?_alloc_past o _ _ (by omega)
  have hw : IntKind.i64.wrap x = x := by rw [IntKind.wrap_i64]; omega
  obtain ⟨g0, g1, g2, g3, g4, gf⟩ := box5 (box_kept w _ hb1)
  have hsz := hb1.size
  have hsz2 : w.heap.size < w1.heap.size := by simp at hsz; omega
  have hfin := Lib.hid (hb0.out.trans (hb1.mono hb0.out.size))
  clear hb1 hsz hA hc
  have ha : ∀ (W : World) (o : Obj) (k : Nat), W.heap.size = w1.heap.size → (W.alloc o).cell? ⟨w.heap.size, k, none⟩ = W.cell? ⟨w.heap.size, k, none⟩ := fun W o k h => World.cell?_alloc_past o _ _ (by omega)
  go_wp2_with fail
  have cat : ∀ (W : World), W.cell? ⟨blk, off, none⟩ = some (.int .u64 a) → True := fun _ _ => trivial
  trace_state
  go_region
  go_wp2_with fail
  refine bodyPost_ret (v := .tuple #[.agg #[.int .i64 3, .slice none 0 0, .slice none 0 0, .int .u64 a, .int .i64 x], .bool true]) (by simp [results, Tryz.results22, go_sem, ha, g0, g1, g2, g3, g4]) rfl ⟨fun h => ?_, fun k st fu h => ?_, ?_⟩
  · rw [hm'.out] at h; cases h
  · rw [hm'.out] at h; cases h; rfl
  · repeat (first | with_reducible exact hfin.out | with_reducible refine Below.alloc ?_ (by simp; omega) _ | with_reducible refine Below.setCell ?_ (by simp; omega) _ | with_reducible refine Below.setCell ?_ (by simp) _ | with_reducible refine Below.drew ?_)

end Go.Proofs.YtkbmckmlnphpmaaGreatDoor
