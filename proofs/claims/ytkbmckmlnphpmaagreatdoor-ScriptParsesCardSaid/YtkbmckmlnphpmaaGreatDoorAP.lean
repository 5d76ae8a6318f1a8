/- The reference's Unline: what it answers; lines that are refused at once. -/
import Derived.Test.YtkbmckmlnphpmaaGreatDoorAO
import Derived.RegionTactic
import Derived.ChangeAlike
set_option linter.unusedSimpArgs false
set_option linter.unusedVariables false
namespace Go.Proofs.YtkbmckmlnphpmaaGreatDoor
open Go.RowKit Go.Lib Go.Shelf

def RUnlPost (s : ByteArray) (w : World) (e : Ending) (w' : World) : Prop :=
  (unlineM s = none → e = .returned (.tuple #[.agg zAsk, .bool false])) ∧ (∀ k st fu, unlineM s = some (k, st, fu) → e = .returned (.tuple #[.agg #[.int .i64 k, .slice none 0 0, .slice none 0 0, .int .u64 st, .int .i64 fu], .bool true])) ∧ Below w.heap.size w w'
theorem refUnl_hk (s p : ByteArray) (l : List Int) (w : World) (Z : Array Value) (hs : s.size ≤ 1000000) (hu : unwM s = some (p, l)) :
    Calls Tryz.prog 19 #[.string s] (w.alloc (.cells Z 42)) fun e w' => ∃ A c, e = .returned (.tuple #[.string p, .slice A l.length c, .bool true]) ∧ WAt w' A l ∧ Below (w.alloc (.cells Z 42)).heap.size (w.alloc (.cells Z 42)) w' :=
  (refUnwords_any s (w.alloc (.cells Z 42)) hs).mono fun e w' h => by
    obtain ⟨A, c, h1, h2⟩ := h.2.1 p l hu
    exact ⟨A, c, h1, h2.wat, h.2.2⟩

set_option maxRecDepth 100000 in
set_option maxHeartbeats 2000000 in
theorem refUnline_none (s : ByteArray) (w : World) (hs : s.size ≤ 1000000) (hu : unwM s = none) : Calls Tryz.prog 22 #[.string s] w (RUnlPost s w) := by
  have hm := Lib.hid (show unlineM s = none by unfold unlineM; rw [hu])
  have hb0 := Lib.hid ((Below.refl w.heap.size w).alloc (Nat.le_refl _) (.cells zAsk 42))
  have hk := Lib.hid ((refUnwords_any s (w.alloc (.cells zAsk 42)) hs).mono fun e w' h => (show e = .returned (.tuple #[.string ⟨#[]⟩, .slice none 0 0, .bool false]) ∧ Below (w.alloc (.cells zAsk 42)).heap.size (w.alloc (.cells zAsk 42)) w' from ⟨h.1 hu, h.2.2⟩))
  clear hu hs
  unfold zAsk at hb0 hk
  go_enter Tryz.func22, Tryz.ntmps22
  go_wp2_with fail
  refine hk.out.mono ?_
  rintro e w1 ⟨rfl, hb1⟩
  obtain ⟨g0, g1, g2, g3, g4, gf⟩ := box5 (box_kept w _ hb1)
  have hsz := hb1.size
  have hsz2 : w.heap.size < w1.heap.size := by simp at hsz; omega
  have hfin := Lib.hid (hb0.out.trans (hb1.mono hb0.out.size))
  clear hb1 hsz
  go_wp2_with fail
  refine bodyPost_ret (v := .tuple #[.agg zAsk, .bool false]) (by simp [results, Tryz.results22, go_sem, zAsk, g0, g1, g2, g3, g4]) rfl ⟨fun _ => rfl, fun k st fu h => ?_, ?_⟩
  · rw [hm.out] at h; cases h
  · repeat (first | with_reducible exact hfin.out | with_reducible refine Below.alloc ?_ (by simp; omega) _ | with_reducible refine Below.setCell ?_ (by simp) _)
set_option maxRecDepth 100000 in
set_option maxHeartbeats 2000000 in
theorem refUnline_empty (s p : ByteArray) (w : World) (hs : s.size ≤ 1000000) (hu : unwM s = some (p, [])) : Calls Tryz.prog 22 #[.string s] w (RUnlPost s w) := by
  have hm := Lib.hid (show unlineM s = none by rw [unlineM_eq]; unfold refUnlM; rw [hu]; rfl)
  have hb0 := Lib.hid ((Below.refl w.heap.size w).alloc (Nat.le_refl _) (.cells zAsk 42))
  have hk := Lib.hid (show Calls Tryz.prog 19 #[.string s] (w.alloc (.cells zAsk 42)) fun e w' => ∃ A c, e = .returned (.tuple #[.string p, .slice A 0 c, .bool true]) ∧ WAt w' A [] ∧ Below (w.alloc (.cells zAsk 42)).heap.size (w.alloc (.cells zAsk 42)) w' from refUnl_hk s p [] w zAsk hs hu)
  clear hu hs
  unfold zAsk at hb0 hk
  go_enter Tryz.func22, Tryz.ntmps22
  go_wp2_with fail
  refine hk.out.mono ?_
  rintro e w1 ⟨A, c, rfl, hA, hb1⟩
  obtain ⟨g0, g1, g2, g3, g4, gf⟩ := box5 (box_kept w _ hb1)
  have hsz := hb1.size
  have hsz2 : w.heap.size < w1.heap.size := by simp at hsz; omega
  have hfin := Lib.hid (hb0.out.trans (hb1.mono hb0.out.size))
  clear hb1 hsz hA
  go_wp2_with fail
  refine bodyPost_ret (v := .tuple #[.agg zAsk, .bool false]) (by simp [results, Tryz.results22, go_sem, zAsk, g0, g1, g2, g3, g4]) rfl ⟨fun _ => rfl, fun k st fu h => ?_, ?_⟩
  · rw [hm.out] at h; cases h
  · repeat (first | with_reducible exact hfin.out | with_reducible refine Below.alloc ?_ (by simp; omega) _ | with_reducible refine Below.setCell ?_ (by simp) _)
set_option maxRecDepth 100000 in
set_option maxHeartbeats 2000000 in
theorem refUnline_big (s p : ByteArray) (l : List Int) (n : Nat) (x : Int) (w : World) (hs : s.size ≤ 1000000) (hu : unwM s = some (p, l)) (hn : l.length = n + 1) (hx : l[n]? = some x) (hbig : 1000000 < x) (hm : unlineM s = none) : Calls Tryz.prog 22 #[.string s] w (RUnlPost s w) := by
  have hm' := Lib.hid hm
  have hb0 := Lib.hid ((Below.refl w.heap.size w).alloc (Nat.le_refl _) (.cells zAsk 42))
  have hk := Lib.hid (refUnl_hk s p l w zAsk hs hu)
  have hn' := Lib.hid hn
  have hx' := Lib.hid hx
  rw [hn] at hk
  have hn1 : n ≤ 1000000 := by have := unw_len hu; omega
  clear hu hn hx hm hs
  unfold zAsk at hb0 hk
  go_enter Tryz.func22, Tryz.ntmps22
  go_wp2_with fail
  refine hk.out.mono ?_
  rintro e w1 ⟨A, c, rfl, hA, hb1⟩
  obtain ⟨blk, off, x', rfl, hxx, cx, x0, x1⟩ := hA.at_ (k := n) (by rw [hn'.out]; omega)
  rw [hx'.out] at hxx
  cases hxx
  obtain ⟨g0, g1, g2, g3, g4, gf⟩ := box5 (box_kept w _ hb1)
  have hsz := hb1.size
  have hsz2 : w.heap.size < w1.heap.size := by simp at hsz; omega
  have hfin := Lib.hid (hb0.out.trans (hb1.mono hb0.out.size))
  have e0 : ¬ (((n + 1 : Nat) : Int) < 1) := by omega
  clear hb1 hsz hA
  go_wp2_with fail
  refine bodyPost_ret (v := .tuple #[.agg zAsk, .bool false]) (by simp [results, Tryz.results22, go_sem, zAsk, g0, g1, g2, g3, g4]) rfl ⟨fun _ => rfl, fun k st fu h => ?_, ?_⟩
  · rw [hm'.out] at h; cases h
  · repeat (first | with_reducible exact hfin.out | with_reducible refine Below.alloc ?_ (by simp; omega) _ | with_reducible refine Below.setCell ?_ (by simp) _)
end Go.Proofs.YtkbmckmlnphpmaaGreatDoor
