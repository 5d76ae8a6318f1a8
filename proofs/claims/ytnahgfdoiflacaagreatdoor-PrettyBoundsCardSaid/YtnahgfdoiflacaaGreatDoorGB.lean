/- PrettyBounds: the law's deep. -/
import Derived.Test.YtnahgfdoiflacaaGreatDoorGA
set_option linter.unusedSimpArgs false
set_option linter.unusedVariables false
namespace Go.Proofs.YtnahgfdoiflacaaGreatDoor
open Go.RowKit Go.Lib Go.Shelf

def set4 (w : World) (b : Nat) (u0 u1 u2 u3 : Value) : World := (((w.setCell ⟨b, 0, none⟩ u0).setCell ⟨b, 1, none⟩ u1).setCell ⟨b, 2, none⟩ u2).setCell ⟨b, 3, none⟩ u3
theorem set4_same {w : World} {b : Nat} {t : TypeId} {v0 v1 v2 v3 u0 u1 u2 u3 : Value} (h : w.heap[b]? = some (.cells #[v0, v1, v2, v3] t (0, 0))) : (set4 w b u0 u1 u2 u3).heap[b]? = some (.cells #[u0, u1, u2, u3] t (0, 0)) := by
  unfold set4
  simp [World.setCell, Array.getElem?_modify, h]
theorem set4_other {w : World} {b k : Nat} {u0 u1 u2 u3 : Value} (h : k ≠ b) : (set4 w b u0 u1 u2 u3).heap[k]? = w.heap[k]? := by
  unfold set4
  simp [World.setCell, Array.getElem?_modify, Ne.symm h]
theorem set4_below {w W : World} {B b : Nat} {u0 u1 u2 u3 : Value} (h : Below B w W) (hb : B ≤ b) : Below B w (set4 W b u0 u1 u2 u3) :=
  (((h.setCell (p := ⟨b, 0, none⟩) hb u0).setCell (p := ⟨b, 1, none⟩) hb u1).setCell (p := ⟨b, 2, none⟩) hb u2).setCell (p := ⟨b, 3, none⟩) hb u3
def DeepPost (k : Nat) (W : World) (e : Ending) (w' : World) : Prop := ∃ A c, e = .returned (exV (deepE k) A c) ∧ ExAt w' (deepE k) A ∧ Below W.heap.size W w'
set_option maxRecDepth 100000 in
set_option maxHeartbeats 8000000 in
theorem deep24_any (m : Nat) (hm : m ≤ 1000) (W : World) : Calls Tryz.prog 24 #[.int .i64 ((m + 1 : Nat) : Int)] W (DeepPost m W) := by
  have hv := Lib.hid v25_any
  have ho := Lib.hid op40_any
  obtain ⟨W1, hW1⟩ : ∃ W1, W.alloc (.cells #[.int .i64 0, .int .u64 0, .string ⟨#[]⟩, .slice none 0 0] 26) = W1 := ⟨_, rfl⟩
  have hX1 : W1.heap[W.heap.size]? = some (.cells #[.int .i64 0, .int .u64 0, .string ⟨#[]⟩, .slice none 0 0] 26 (0, 0)) := by rw [← hW1]; exact heap_alloc_new _ _
  have hb1 : Below W.heap.size W W1 := by rw [← hW1]; exact (Below.refl _ W).alloc (Nat.le_refl _) _
  have hX1 := Lib.hid hX1
  have hb1' := Lib.hid hb1
  clear hb1
  go_enter Tryz.func24, Tryz.ntmps24
  go_wp2_with fail
  refine (hv.out _ _).mono ?_
  rintro e w2 ⟨rfl, hb2⟩
  have hX2 := Lib.hid ((hb2.block _ (blk_lt hX1.out)).trans hX1.out)
  have hb2 := Below.next hb1'.out hb2
  obtain ⟨x, hx⟩ : ∃ x, w2.heap.size = x := ⟨_, rfl⟩
  have hwx : W.heap.size < x := by rw [← hx]; exact blk_lt hX2.out
  have hxc := heap_alloc_new w2 (.cells #[.int .i64 2, .int .u64 0, .string xT, .slice none 0 0] 26)
  rw [hx] at hxc
  have hI : Below W.heap.size W (w2.alloc (.cells #[.int .i64 2, .int .u64 0, .string xT, .slice none 0 0] 26)) := hb2.alloc hb2.size _
  have hXI := (heap_alloc_old w2 (.cells #[.int .i64 2, .int .u64 0, .string xT, .slice none 0 0] 26) (blk_lt hX2.out)).trans hX2.out
  have hI := Lib.hid hI
  have hXI := Lib.hid hXI
  have hxc := Lib.hid hxc
  have hwx := Lib.hid hwx
  have hx' := Lib.hid hx
  clear hb2 hX2 hx hW1
  go_wp2_with fail
  rw [hx'.out]
  go_loopg [4] m (fun g s4 wr => ∃ (k : Nat) (o : Int) (s : ByteArray) (A : Option Addr) (n c : Nat), k + g = m ∧ s4 = .int .i64 ((k : Int) + 1) ∧ DeepRow x wr k o s A n c ∧ wr.heap[x]? = some (.cells #[.int .i64 o, .int .u64 0, .string s, .slice A n c] 26 (0, 0)) ∧
    wr.heap[W.heap.size]? = some (.cells #[.int .i64 0, .int .u64 0, .string ⟨#[]⟩, .slice none 0 0] 26 (0, 0)) ∧ Below W.heap.size W wr)
  case atStart => exact ⟨0, 2, xT, none, 0, 0, by omega, rfl, ⟨rfl, rfl, rfl, rfl, rfl⟩, hxc.out, hXI.out, hI.out⟩
  case round =>
    obtain ⟨k, o, s, A, n, c, hkg, rfl, hd, hxr, hXr, hbr⟩ := hrel
    obtain ⟨q0, q1, q2, q3, qf⟩ := box4 hxr
    have f0 := qf 0
    have f1 := qf 1
    have f2 := qf 2
    have f3 := qf 3
    have hd := Lib.hid hd
    have hxr := Lib.hid hxr
    have hXr := Lib.hid hXr
    have hbr := Lib.hid hbr
    clear qf hI hXI hxc
    cases gk with
    | succ g =>
      have e0 : (k : Int) + 1 < (m : Int) + 1 := by omega
      go_wp2_with fail
      refine (ho.out _ _ _ _ _).mono ?_
      rintro e w5 ⟨rfl, hb5⟩
      have hlt : x < wr.heap.size := blk_lt hxr.out
      have hba : Below wr.heap.size wr (wr.alloc (.cells #[.int .i64 o, .int .u64 0, .string s, .slice A n c] 26)) := (Below.refl _ wr).alloc (Nat.le_refl _) _
      have hnew := (hb5.block _ (by simp)).trans (heap_alloc_new wr (.cells #[.int .i64 o, .int .u64 0, .string s, .slice A n c] 26))
      have hb5 := Below.next hba hb5
      have hx5 := (hb5.block _ hlt).trans hxr.out
      have hX5 := (hb5.block _ (blk_lt hXr.out)).trans hXr.out
      have hd5 : DeepRow x w5 (k + 1) 4 ⟨#[]⟩ (some ⟨wr.heap.size, 0, none⟩) 1 1 :=
        ⟨rfl, rfl, rfl, rfl, wr.heap.size, o, s, A, n, c, rfl, hlt, hnew, hd.out.keep (fun b _ hb => hb5.block b hb)⟩
      have hbW := Below.next hbr.out hb5
      obtain ⟨r0, r1, r2, r3, rf⟩ := box4 hx5
      have g0 := rf 0
      have g1 := rf 1
      have g2 := rf 2
      have g3 := rf 3
      have hd5 := Lib.hid hd5
      have hx5 := Lib.hid hx5
      have hX5 := Lib.hid hX5
      have hbW := Lib.hid hbW
      clear q0 q1 q2 q3 f0 f1 f2 f3 hb5 hnew hba rf
      go_wp2_with fail
      go_roundg g
      case measure => omega
      case rel =>
        exact ⟨k + 1, 4, ⟨#[]⟩, some ⟨wr.heap.size, 0, none⟩, 1, 1, by omega, by go_num, hd5.out.keep (fun b hb _ => set4_other (w := w5) (b := x) (by omega)), set4_same hx5.out,
          (set4_other (w := w5) (b := x) (by have := hwx.out; omega)).trans hX5.out, set4_below hbW.out (by have := hwx.out; omega)⟩
    | zero =>
      have e0 : ¬ (k : Int) + 1 < (m : Int) + 1 := by omega
      obtain rfl : k = m := by omega
      obtain ⟨p0, p1, p2, p3, pf⟩ := box4 hXr.out
      have g0 := pf 0
      have g1 := pf 1
      have g2 := pf 2
      have g3 := pf 3
      clear pf
      go_wp2_with fail
      obtain ⟨e1, e2, e3, e4⟩ := hd.out.fields
      have hs := set4_same (u0 := .int .i64 o) (u1 := .int .u64 0) (u2 := .string s) (u3 := .slice A n c) hXr.out
      obtain ⟨t0, t1, t2, t3, _⟩ := box4 hs
      unfold set4 at t0 t1 t2 t3
      refine bodyPost_ret (v := .agg #[.int .i64 o, .int .u64 0, .string s, .slice A n c]) ?_ rfl ?_
      · simp [results, Tryz.f24, go_sem, t0, t1, t2, t3]
      · refine ⟨A, c, ?_, ((hd.out.keep (fun b hb _ => set4_other (w := wr) (b := W.heap.size) (by have := hwx.out; omega))).ex : ExAt (set4 wr W.heap.size (.int .i64 o) (.int .u64 0) (.string s) (.slice A n c)) _ _), set4_below hbr.out (Nat.le_refl _)⟩
        unfold exV
        rw [e1, e2, e3, e4]
        rfl
end Go.Proofs.YtnahgfdoiflacaaGreatDoor
