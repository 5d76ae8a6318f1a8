/- Expressions told: LongExpr, MayExpr, short, Expr. -/
import Derived.Test.YtnahgfdoiflacaaGreatDoorR
set_option linter.unusedSimpArgs false
set_option linter.unusedVariables false
namespace Go.Proofs.YtnahgfdoiflacaaGreatDoor
open Go.RowKit Go.Lib Go.Shelf

set_option maxRecDepth 100000 in
set_option maxHeartbeats 2000000 in
theorem long_any (e : Ex) (A : Option Addr) (c m : Nat) (W : World) (h : ExAt W e A) (hm : m ≤ 30000) : Calls Tryz.prog 10 #[exV e A c, .int .i64 m] W (BoolPost (decide (m < cntE e)) W) := by
  have hk := count_any W e A h m c (W.alloc (.cells #[.int .i64 e.op, .int .u64 e.u, .string e.nm, .slice A e.ars.length c] 26)) hm ((Below.refl _ W).alloc (Nat.le_refl _) _)
  obtain ⟨q, hqq⟩ : ∃ q, min (cntE e) (m + 1) = q := ⟨_, rfl⟩
  rw [hqq] at hk
  have hd : decide (m < cntE e) = decide (m < q) := by
    by_cases h : m < cntE e
    · rw [decide_eq_true h, decide_eq_true (by omega)]
    · rw [decide_eq_false h, decide_eq_false (by omega)]
  rw [hd]
  have hq2 : q ≤ m + 1 := by omega
  unfold exV at hk ⊢
  have hk := Lib.hid hk
  clear hd hqq h
  by_cases hlt : m < q
  · have e0 : (m : Int) < (q : Int) := by omega
    rw [decide_eq_true hlt]
    go_enter Tryz.func10, Tryz.ntmps10
    go_wp2_with fail
    refine hk.out.mono ?_
    rintro e w1 ⟨rfl, hb⟩
    have hb := Lib.hid (Below.next ((Below.refl _ W).alloc (Nat.le_refl _) _) hb)
    go_wp2
    go_ret
    exact ⟨rfl, hb.out⟩
  · have e0 : ¬ (m : Int) < (q : Int) := by omega
    rw [decide_eq_false hlt]
    go_enter Tryz.func10, Tryz.ntmps10
    go_wp2_with fail
    refine hk.out.mono ?_
    rintro e w1 ⟨rfl, hb⟩
    have hb := Lib.hid (Below.next ((Below.refl _ W).alloc (Nat.le_refl _) _) hb)
    go_wp2
    go_ret
    exact ⟨rfl, hb.out⟩
/-- can an expression be told -/
def mayX (e : Ex) : Bool := decide (depE e ≤ 64) && mayE nameB e
set_option maxRecDepth 100000 in
set_option maxHeartbeats 2000000 in
theorem refMayX_any (e : Ex) (A : Option Addr) (c : Nat) (W : World) (h : ExAt W e A) (hq : cntE e ≤ 30000) : Calls Tryz.prog 15 #[exV e A c] W (BoolPost (mayX e) W) := by
  obtain ⟨W1, hW1⟩ : ∃ W1, W.alloc (.cells #[.int .i64 e.op, .int .u64 e.u, .string e.nm, .slice A e.ars.length c] 26) = W1 := ⟨_, rfl⟩
  have hb1 : Below W.heap.size W W1 := by rw [← hW1]; exact (Below.refl _ W).alloc (Nat.le_refl _) _
  have hx1 : W1.heap[W.heap.size]? = some (.cells #[.int .i64 e.op, .int .u64 e.u, .string e.nm, .slice A e.ars.length c] 26 (0, 0)) := by rw [← hW1]; exact heap_alloc_new _ _
  have hd := refDepth_any W e A h hq c W1 hb1
  have hm := Lib.hid (fun (W2 : World) (hb : Below W.heap.size W W2) => refMay_any W e A h hq c W2 hb)
  have hdl := depE_le e
  unfold mayX
  obtain ⟨d, hdd⟩ : ∃ d, depE e = d := ⟨_, rfl⟩
  rw [hdd] at hd hdl ⊢
  generalize mayE nameB e = t at hm ⊢
  unfold exV at hd hm ⊢
  have hd := Lib.hid hd
  have hb1 := Lib.hid hb1
  have hx1 := Lib.hid hx1
  have hd9 : d ≤ 30000 := by omega
  clear h hdl hdd hq
  obtain ⟨g0, g1, g2, g3, gf⟩ := box4 hx1.out
  by_cases hlt : d ≤ 64
  · have e0 : (d : Int) ≤ 64 := by omega
    rw [decide_eq_true hlt]
    go_enter Tryz.func15, Tryz.ntmps15
    go_wp2_with fail
    refine hd.out.mono ?_
    rintro e w1 ⟨rfl, hb⟩
    have hxx := Lib.hid ((hb.block W.heap.size (blk_lt hx1.out)).trans hx1.out)
    have hb := Lib.hid (Below.next hb1.out hb)
    clear g0 g1 g2 g3 gf
    obtain ⟨g0, g1, g2, g3, gf⟩ := box4 hxx.out
    go_wp2_with fail
    refine (hm.out _ hb.out).mono ?_
    rintro e w2 ⟨rfl, hb2⟩
    have hb2 := Lib.hid (Below.next hb.out hb2)
    go_wp2
    go_ret
    exact ⟨rfl, hb2.out⟩
  · have e0 : ¬ (d : Int) ≤ 64 := by omega
    rw [decide_eq_false hlt]
    go_enter Tryz.func15, Tryz.ntmps15
    go_wp2_with fail
    refine hd.out.mono ?_
    rintro e w1 ⟨rfl, hb⟩
    have hb := Lib.hid (Below.next hb1.out hb)
    go_wp2
    go_ret
    exact ⟨rfl, hb.out⟩
/-- a text, if it is not too long -/
def shortT (s : ByteArray) : ByteArray := if s.size ≤ 65536 then s else ⟨#[]⟩
def shortN (s : ByteArray) : Int := if s.size ≤ 65536 then 0 else 3
set_option maxRecDepth 100000 in
set_option maxHeartbeats 2000000 in
theorem short_any (s : ByteArray) (W : World) : Calls Tryz.prog 43 #[.string s] W fun e w' => e = .returned (.tuple #[.string (shortT s), .int .i64 (shortN s)]) ∧ Below W.heap.size W w' := by
  unfold shortT shortN
  by_cases h : s.size ≤ 65536
  · have e0 : ¬ ((65536 : Int) < (s.size : Int)) := by omega
    rw [if_pos h, if_pos h]
    clear h
    go_enter Tryz.func43, Tryz.ntmps43
    go_wp2
    go_ret2
    exact ⟨rfl, Below.refl _ _⟩
  · have e0 : ((65536 : Int) < (s.size : Int)) := by omega
    rw [if_neg h, if_neg h]
    clear h
    go_enter Tryz.func43, Tryz.ntmps43
    go_wp2
    go_ret2
    exact ⟨rfl, Below.refl _ _⟩
/-- what Expr says -/
def exprT (e : Ex) : ByteArray := if mayX e then shortT (txS e) else ⟨#[]⟩
def exprN (e : Ex) : Int := if mayX e then shortN (txS e) else 2
set_option maxRecDepth 100000 in
set_option maxHeartbeats 4000000 in
theorem exprX_any (e : Ex) (A : Option Addr) (c : Nat) (W : World) (hE : Env W) (h : ExAt W e A) (hq : cntE e ≤ 30000) (hu : e.u < 18446744073709551616) :
    Calls Tryz.prog 12 #[exV e A c] W fun r w' => r = .returned (.tuple #[.string (exprT e), .int .i64 (exprN e)]) ∧ Below W.heap.size W w' := by
  obtain ⟨W1, hW1⟩ : ∃ W1, W.alloc (.cells #[.int .i64 e.op, .int .u64 e.u, .string e.nm, .slice A e.ars.length c] 26) = W1 := ⟨_, rfl⟩
  have hb1 : Below W.heap.size W W1 := by rw [← hW1]; exact (Below.refl _ W).alloc (Nat.le_refl _) _
  have hx1 : W1.heap[W.heap.size]? = some (.cells #[.int .i64 e.op, .int .u64 e.u, .string e.nm, .slice A e.ars.length c] 26 (0, 0)) := by rw [← hW1]; exact heap_alloc_new _ _
  have hd := depth_any W e A h hq c W1 hb1
  have hm := Lib.hid (fun (W2 : World) (hb : Below W.heap.size W W2) => may_any W e A h hq c W2 hb)
  have ht := Lib.hid (fun (W2 : World) (hb : Below W.heap.size W W2) (hy : mayE nameB e = true) => expr_any W hE e A h hq hy hu c W2 hb)
  have hsh := Lib.hid (short_any (txS e))
  have hdl := depE_le e
  unfold exprT exprN mayX
  obtain ⟨d, hdd⟩ : ∃ d, depE e = d := ⟨_, rfl⟩
  rw [hdd] at hd hdl ⊢
  generalize mayE nameB e = t at hm ht ⊢
  generalize shortT (txS e) = t1 at hsh ⊢
  generalize shortN (txS e) = t2 at hsh ⊢
  generalize txS e = tt at hsh ht
  unfold exV at hd hm ht ⊢
  have hd := Lib.hid hd
  have hb1 := Lib.hid hb1
  have hx1 := Lib.hid hx1
  have hd9 : d ≤ 30000 := by omega
  clear h hdl hdd hq hE hu
  obtain ⟨g0, g1, g2, g3, gf⟩ := box4 hx1.out
  by_cases hlt : d ≤ 64
  · have e0 : ¬ ((64 : Int) < (d : Int)) := by omega
    rw [decide_eq_true hlt, Bool.true_and]
    go_enter Tryz.func12, Tryz.ntmps12
    go_wp2_with fail
    refine hd.out.mono ?_
    rintro e w1 ⟨rfl, hb⟩
    have hxx := Lib.hid ((hb.block W.heap.size (blk_lt hx1.out)).trans hx1.out)
    have hb := Lib.hid (Below.next hb1.out hb)
    clear g0 g1 g2 g3 gf
    obtain ⟨g0, g1, g2, g3, gf⟩ := box4 hxx.out
    go_wp2_with fail
    refine (hm.out _ hb.out).mono ?_
    rintro e w2 ⟨rfl, hb2⟩
    have hxx2 := Lib.hid ((hb2.block W.heap.size (blk_lt hxx.out)).trans hxx.out)
    have hb2 := Lib.hid (Below.next hb.out hb2)
    clear g0 g1 g2 g3 gf
    obtain ⟨g0, g1, g2, g3, gf⟩ := box4 hxx2.out
    cases t
    · go_wp2
      go_ret2
      exact ⟨rfl, hb2.out⟩
    · go_wp2_with fail
      refine (ht.out _ hb2.out trivial).mono ?_
      rintro e w3 ⟨rfl, hb3⟩
      have hb3 := Lib.hid (Below.next hb2.out hb3)
      go_wp2_with fail
      refine (hsh.out _).mono ?_
      rintro e w4 ⟨rfl, hb4⟩
      have hb4 := Lib.hid (Below.next hb3.out hb4)
      go_wp2
      go_ret2
      exact ⟨rfl, hb4.out⟩
  · have e0 : ((64 : Int) < (d : Int)) := by omega
    rw [decide_eq_false hlt, Bool.false_and]
    go_enter Tryz.func12, Tryz.ntmps12
    go_wp2_with fail
    refine hd.out.mono ?_
    rintro e w1 ⟨rfl, hb⟩
    have hb := Lib.hid (Below.next hb1.out hb)
    go_wp2
    go_ret2
    exact ⟨rfl, hb.out⟩
end Go.Proofs.YtnahgfdoiflacaaGreatDoor
