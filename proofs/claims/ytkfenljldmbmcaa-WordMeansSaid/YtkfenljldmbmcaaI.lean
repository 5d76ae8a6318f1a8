/- Do when it refuses; the contracts of the reference's Do, of Low, Signed, Not, Neg. -/
import Derived.Test.YtkfenljldmbmcaaH
set_option linter.unusedSimpArgs false
set_option linter.unusedVariables false
namespace Go.Proofs.Ytkfenljldmbmcaa
open Go.RowKit Go.MapKept

theorem findNow_no (op : Int) (h : ¬ (1 ≤ op ∧ op ≤ 8)) (p5 p6 p7 : Nat) : Instr.findNow (.int .i64) (.int .i64 op) (binsEs p5 p6 p7).toList 0 = some none := by
  have h1 : ∀ k : Int, 1 ≤ k → k ≤ 8 → (op == k) = false := fun k _ _ => by simp; omega
  simp [binsEs, Instr.findNow, Instr.sameNow, h1]
theorem findNow_yes (op : Int) (h : 1 ≤ op ∧ op ≤ 8) (p5 p6 p7 : Nat) : ∃ i f caps, Instr.findNow (.int .i64) (.int .i64 op) (binsEs p5 p6 p7).toList 0 = some (some (i, .func (.func f) #[] caps)) := by
  have : op = 1 ∨ op = 2 ∨ op = 3 ∨ op = 4 ∨ op = 5 ∨ op = 6 ∨ op = 7 ∨ op = 8 := by omega
  rcases this with rfl | rfl | rfl | rfl | rfl | rfl | rfl | rfl <;> exact ⟨_, _, _, rfl⟩
theorem zero71 (w : World) : (zeroValue 71).run Try.prog w = .ok .nilFunc w := by kernel_rfl

def DoNo (w : World) (e : Ending) (w' : World) : Prop :=
  e = .returned (.tuple #[.int .u64 0, .agg #[.bool false, .bool false, .bool false, .bool false, .bool false], .int .i64 2]) ∧ Below w.heap.size w w'

set_option maxHeartbeats 1000000 in
theorem Do_noop (op wd a b : Int) (c z s o p : Bool) (w : World) (hop : ¬ (1 ≤ op ∧ op ≤ 8)) :
    Calls Try.prog 18 #[.int .i64 op, .int .i64 wd, .int .u64 a, .int .u64 b, .agg #[.bool c, .bool z, .bool s, .bool o, .bool p]] w (DoNo w) := by
  go_enter Try.func18, Try.ntmps18
  go_wp2_with fail
  refine (bins_any _).mono ?_
  rintro e w1 ⟨bm, p5, p6, p7, rfl, hbm⟩
  have hnf := run_nil_nil
  have hlk := run_lookup_none Try.underlying72 Try.underlying37 hbm.1 op _ (zero71 w1) (findNow_no op hop p5 p6 p7)
  clear hop
  have hbl := hbm.2.1
  have hz1 := hbl.size
  have hz2 : w.heap.size + 1 < w1.heap.size := by simp at hz1; omega
  have hblk : w1.heap[w.heap.size + 1]? = some (.cells #[.bool false, .bool false, .bool false, .bool false, .bool false] 34 (0, 0)) := by
    rw [hbl.block _ (by simp)]
    exact two_blocks w _ _
  have g0 : w1.cell? ⟨w.heap.size + 1, 0, none⟩ = some (.bool false) := by simp [World.cell?, hblk]
  have g1 : w1.cell? ⟨w.heap.size + 1, 1, none⟩ = some (.bool false) := by simp [World.cell?, hblk]
  have g2 : w1.cell? ⟨w.heap.size + 1, 2, none⟩ = some (.bool false) := by simp [World.cell?, hblk]
  have g3 : w1.cell? ⟨w.heap.size + 1, 3, none⟩ = some (.bool false) := by simp [World.cell?, hblk]
  have g4 : w1.cell? ⟨w.heap.size + 1, 4, none⟩ = some (.bool false) := by simp [World.cell?, hblk]
  have f0 : ∀ k, w1.frozen? ⟨w.heap.size + 1, k, none⟩ = false := fun k => by simp [World.frozen?, hblk]
  have hfin : Below w.heap.size w w1 := ((Below.refl _ _).alloc (Nat.le_refl _) _).alloc (by simp) _ |>.trans (hbl.mono (by simp; omega))
  have hfin' := Lib.hid hfin
  clear hbl hbm hblk hfin hz1
  go_wp2_with fail
  refine bodyPost_ret (v := .tuple #[.int .u64 0, .agg #[.bool false, .bool false, .bool false, .bool false, .bool false], .int .i64 2]) (by simp [results, Try.results18, go_sem, g0, g1, g2, g3, g4]) rfl ⟨rfl, ?_⟩
  exact ((((hfin'.out.setCell (by simp) _).setCell (by simp) _).setCell (by simp) _).setCell (by simp) _).setCell (by simp) _

set_option maxHeartbeats 1000000 in
theorem Do_now (op wd a b : Int) (c z s o p : Bool) (w : World) (hop : 1 ≤ op ∧ op ≤ 8) (hw : ¬ MayW wd) :
    Calls Try.prog 18 #[.int .i64 op, .int .i64 wd, .int .u64 a, .int .u64 b, .agg #[.bool c, .bool z, .bool s, .bool o, .bool p]] w (DoNo w) := by
  have hmay := mayB_no hw
  go_enter Try.func18, Try.ntmps18
  go_wp2_with fail
  refine (bins_any _).mono ?_
  rintro e w1 ⟨bm, p5, p6, p7, rfl, hbm⟩
  have hnf := run_func_nil
  obtain ⟨i, f, caps, hfi⟩ := findNow_yes op hop p5 p6 p7
  have hlk := run_lookup_lit Try.underlying72 Try.underlying37 hbm.1 op _ i hfi
  clear hfi
  have hbl := hbm.2.1
  have hz1 := hbl.size
  have hz2 : w.heap.size + 1 < w1.heap.size := by simp at hz1; omega
  have hblk : w1.heap[w.heap.size + 1]? = some (.cells #[.bool false, .bool false, .bool false, .bool false, .bool false] 34 (0, 0)) := by
    rw [hbl.block _ (by simp)]
    exact two_blocks w _ _
  have g0 : w1.cell? ⟨w.heap.size + 1, 0, none⟩ = some (.bool false) := by simp [World.cell?, hblk]
  have g1 : w1.cell? ⟨w.heap.size + 1, 1, none⟩ = some (.bool false) := by simp [World.cell?, hblk]
  have g2 : w1.cell? ⟨w.heap.size + 1, 2, none⟩ = some (.bool false) := by simp [World.cell?, hblk]
  have g3 : w1.cell? ⟨w.heap.size + 1, 3, none⟩ = some (.bool false) := by simp [World.cell?, hblk]
  have g4 : w1.cell? ⟨w.heap.size + 1, 4, none⟩ = some (.bool false) := by simp [World.cell?, hblk]
  have f0 : ∀ k, w1.frozen? ⟨w.heap.size + 1, k, none⟩ = false := fun k => by simp [World.frozen?, hblk]
  have hfin : Below w.heap.size w w1 := ((Below.refl _ _).alloc (Nat.le_refl _) _).alloc (by simp) _ |>.trans (hbl.mono (by simp; omega))
  have hfin' := Lib.hid hfin
  clear hbl hbm hblk hfin hz1
  go_wp2_with fail
  refine (may_any _ _).mono ?_
  rintro e w' ⟨rfl, rfl⟩
  go_wp2_with fail
  refine bodyPost_ret (v := .tuple #[.int .u64 0, .agg #[.bool false, .bool false, .bool false, .bool false, .bool false], .int .i64 2]) (by simp [results, Try.results18, go_sem, g0, g1, g2, g3, g4]) rfl ⟨rfl, ?_⟩
  exact ((((hfin'.out.setCell (by simp) _).setCell (by simp) _).setCell (by simp) _).setCell (by simp) _).setCell (by simp) _

theorem Do_no (op wd a b : Int) (c z s o p : Bool) (w : World) (hop : ¬ (1 ≤ op ∧ op ≤ 8) ∨ ¬ MayW wd) :
    Calls Try.prog 18 #[.int .i64 op, .int .i64 wd, .int .u64 a, .int .u64 b, .agg #[.bool c, .bool z, .bool s, .bool o, .bool p]] w (DoNo w) := by
  by_cases h : 1 ≤ op ∧ op ≤ 8
  · exact Do_now op wd a b c z s o p w h (hop.resolve_left (fun k => k h))
  · exact Do_noop op wd a b c z s o p w h

set_option maxHeartbeats 400000 in
theorem LowP_any (wd a : Int) (w : World) (hw : MayW wd) (h : U64 a) :
    Calls Try.prog 28 #[.int .i64 wd, .int .u64 a] w fun e w' => e = .returned (.tuple #[.int .u64 (lowI wd a), .int .i64 0]) ∧ w = w' := by
  have hmay := mayB_of hw
  go_enter Try.func28, Try.ntmps28
  go_wp2_with (first | (go_at_call 40; refine (may_any _ _).mono ?_; rintro e w' ⟨rfl, rfl⟩) | (go_at_call 41; refine (low_any _ _ _ hw h).mono ?_; rintro e w' ⟨rfl, rfl⟩))
  go_ret2
  exact ⟨rfl, rfl⟩
set_option maxHeartbeats 400000 in
theorem LowP_no (wd a : Int) (w : World) (hw : ¬ MayW wd) :
    Calls Try.prog 28 #[.int .i64 wd, .int .u64 a] w fun e w' => e = .returned (.tuple #[.int .u64 0, .int .i64 2]) ∧ w = w' := by
  have hmay := mayB_no hw
  go_enter Try.func28, Try.ntmps28
  go_wp2_with (first | (go_at_call 40; refine (may_any _ _).mono ?_; rintro e w' ⟨rfl, rfl⟩))
  go_ret2
  exact ⟨rfl, rfl⟩
set_option maxHeartbeats 400000 in
theorem SignedP_any (wd a : Int) (w : World) (hw : MayW wd) (h : U64 a) :
    Calls Try.prog 29 #[.int .i64 wd, .int .u64 a] w fun e w' => e = .returned (.tuple #[.int .u64 (signI wd a), .int .i64 0]) ∧ w = w' := by
  have hmay := mayB_of hw
  go_enter Try.func29, Try.ntmps29
  go_wp2_with (first | (go_at_call 40; refine (may_any _ _).mono ?_; rintro e w' ⟨rfl, rfl⟩) | (go_at_call 48; refine (signed_any _ _ _ hw h).mono ?_; rintro e w' ⟨rfl, rfl⟩))
  go_ret2
  exact ⟨rfl, rfl⟩
set_option maxHeartbeats 400000 in
theorem SignedP_no (wd a : Int) (w : World) (hw : ¬ MayW wd) :
    Calls Try.prog 29 #[.int .i64 wd, .int .u64 a] w fun e w' => e = .returned (.tuple #[.int .u64 0, .int .i64 2]) ∧ w = w' := by
  have hmay := mayB_no hw
  go_enter Try.func29, Try.ntmps29
  go_wp2_with (first | (go_at_call 40; refine (may_any _ _).mono ?_; rintro e w' ⟨rfl, rfl⟩))
  go_ret2
  exact ⟨rfl, rfl⟩
theorem xor_max (a : Int) (h : U64 a) : bits BinOp.xor IntKind.u64 IntKind.u64.max a = 18446744073709551615 - a := by
  obtain ⟨h0, h1⟩ := h
  have e : IntKind.u64.max = 18446744073709551615 := by decide
  rw [e, u64_xor _ _ (by omega) (by omega) h0 h1]
  obtain ⟨n, rfl⟩ := Int.eq_ofNat_of_zero_le h0
  have hx : (18446744073709551615 ^^^ n : Nat) = 18446744073709551615 - n := by
    have h2 := congrArg BitVec.toNat (BitVec.xor_allOnes (x := BitVec.ofNat 64 n))
    rw [BitVec.toNat_xor, BitVec.toNat_not, BitVec.toNat_allOnes, BitVec.toNat_ofNat, Nat.mod_eq_of_lt (by omega), Nat.xor_comm] at h2
    exact h2
  have e2 : (18446744073709551615 : Int).toNat = 18446744073709551615 := rfl
  rw [e2, Int.toNat_natCast, hx]
  omega

set_option maxHeartbeats 400000 in
theorem NotP_any (wd a : Int) (w : World) (hw : MayW wd) (h : U64 a) :
    Calls Try.prog 30 #[.int .i64 wd, .int .u64 a] w fun e w' => e = .returned (.tuple #[.int .u64 (lowI wd (18446744073709551615 - a)), .int .i64 0]) ∧ w = w' := by
  have hu : U64 (18446744073709551615 - a) := by obtain ⟨h0, h1⟩ := h; exact ⟨by omega, by omega⟩
  have hx := xor_max a h
  go_enter Try.func30, Try.ntmps30
  go_wp2_with fail
  refine (LowP_any _ _ _ hw hu).mono ?_
  rintro e w' ⟨rfl, rfl⟩
  go_wp2_with fail
  go_ret2
  exact ⟨rfl, rfl⟩
set_option maxHeartbeats 400000 in
theorem NotP_no (wd a : Int) (w : World) (hw : ¬ MayW wd) (h : U64 a) :
    Calls Try.prog 30 #[.int .i64 wd, .int .u64 a] w fun e w' => e = .returned (.tuple #[.int .u64 0, .int .i64 2]) ∧ w = w' := by
  have hx := xor_max a h
  go_enter Try.func30, Try.ntmps30
  go_wp2_with fail
  refine (LowP_no _ _ _ hw).mono ?_
  rintro e w' ⟨rfl, rfl⟩
  go_wp2_with fail
  go_ret2
  exact ⟨rfl, rfl⟩

/-- a block of five Bools that the call has laid, behind another call -/
theorem kept5 {w w1 : World} {o : Obj} (hb : Below (w.alloc o).heap.size (w.alloc o) w1) : w1.heap[w.heap.size]? = some o ∧ Below w.heap.size w w1 ∧ w.heap.size < w1.heap.size := by
  have h1 := hb.size
  simp at h1
  refine ⟨(hb.block _ (by simp)).trans (heap_alloc w o).1, ((Below.refl _ _).alloc (Nat.le_refl _) _).trans (hb.mono (by simp)), by omega⟩
theorem cells5 {w : World} {p : Nat} {a b c d e : Value} (h : w.heap[p]? = some (.cells #[a, b, c, d, e] 34 (0, 0))) :
    w.cell? ⟨p, 0, none⟩ = some a ∧ w.cell? ⟨p, 1, none⟩ = some b ∧ w.cell? ⟨p, 2, none⟩ = some c ∧ w.cell? ⟨p, 3, none⟩ = some d ∧ w.cell? ⟨p, 4, none⟩ = some e ∧ ∀ k, w.frozen? ⟨p, k, none⟩ = false :=
  ⟨by simp [World.cell?, h], by simp [World.cell?, h], by simp [World.cell?, h], by simp [World.cell?, h], by simp [World.cell?, h], fun k => by simp [World.frozen?, h]⟩
theorem below_set5 {w w1 : World} {p : Nat} (h : Below w.heap.size w w1) (hp : w.heap.size ≤ p) (a b c d e : Value) :
    Below w.heap.size w (((((w1.setCell ⟨p, 0, none⟩ a).setCell ⟨p, 1, none⟩ b).setCell ⟨p, 2, none⟩ c).setCell ⟨p, 3, none⟩ d).setCell ⟨p, 4, none⟩ e) :=
  ((((h.setCell hp _).setCell hp _).setCell hp _).setCell hp _).setCell hp _

set_option maxHeartbeats 400000 in
theorem NegP_core (wd a O : Int) (C V z s p : Bool) (er : Int) (w : World)
    (hdo : ∀ w, Calls Try.prog 18 #[.int .i64 3, .int .i64 wd, .int .u64 0, .int .u64 a, .agg #[.bool false, .bool false, .bool false, .bool false, .bool false]] w fun e w' => e = .returned (.tuple #[.int .u64 O, .agg #[.bool C, .bool z, .bool s, .bool V, .bool p], .int .i64 er]) ∧ Below w.heap.size w w') :
    Calls Try.prog 31 #[.int .i64 wd, .int .u64 a] w fun e w' => e = .returned (.tuple #[.int .u64 O, .agg #[.bool C, .bool z, .bool s, .bool V, .bool p], .int .i64 er]) ∧ Below w.heap.size w w' := by
  have hdo' := Lib.hid hdo
  clear hdo
  go_enter Try.func31, Try.ntmps31
  go_wp2_with fail
  refine (hdo'.out _).mono ?_
  rintro e w1 ⟨rfl, hb⟩
  obtain ⟨hblk, hfin, hz⟩ := kept5 hb
  obtain ⟨g0, g1, g2, g3, g4, f0⟩ := cells5 hblk
  have hfin' := Lib.hid hfin
  clear hb hblk hfin
  go_wp2_with fail
  refine bodyPost_ret (v := .tuple #[.int .u64 O, .agg #[.bool C, .bool z, .bool s, .bool V, .bool p], .int .i64 er]) (by simp [results, Try.results31, go_sem, g0, g1, g2, g3, g4]) rfl ⟨rfl, ?_⟩
  exact below_set5 hfin'.out (Nat.le_refl _) _ _ _ _ _

theorem u64_0 : U64 0 := ⟨by omega, by omega⟩
theorem NegP_any (wd a : Int) (w : World) (hw : MayW wd) (h : U64 a) :
    Calls Try.prog 31 #[.int .i64 wd, .int .u64 a] w (DoPost wd (doO 3 wd 0 a false) (doC 3 wd 0 a false) (doV 3 wd 0 a false) w) :=
  NegP_core wd a _ _ _ _ _ _ 0 w fun w => Do_any 3 wd 0 a false false false false false w hw u64_0 h (by omega)
theorem NegP_no (wd a : Int) (w : World) (hw : ¬ MayW wd) : Calls Try.prog 31 #[.int .i64 wd, .int .u64 a] w (DoNo w) :=
  NegP_core wd a _ _ _ _ _ _ 2 w fun w => Do_no 3 wd 0 a false false false false false w (.inr hw)

end Go.Proofs.Ytkfenljldmbmcaa
