/- Which statements can be told: lists. -/
import Derived.Test.YtnahgfdoiflacaaGreatDoorDI
set_option linter.unusedSimpArgs false
set_option linter.unusedVariables false
namespace Go.Proofs.YtnahgfdoiflacaaGreatDoor
open Go.RowKit Go.Lib Go.Shelf

set_option maxRecDepth 100000 in
set_option maxHeartbeats 8000000 in
theorem mayStmtO_any (x : St) (r : StC) (hkx : r.kd = x.kd) (hk : x.kd < 1 ∨ 6 < x.kd) (W : World) : Calls Tryz.prog 115 #[vlT r] W (BoolPost (mayS x) W) := by
  have hmay : mayS x = false := by
    rw [mayS_eq]
    have : kindOk x.kd = false := by
      unfold kindOk
      rcases hk with h | h
      · rw [decide_eq_false (by omega), Bool.false_and]
      · rw [decide_eq_false (p := x.kd ≤ 6) (by omega), Bool.and_false]
    rw [this, Bool.false_and]
  rw [hmay]
  rw [← hkx] at hk
  clear hmay hkx
  obtain ⟨kd, nm, ⟨nA, nn, nc⟩, ⟨eo, eu, en, ⟨eA, ek, ec⟩⟩, ⟨ao, au, an, ⟨aA, ak, ac⟩⟩, ⟨gA, gn, gc⟩, lo, hi, ⟨bA, bn, bc⟩, ⟨lA, ln, lc⟩⟩ := r
  dsimp only at hk
  unfold vlT
  dsimp only
  obtain ⟨W1, hW1⟩ : ∃ W1, W.alloc (.cells #[.int .i64 kd, .string nm, .slice nA nn nc, .int .i64 eo, .int .u64 eu, .string en, .slice eA ek ec, .int .i64 ao, .int .u64 au, .string an, .slice aA ak ac, .slice gA gn gc, .int .u64 lo, .int .u64 hi, .slice bA bn bc, .slice lA ln lc] 50) = W1 := ⟨_, rfl⟩
  have hb1 : Below W.heap.size W W1 := by rw [← hW1]; exact (Below.refl _ W).alloc (Nat.le_refl _) _
  have hX : W1.heap[W.heap.size]? = some (.cells #[.int .i64 kd, .string nm, .slice nA nn nc, .int .i64 eo, .int .u64 eu, .string en, .slice eA ek ec, .int .i64 ao, .int .u64 au, .string an, .slice aA ak ac, .slice gA gn gc, .int .u64 lo, .int .u64 hi, .slice bA bn bc, .slice lA ln lc] 50 (0, 0)) := by rw [← hW1]; exact heap_alloc_new _ _
  obtain ⟨p0, p1, p2, p3, p4, p5, p6, p7, p8, p9, p10, p11, p12, p13, p14, p15⟩ := box16 hX
  have hb1 := Lib.hid hb1
  have hW1' := Lib.hid hW1
  clear hW1 hX
  have k1 : (kd == 1) = false := int_ne (by omega)
  have k2 : (kd == 2) = false := int_ne (by omega)
  have k3 : (kd == 3) = false := int_ne (by omega)
  have k4 : (kd == 4) = false := int_ne (by omega)
  have k5 : (kd == 5) = false := int_ne (by omega)
  have k6 : (kd == 6) = false := int_ne (by omega)
  by_cases h1 : kd < 1
  · have h1' : decide (kd < 1) = true := decide_eq_true h1
    go_enter Tryz.func115, Tryz.ntmps115
    go_wp2_with fail
    rw [hW1'.out]
    go_wp2
    go_ret
    exact ⟨rfl, hb1.out⟩
  · have h6 : 6 < kd := by omega
    have h1' : decide (kd < 1) = false := decide_eq_false h1
    have h6' : decide (6 < kd) = true := decide_eq_true h6
    go_enter Tryz.func115, Tryz.ntmps115
    go_wp2_with fail
    rw [hW1'.out]
    go_wp2
    go_ret
    exact ⟨rfl, hb1.out⟩
set_option maxRecDepth 100000 in
set_option maxHeartbeats 4000000 in
theorem mayL_any (w0 : World) (L : List St) (A : Option Addr) (h : StsAt w0 L A) : ∀ (c : Nat) (W : World), cntSs L ≤ 30000 → Below w0.heap.size w0 W →
    Calls Tryz.prog 114 #[.slice A L.length c, .func (.func 115) #[] #[]] W (BoolPost (maySs L) W) := by
  refine StsAt.all (M := fun L A => ∀ (c : Nat) (W : World), cntSs L ≤ 30000 → Below w0.heap.size w0 W → Calls Tryz.prog 114 #[.slice A L.length c, .func (.func 115) #[] #[]] W (BoolPost (maySs L) W)) ?_ L A h
  intro L A hL ih c W hc hW
  have l1 := len_cntSs L
  rw [maySs_all]
  exact allTS_any 115 (enters_of Tryz.func115 (by kernel_rfl) rfl) mayS w0 L A hL c W hW (by omega) (fun i x r hx hxr hxb hxl W' hW' => by
    have c1 := cntS_mem hx
    have c2 := cntS_bd x
    have hbd := fun (W2 : World) (hW2 : Below w0.heap.size w0 W2) => (ih i x _ hx).1 hxb r.bd.c W2 (by omega) hW2
    have hel := fun (W2 : World) (hW2 : Below w0.heap.size w0 W2) => (ih i x _ hx).2 hxl r.el.c W2 (by omega) hW2
    rcases (show (x.kd < 1 ∨ 6 < x.kd) ∨ x.kd = 1 ∨ x.kd = 2 ∨ x.kd = 3 ∨ x.kd = 4 ∨ x.kd = 5 ∨ x.kd = 6 by omega) with k | k | k | k | k | k | k
    · exact mayStmtO_any x r hxr.kd k W'
    · exact mayStmt1_any w0 x r hxr k W' hW' (by omega) hbd hel
    · exact mayStmt2_any w0 x r hxr k W' hW' (by omega) hbd hel
    · exact mayStmt3_any w0 x r hxr k W' hW' (by omega) hbd hel
    · exact mayStmt4_any w0 x r hxr k W' hW' (by omega) hbd hel
    · exact mayStmt5_any w0 x r hxr k W' hW' (by omega) hbd hel
    · exact mayStmt6_any w0 x r hxr k W' hW' (by omega) hbd hel)
/-- statements that can be told -/
def mayT (L : List St) : Bool := decide (depSs L ≤ 64) && maySs L
set_option maxRecDepth 100000 in
set_option maxHeartbeats 4000000 in
theorem mayStmts_any (w0 : World) (L : List St) (A : Option Addr) (h : StsAt w0 L A) (c : Nat) (W : World) (hc : cntSs L ≤ 30000) (hW : Below w0.heap.size w0 W) :
    Calls Tryz.prog 68 #[.slice A L.length c] W (BoolPost (mayT L) W) := by
  have hd := Lib.hid (fun (W' : World) (hb : Below W.heap.size W W') => deep28_any w0 L A h c W' hc (hW.trans (hb.mono hW.size)))
  have hk := Lib.hid (fun (W' : World) (hb : Below W.heap.size W W') => mayL_any w0 L A h c W' hc (hW.trans (hb.mono hW.size)))
  unfold mayT
  have hdb := depSs_cnt L
  generalize L.length = n at hd hk ⊢
  obtain ⟨d, hdd⟩ : ∃ d, depSs L = d := ⟨_, rfl⟩
  rw [hdd] at hd hdb ⊢
  generalize maySs L = t at hk ⊢
  have hd9 : d ≤ 30000 := by omega
  clear h hc hW hdd hdb
  by_cases h64 : d ≤ 64
  · have e0 : (d : Int) ≤ 64 := by omega
    rw [decide_eq_true h64]
    clear h64
    go_enter Tryz.func68, Tryz.ntmps68
    go_wp2_with fail
    refine (hd.out _ (Below.refl _ _)).mono ?_
    rintro e w1 ⟨rfl, hb⟩
    have hb := Lib.hid hb
    go_wp2_with fail
    refine (hk.out _ hb.out).mono ?_
    rintro e w2 ⟨rfl, hb2⟩
    have hb2 := Lib.hid (Below.next hb.out hb2)
    cases t
    all_goals
      go_wp2
      go_ret
      exact ⟨rfl, hb2.out⟩
  · have e0 : ¬ (d : Int) ≤ 64 := by omega
    have e1 : decide ((d : Int) ≤ 64) = false := decide_eq_false e0
    rw [decide_eq_false h64]
    clear h64
    go_enter Tryz.func68, Tryz.ntmps68
    go_wp2_with fail
    refine (hd.out _ (Below.refl _ _)).mono ?_
    rintro e w1 ⟨rfl, hb⟩
    have hb := Lib.hid hb
    go_wp2
    go_ret
    exact ⟨rfl, hb.out⟩
end Go.Proofs.YtnahgfdoiflacaaGreatDoor
