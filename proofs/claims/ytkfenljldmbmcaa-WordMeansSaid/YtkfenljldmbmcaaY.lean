/- The contract of Eval, and of Args. -/
import Derived.Test.YtkfenljldmbmcaaX
set_option linter.unusedSimpArgs false
set_option linter.unusedVariables false
namespace Go.Proofs.Ytkfenljldmbmcaa
open Go.RowKit Go.MapKept

def argsI (op : Int) : Int := if op = 4 ∨ op = 5 then 1 else if 6 ≤ op ∧ op ≤ 20 then 2 else if op = 21 then 3 else -1
def evalS (op x y z : Int) : Int := if op = 4 then 18446744073709551615 - x else if op = 5 then IntKind.u64.wrap (-x) else if op = 21 then (if x ≠ 0 then y else z) else evalTwo op x y
theorem ret_int {a b : Int} (h : a = b) : Ending.returned (.int .i64 a) = .returned (.int .i64 b) := by rw [h]
set_option maxHeartbeats 400000 in
theorem ArgsP_any (op : Int) (w : World) : Calls Try.prog 15 #[.int .i64 op] w fun e w' => e = .returned (.int .i64 (argsI op)) ∧ w = w' := by
  go_enter Try.func15, Try.ntmps15
  go_wp2
  all_goals go_ret
  all_goals (refine ⟨ret_int ?_, rfl⟩; (try simp only [beq_iff_eq, beq_eq_false_iff_ne, ne_eq] at *); unfold argsI; repeat' split)
  all_goals first | rfl | omega
set_option maxHeartbeats 400000 in
theorem Args_any (op : Int) (w : World) : Calls Try.prog 13 #[.int .i64 op] w fun e w' => e = .returned (.int .i64 (argsI op)) ∧ w = w' := by
  go_enter Try.func13, Try.ntmps13
  go_wp2
  all_goals go_ret
  all_goals (refine ⟨ret_int ?_, rfl⟩; (try simp only [beq_iff_eq, beq_eq_false_iff_ne, ne_eq] at *); unfold argsI; repeat' split)
  all_goals first | rfl | omega

set_option maxHeartbeats 1000000 in
theorem Eval_core (m : Nat) (m4 : 4 ≤ m) (m21 : m ≤ 21) (res : Int) (sl : Value) (a0 : Option Addr) (n cap : Nat) (hsl : sl = .slice a0 n cap) (w : World) (hneg : decide (argsI m < 0) = false) (hne : (argsI m != (n : Int)) = false)
    (hcall : ∀ w1 v, Below w.heap.size w w1 → ValOK w w1 m v → ∃ f cs, v = .func (.func f) #[] cs ∧ (∀ (args : Array Value) (w2 : World), (callFunc f args).run Try.prog w2 = .ok (.enter f args) w2) ∧
      Calls Try.prog f (#[sl] ++ cs) w1 fun e w' => e = .returned (.int .u64 res) ∧ Below w1.heap.size w1 w') :
    Calls Try.prog 14 #[.int .i64 (m : Int), sl] w fun e w' => e = .returned (.tuple #[.int .u64 res, .int .i64 0]) ∧ Below w.heap.size w w' := by
  subst hsl
  have hcall' := Lib.hid hcall
  clear hcall
  go_enter Try.func14, Try.ntmps14
  go_wp2_with fail
  refine (ArgsP_any _ _).mono ?_
  rintro e w' ⟨rfl, rfl⟩
  go_wp2_with fail
  refine (evals_any _).mono ?_
  rintro e w1 ⟨b, rfl, hm, hb⟩
  obtain ⟨hbge, es, clock, he, hent⟩ := hm
  have h1 := hent m m4 m21
  rw [if_pos rfl] at h1
  obtain ⟨i, v, hfi, hv⟩ := h1
  obtain ⟨f, cs, hvv, henter, hcl⟩ := hcall'.out w1 v hb hv
  subst hvv
  have hlk := run_lookup_lit Try.underlying66 Try.underlying25 he (m : Int) _ i hfi
  have hb' := Lib.hid hb
  have hcl' := Lib.hid hcl
  clear hent hfi hv hb hcl he
  go_wp2_with fail
  refine hcl'.out.mono ?_
  rintro e w2 ⟨rfl, hb2⟩
  have hb2' := Lib.hid hb2
  clear hb2
  go_wp2_with fail
  go_ret2
  exact ⟨rfl, hb'.out.trans (hb2'.out.mono hb'.out.size)⟩


theorem drewN_below (w : World) (m : Nat) : Below w.heap.size w (w.drewN m) := below_drewN (Below.refl _ _) m
theorem cell_up {w w1 : World} (h : Below w.heap.size w w1) {blk o : Nat} (hlt : blk < w.heap.size) {v : Value} (hc : w.cell? ⟨blk, o, none⟩ = some v) : w1.cell? ⟨blk, o, none⟩ = some v :=
  (h.cell (p := ⟨blk, o, none⟩) hlt).trans hc
theorem two_6 : TwoSaid 57 #[] (fun _ => True) (evalTwo 6) := fun x y w _ _ _ => (f57 x y w).mono fun _ _ h => h
theorem two_7 : TwoSaid 58 #[] (fun _ => True) (evalTwo 7) := fun x y w _ _ _ => (f58 x y w).mono fun _ _ h => h
theorem two_8 : TwoSaid 59 #[] (fun _ => True) (evalTwo 8) := fun x y w _ _ _ => (f59 x y w).mono fun _ _ h => h
theorem two_9 : TwoSaid 60 #[] (fun _ => True) (evalTwo 9) := fun x y w _ _ _ => (f60 x y w).mono fun _ _ h => h
theorem two_10 : TwoSaid 61 #[] (fun _ => True) (evalTwo 10) := fun x y w _ _ _ => (f61 x y w).mono fun _ _ h => h
theorem two_11 : TwoSaid 62 #[] (fun _ => True) (evalTwo 11) := fun x y w _ _ _ => (f62 x y w).mono fun _ _ h => h
theorem two_12 : TwoSaid 63 #[] (fun _ => True) (evalTwo 12) := fun x y w _ hy _ => (f63 x y w hy).mono fun _ _ h => h
theorem two_13 : TwoSaid 64 #[] (fun _ => True) (evalTwo 13) := fun x y w _ hy _ => (f64 x y w hy).mono fun _ _ h => h
theorem two_14 : TwoSaid 65 #[] (fun _ => True) (evalTwo 14) := fun x y w _ hy _ => (f65 x y w hy).mono fun _ _ h => h
theorem two_15 : TwoSaid 66 #[] (fun _ => True) (evalTwo 15) := fun x y w hx hy _ => (f66 x y w hx hy).mono fun _ _ h => h
theorem two_16 : TwoSaid 68 #[] (fun _ => True) (evalTwo 16) := fun x y w hx hy _ => (f68 x y w hx hy).mono fun _ _ h => h
theorem test_17 : TestSaid 69 (fun x y => x == y) := fun x y w => f69 x y w
theorem two_17 (q : Nat) : TwoSaid 54 #[.pointer (some ⟨q, 0, none⟩)] (fun w => HasCell w q (.func (.func 69) #[] #[])) (evalTwo 17) := f54 69 q _ test_17 ent69
theorem test_18 : TestSaid 70 (fun x y => x != y) := fun x y w => f70 x y w
theorem two_18 (q : Nat) : TwoSaid 54 #[.pointer (some ⟨q, 0, none⟩)] (fun w => HasCell w q (.func (.func 70) #[] #[])) (evalTwo 18) := f54 70 q _ test_18 ent70
theorem test_19 : TestSaid 71 (fun x y => decide (x < y)) := fun x y w => f71 x y w
theorem two_19 (q : Nat) : TwoSaid 54 #[.pointer (some ⟨q, 0, none⟩)] (fun w => HasCell w q (.func (.func 71) #[] #[])) (evalTwo 19) := f54 71 q _ test_19 ent71
theorem test_20 : TestSaid 72 (fun x y => decide (x ≤ y)) := fun x y w => f72 x y w
theorem two_20 (q : Nat) : TwoSaid 54 #[.pointer (some ⟨q, 0, none⟩)] (fun w => HasCell w q (.func (.func 72) #[] #[])) (evalTwo 20) := f54 72 q _ test_20 ent72

/-- an operation of the language, on words that lie in a slice -/
theorem EvalP_any (op : Int) (n blk off cap : Nat) (x y z : Int) (w : World) (hop : argsI op = (n : Int)) (hblk : blk < w.heap.size) (hx : U64 x) (hy : U64 y)
    (h0 : w.cell? ⟨blk, off, none⟩ = some (.int .u64 x)) (h1 : 2 ≤ n → w.cell? ⟨blk, off + 1, none⟩ = some (.int .u64 y)) (h2 : 3 ≤ n → w.cell? ⟨blk, off + 2, none⟩ = some (.int .u64 z)) :
    Calls Try.prog 14 #[.int .i64 op, .slice (some ⟨blk, off, none⟩) n cap] w fun e w' => e = .returned (.tuple #[.int .u64 (evalS op x y z), .int .i64 0]) ∧ Below w.heap.size w w' := by
  obtain ⟨m, rfl, m4, m21⟩ : ∃ m : Nat, op = (m : Int) ∧ 4 ≤ m ∧ m ≤ 21 := by
    have hb : 4 ≤ op ∧ op ≤ 21 := by
      unfold argsI at hop
      by_cases a1 : op = 4 ∨ op = 5
      · omega
      · by_cases a2 : 6 ≤ op ∧ op ≤ 20
        · omega
        · by_cases a3 : op = 21
          · omega
          · rw [if_neg a1, if_neg a2, if_neg a3] at hop; omega
    exact ⟨op.toNat, by omega, by omega, by omega⟩
  have hneg : decide (argsI (m : Int) < 0) = false := by rw [hop]; simp
  have hne : (argsI (m : Int) != (n : Int)) = false := by rw [hop]; simp
  refine Eval_core m m4 m21 _ _ _ n cap rfl w hneg hne ?_
  intro w1 v hb hv
  have c0 := cell_up hb hblk h0
  have c1 : 2 ≤ n → _ := fun h => cell_up hb hblk (h1 h)
  have c2 : 3 ≤ n → _ := fun h => cell_up hb hblk (h2 h)
  have hm : m = 4 ∨ m = 5 ∨ m = 6 ∨ m = 7 ∨ m = 8 ∨ m = 9 ∨ m = 10 ∨ m = 11 ∨ m = 12 ∨ m = 13 ∨ m = 14 ∨ m = 15 ∨ m = 16 ∨ m = 17 ∨ m = 18 ∨ m = 19 ∨ m = 20 ∨ m = 21 := by omega
  rcases hm with rfl | rfl | rfl | rfl | rfl | rfl | rfl | rfl | rfl | rfl | rfl | rfl | rfl | rfl | rfl | rfl | rfl | rfl
  · have hnn : n = 1 := by have e : argsI ((4 : Nat) : Int) = 1 := rfl; rw [e] at hop; omega
    have hv' : v = .func (.func 55) #[] #[] := hv
    exact ⟨55, #[], hv', ent55, (f55 x w1 blk off n cap (by omega) hx c0).mono fun _ _ ⟨he, hw⟩ => ⟨he, below_of_eq hw⟩⟩
  · have hnn : n = 1 := by have e : argsI ((5 : Nat) : Int) = 1 := rfl; rw [e] at hop; omega
    have hv' : v = .func (.func 56) #[] #[] := hv
    exact ⟨56, #[], hv', ent56, (f56 x w1 blk off n cap (by omega) c0).mono fun _ _ ⟨he, hw⟩ => ⟨he, below_of_eq hw⟩⟩
  · have hnn : n = 2 := by have e : argsI ((6 : Nat) : Int) = 2 := rfl; rw [e] at hop; omega
    have hv' : ∃ p, v = clos p ∧ GoodB w w1 6 p := hv
    obtain ⟨p, hp, _, hg⟩ := hv'
    have hg' : HasCell w1 p (.func (.func 57) #[] #[]) := hg
    exact ⟨52, _, hp, ent52, (f52 x y w1 57 #[] _ _ (fun _ _ _ => trivial) two_6 ent57 blk off n cap p (by omega) hx hy c0 (c1 (by omega)) hg' trivial).mono fun _ _ ⟨he, m, hw⟩ => ⟨he, hw ▸ drewN_below _ m⟩⟩
  · have hnn : n = 2 := by have e : argsI ((7 : Nat) : Int) = 2 := rfl; rw [e] at hop; omega
    have hv' : ∃ p, v = clos p ∧ GoodB w w1 7 p := hv
    obtain ⟨p, hp, _, hg⟩ := hv'
    have hg' : HasCell w1 p (.func (.func 58) #[] #[]) := hg
    exact ⟨52, _, hp, ent52, (f52 x y w1 58 #[] _ _ (fun _ _ _ => trivial) two_7 ent58 blk off n cap p (by omega) hx hy c0 (c1 (by omega)) hg' trivial).mono fun _ _ ⟨he, m, hw⟩ => ⟨he, hw ▸ drewN_below _ m⟩⟩
  · have hnn : n = 2 := by have e : argsI ((8 : Nat) : Int) = 2 := rfl; rw [e] at hop; omega
    have hv' : ∃ p, v = clos p ∧ GoodB w w1 8 p := hv
    obtain ⟨p, hp, _, hg⟩ := hv'
    have hg' : HasCell w1 p (.func (.func 59) #[] #[]) := hg
    exact ⟨52, _, hp, ent52, (f52 x y w1 59 #[] _ _ (fun _ _ _ => trivial) two_8 ent59 blk off n cap p (by omega) hx hy c0 (c1 (by omega)) hg' trivial).mono fun _ _ ⟨he, m, hw⟩ => ⟨he, hw ▸ drewN_below _ m⟩⟩
  · have hnn : n = 2 := by have e : argsI ((9 : Nat) : Int) = 2 := rfl; rw [e] at hop; omega
    have hv' : ∃ p, v = clos p ∧ GoodB w w1 9 p := hv
    obtain ⟨p, hp, _, hg⟩ := hv'
    have hg' : HasCell w1 p (.func (.func 60) #[] #[]) := hg
    exact ⟨52, _, hp, ent52, (f52 x y w1 60 #[] _ _ (fun _ _ _ => trivial) two_9 ent60 blk off n cap p (by omega) hx hy c0 (c1 (by omega)) hg' trivial).mono fun _ _ ⟨he, m, hw⟩ => ⟨he, hw ▸ drewN_below _ m⟩⟩
  · have hnn : n = 2 := by have e : argsI ((10 : Nat) : Int) = 2 := rfl; rw [e] at hop; omega
    have hv' : ∃ p, v = clos p ∧ GoodB w w1 10 p := hv
    obtain ⟨p, hp, _, hg⟩ := hv'
    have hg' : HasCell w1 p (.func (.func 61) #[] #[]) := hg
    exact ⟨52, _, hp, ent52, (f52 x y w1 61 #[] _ _ (fun _ _ _ => trivial) two_10 ent61 blk off n cap p (by omega) hx hy c0 (c1 (by omega)) hg' trivial).mono fun _ _ ⟨he, m, hw⟩ => ⟨he, hw ▸ drewN_below _ m⟩⟩
  · have hnn : n = 2 := by have e : argsI ((11 : Nat) : Int) = 2 := rfl; rw [e] at hop; omega
    have hv' : ∃ p, v = clos p ∧ GoodB w w1 11 p := hv
    obtain ⟨p, hp, _, hg⟩ := hv'
    have hg' : HasCell w1 p (.func (.func 62) #[] #[]) := hg
    exact ⟨52, _, hp, ent52, (f52 x y w1 62 #[] _ _ (fun _ _ _ => trivial) two_11 ent62 blk off n cap p (by omega) hx hy c0 (c1 (by omega)) hg' trivial).mono fun _ _ ⟨he, m, hw⟩ => ⟨he, hw ▸ drewN_below _ m⟩⟩
  · have hnn : n = 2 := by have e : argsI ((12 : Nat) : Int) = 2 := rfl; rw [e] at hop; omega
    have hv' : ∃ p, v = clos p ∧ GoodB w w1 12 p := hv
    obtain ⟨p, hp, _, hg⟩ := hv'
    have hg' : HasCell w1 p (.func (.func 63) #[] #[]) := hg
    exact ⟨52, _, hp, ent52, (f52 x y w1 63 #[] _ _ (fun _ _ _ => trivial) two_12 ent63 blk off n cap p (by omega) hx hy c0 (c1 (by omega)) hg' trivial).mono fun _ _ ⟨he, m, hw⟩ => ⟨he, hw ▸ drewN_below _ m⟩⟩
  · have hnn : n = 2 := by have e : argsI ((13 : Nat) : Int) = 2 := rfl; rw [e] at hop; omega
    have hv' : ∃ p, v = clos p ∧ GoodB w w1 13 p := hv
    obtain ⟨p, hp, _, hg⟩ := hv'
    have hg' : HasCell w1 p (.func (.func 64) #[] #[]) := hg
    exact ⟨52, _, hp, ent52, (f52 x y w1 64 #[] _ _ (fun _ _ _ => trivial) two_13 ent64 blk off n cap p (by omega) hx hy c0 (c1 (by omega)) hg' trivial).mono fun _ _ ⟨he, m, hw⟩ => ⟨he, hw ▸ drewN_below _ m⟩⟩
  · have hnn : n = 2 := by have e : argsI ((14 : Nat) : Int) = 2 := rfl; rw [e] at hop; omega
    have hv' : ∃ p, v = clos p ∧ GoodB w w1 14 p := hv
    obtain ⟨p, hp, _, hg⟩ := hv'
    have hg' : HasCell w1 p (.func (.func 65) #[] #[]) := hg
    exact ⟨52, _, hp, ent52, (f52 x y w1 65 #[] _ _ (fun _ _ _ => trivial) two_14 ent65 blk off n cap p (by omega) hx hy c0 (c1 (by omega)) hg' trivial).mono fun _ _ ⟨he, m, hw⟩ => ⟨he, hw ▸ drewN_below _ m⟩⟩
  · have hnn : n = 2 := by have e : argsI ((15 : Nat) : Int) = 2 := rfl; rw [e] at hop; omega
    have hv' : ∃ p, v = clos p ∧ GoodB w w1 15 p := hv
    obtain ⟨p, hp, _, hg⟩ := hv'
    have hg' : HasCell w1 p (.func (.func 66) #[] #[]) := hg
    exact ⟨52, _, hp, ent52, (f52 x y w1 66 #[] _ _ (fun _ _ _ => trivial) two_15 ent66 blk off n cap p (by omega) hx hy c0 (c1 (by omega)) hg' trivial).mono fun _ _ ⟨he, m, hw⟩ => ⟨he, hw ▸ drewN_below _ m⟩⟩
  · have hnn : n = 2 := by have e : argsI ((16 : Nat) : Int) = 2 := rfl; rw [e] at hop; omega
    have hv' : ∃ p, v = clos p ∧ GoodB w w1 16 p := hv
    obtain ⟨p, hp, _, hg⟩ := hv'
    have hg' : HasCell w1 p (.func (.func 68) #[] #[]) := hg
    exact ⟨52, _, hp, ent52, (f52 x y w1 68 #[] _ _ (fun _ _ _ => trivial) two_16 ent68 blk off n cap p (by omega) hx hy c0 (c1 (by omega)) hg' trivial).mono fun _ _ ⟨he, m, hw⟩ => ⟨he, hw ▸ drewN_below _ m⟩⟩
  · have hnn : n = 2 := by have e : argsI ((17 : Nat) : Int) = 2 := rfl; rw [e] at hop; omega
    have hv' : ∃ p, v = clos p ∧ GoodB w w1 17 p := hv
    obtain ⟨p, hp, _, hg⟩ := hv'
    have hg' : ∃ q, HasCell w1 p (.func (.func 54) #[] #[.pointer (some ⟨q, 0, none⟩)]) ∧ HasCell w1 q (.func (.func 69) #[] #[]) := hg
    obtain ⟨q, hp1, hq⟩ := hg'
    exact ⟨52, _, hp, ent52, (f52 x y w1 54 _ _ _ (fun _ _ h => h) (two_17 q) ent54 blk off n cap p (by omega) hx hy c0 (c1 (by omega)) hp1 hq).mono fun _ _ ⟨he, m, hw⟩ => ⟨he, hw ▸ drewN_below _ m⟩⟩
  · have hnn : n = 2 := by have e : argsI ((18 : Nat) : Int) = 2 := rfl; rw [e] at hop; omega
    have hv' : ∃ p, v = clos p ∧ GoodB w w1 18 p := hv
    obtain ⟨p, hp, _, hg⟩ := hv'
    have hg' : ∃ q, HasCell w1 p (.func (.func 54) #[] #[.pointer (some ⟨q, 0, none⟩)]) ∧ HasCell w1 q (.func (.func 70) #[] #[]) := hg
    obtain ⟨q, hp1, hq⟩ := hg'
    exact ⟨52, _, hp, ent52, (f52 x y w1 54 _ _ _ (fun _ _ h => h) (two_18 q) ent54 blk off n cap p (by omega) hx hy c0 (c1 (by omega)) hp1 hq).mono fun _ _ ⟨he, m, hw⟩ => ⟨he, hw ▸ drewN_below _ m⟩⟩
  · have hnn : n = 2 := by have e : argsI ((19 : Nat) : Int) = 2 := rfl; rw [e] at hop; omega
    have hv' : ∃ p, v = clos p ∧ GoodB w w1 19 p := hv
    obtain ⟨p, hp, _, hg⟩ := hv'
    have hg' : ∃ q, HasCell w1 p (.func (.func 54) #[] #[.pointer (some ⟨q, 0, none⟩)]) ∧ HasCell w1 q (.func (.func 71) #[] #[]) := hg
    obtain ⟨q, hp1, hq⟩ := hg'
    exact ⟨52, _, hp, ent52, (f52 x y w1 54 _ _ _ (fun _ _ h => h) (two_19 q) ent54 blk off n cap p (by omega) hx hy c0 (c1 (by omega)) hp1 hq).mono fun _ _ ⟨he, m, hw⟩ => ⟨he, hw ▸ drewN_below _ m⟩⟩
  · have hnn : n = 2 := by have e : argsI ((20 : Nat) : Int) = 2 := rfl; rw [e] at hop; omega
    have hv' : ∃ p, v = clos p ∧ GoodB w w1 20 p := hv
    obtain ⟨p, hp, _, hg⟩ := hv'
    have hg' : ∃ q, HasCell w1 p (.func (.func 54) #[] #[.pointer (some ⟨q, 0, none⟩)]) ∧ HasCell w1 q (.func (.func 72) #[] #[]) := hg
    obtain ⟨q, hp1, hq⟩ := hg'
    exact ⟨52, _, hp, ent52, (f52 x y w1 54 _ _ _ (fun _ _ h => h) (two_20 q) ent54 blk off n cap p (by omega) hx hy c0 (c1 (by omega)) hp1 hq).mono fun _ _ ⟨he, m, hw⟩ => ⟨he, hw ▸ drewN_below _ m⟩⟩
  · have hnn : n = 3 := by have e : argsI ((21 : Nat) : Int) = 3 := rfl; rw [e] at hop; omega
    have hv' : v = .func (.func 73) #[] #[] := hv
    exact ⟨73, #[], hv', ent73, (f73 x y w1 z blk off n cap (by omega) c0 (c1 (by omega)) (c2 (by omega))).mono fun _ _ ⟨he, hw⟩ => ⟨he, below_of_eq hw⟩⟩

set_option maxHeartbeats 400000 in
theorem EvalP_no (op : Int) (a0 : Option Addr) (n cap : Nat) (w : World) (hop : argsI op ≠ (n : Int)) (hn : n ≤ maxLen) :
    Calls Try.prog 14 #[.int .i64 op, .slice a0 n cap] w fun e w' => e = .returned (.tuple #[.int .u64 0, .int .i64 2]) ∧ w = w' := by
  have hne : (argsI op != (n : Int)) = true := by simpa using hop
  cases hneg : decide (argsI op < 0)
  all_goals
    go_enter Try.func14, Try.ntmps14
    go_wp2_with fail
    refine (ArgsP_any _ _).mono ?_
    rintro e w' ⟨rfl, rfl⟩
    go_wp2_with fail
    go_ret2
    exact ⟨rfl, rfl⟩

end Go.Proofs.Ytkfenljldmbmcaa
