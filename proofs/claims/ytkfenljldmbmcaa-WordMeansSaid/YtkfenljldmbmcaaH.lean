/- The contract of Do. -/
import Derived.Test.YtkfenljldmbmcaaG
set_option linter.unusedSimpArgs false
set_option linter.unusedVariables false
namespace Go.Proofs.Ytkfenljldmbmcaa
open Go.RowKit Go.MapKept

theorem bcell {W w1 : World} (hb : Below W.heap.size W w1) : (∀ b o, b < W.heap.size → w1.cell? ⟨b, o, none⟩ = W.cell? ⟨b, o, none⟩) ∧ (∀ b o, b < W.heap.size → w1.frozen? ⟨b, o, none⟩ = W.frozen? ⟨b, o, none⟩) :=
  ⟨fun b o h => hb.cell (p := ⟨b, o, none⟩) h, fun b o h => hb.frozen (p := ⟨b, o, none⟩) h⟩
theorem sumO_u {wd : Int} (hw : MayW wd) (a b c : Int) : U64 (sumO wd a b c) := low_lt hw
theorem subO_u {wd : Int} (hw : MayW wd) (a b c : Int) : U64 (subO wd a b c) := low_lt hw

theorem run_func_nil (k : Nat) (cs : Array Value) (w : World) : (binOp BinOp.eql 71 (.func (.func k) #[] cs) .nilFunc).run Try.prog w = .ok (.bool false) w := by kernel_rfl
theorem run_nil_nil (w : World) : (binOp BinOp.eql 71 .nilFunc .nilFunc).run Try.prog w = .ok (.bool true) w := by kernel_rfl

theorem two_blocks (w : World) (x y : Obj) : ((w.alloc x).alloc y).heap[w.heap.size + 1]? = some y := by
  have := (heap_alloc (w.alloc x) y).1
  simpa using this

/-- what the function that Do has found does with two low parts -/
def DoneSaid (wd A B cr : Int) (f : Nat) (caps : Nat → Nat → Nat → Array Value) (O : Int) (C V : Bool) : Prop :=
  ∀ (w2 : World) (p5 p6 p7 : Nat), HasCell w2 p5 (.func (.func 79) #[] #[]) → HasCell w2 p6 (.func (.func 80) #[] #[]) → HasCell w2 p7 (.func (.func 81) #[] #[]) →
    Calls Try.prog f (#[.int .i64 wd, .int .u64 A, .int .u64 B, .int .u64 cr] ++ caps p5 p6 p7) w2 fun e w' => e = .returned (.tuple #[.int .u64 O, .bool C, .bool V]) ∧ Below w2.heap.size w2 w'
def FoundSaid (op : Int) (f : Nat) (caps : Nat → Nat → Nat → Array Value) : Prop :=
  ∀ p5 p6 p7, ∃ i, Instr.findNow (.int .i64) (.int .i64 op) (binsEs p5 p6 p7).toList 0 = some (some (i, .func (.func f) #[] (caps p5 p6 p7)))
/-- how Do ends -/
def DoPost (wd : Int) (O : Int) (C V : Bool) (w : World) (e : Ending) (w' : World) : Prop :=
  e = .returned (.tuple #[.int .u64 O, .agg #[.bool C, .bool (O == 0), .bool (topB wd O), .bool V, .bool (parB O)], .int .i64 0]) ∧ Below w.heap.size w w'

set_option maxHeartbeats 1000000 in
theorem Do_a (op wd a b : Int) (z s o p : Bool) (w : World) (hw : MayW wd) (h : U64 a) (hb : U64 b) (f : Nat) (caps : Nat → Nat → Nat → Array Value) (O : Int) (C V : Bool)
    (hfound : FoundSaid op f caps) (hdone : DoneSaid wd (lowI wd a) (lowI wd b) 0 f caps O C V) (hO : U64 O) (hent : ∀ (args : Array Value) (w2 : World), (callFunc f args).run Try.prog w2 = .ok (.enter f args) w2) :
    Calls Try.prog 18 #[.int .i64 op, .int .i64 wd, .int .u64 a, .int .u64 b, .agg #[.bool false, .bool z, .bool s, .bool o, .bool p]] w (DoPost wd O C V w) := by
  have hmay := mayB_of hw
  have hp1 : 1 ≤ wd := by rcases hw with rfl | rfl | rfl | rfl <;> omega
  have hp2 : wd ≤ 64 := by rcases hw with rfl | rfl | rfl | rfl <;> omega
  go_enter Try.func18, Try.ntmps18
  go_wp2_with fail
  refine (bins_any _).mono ?_
  rintro e w1 ⟨bm, p5, p6, p7, rfl, hbm⟩
  have hnf := run_func_nil
  obtain ⟨i, hfi⟩ := hfound p5 p6 p7
  have hlk := run_lookup_lit Try.underlying72 Try.underlying37 hbm.1 op _ i hfi
  clear hfi
  have hbl := hbm.2.1
  obtain ⟨hc1, hf1⟩ := bcell hbl
  have hz1 := hbl.size
  have hz2 : w.heap.size + 1 < w1.heap.size := by simp at hz1; omega
  have hdo : ∀ o, Calls Try.prog f (#[.int .i64 wd, .int .u64 (lowI wd a), .int .u64 (lowI wd b), .int .u64 0] ++ caps p5 p6 p7) (w1.alloc o) fun e w' => e = .returned (.tuple #[.int .u64 O, .bool C, .bool V]) ∧ Below (w1.alloc o).heap.size (w1.alloc o) w' := by
    intro o
    have hcs : ∀ x ∈ [(p7, Value.func (Fn.func 81) #[] #[]), (p6, .func (.func 80) #[] #[]), (p5, .func (.func 79) #[] #[])], HasCell (w1.alloc o) x.1 x.2 := by
      intro x hx
      obtain ⟨⟨t, ht⟩, _, _⟩ := hbm.2.2.2 x hx
      exact ⟨t, ((heap_alloc w1 o).2 _ (lt_of_block ht)).trans ht⟩
    exact hdone _ p5 p6 p7 (hcs (p5, _) (by simp)) (hcs (p6, _) (by simp)) (hcs (p7, _) (by simp))
  have hdo' := Lib.hid hdo
  have hbl' := Lib.hid hbl
  clear hdo hbm hbl hdone
  go_wp2_with fail
  refine (may_any _ _).mono ?_
  rintro e w' ⟨rfl, rfl⟩
  go_wp2_with fail
  refine (low_any _ _ _ hw h).mono ?_
  rintro e w' ⟨rfl, rfl⟩
  go_wp2_with fail
  refine (low_any _ _ _ hw hb).mono ?_
  rintro e w' ⟨rfl, rfl⟩
  go_wp2_with fail
  refine (hdo'.out _).mono ?_
  rintro e w2 ⟨rfl, hb2⟩
  obtain ⟨hc2, hf2⟩ := bcell hb2
  have hz3 := hb2.size
  have hz4 : w1.heap.size < w2.heap.size := by simp at hz3; omega
  have hb2' := Lib.hid hb2
  clear hb2 hent hlk hnf hdo' hmay
  go_wp2_with fail
  refine (by_any _ _ _ _ _ _ _ _ hp1 hp2 hO).mono ?_
  rintro e w3 ⟨rfl, hb3⟩
  obtain ⟨hc3, hf3⟩ := bcell hb3
  have hz5 := hb3.size
  have hz6 : w1.heap.size < w3.heap.size := by simp at hz5; omega
  have hblk : w3.heap[w.heap.size + 1]? = some (.cells #[.bool false, .bool false, .bool false, .bool false, .bool false] 34 (0, 0)) := by
    rw [hb3.block _ (by simp; omega), Below.heap_setCell _ _ _ _ (by simp; omega), Below.heap_setCell _ _ _ _ (by simp; omega), hb2'.out.block _ (by simp; omega), (heap_alloc w1 _).2 _ (by omega), hbl'.out.block _ (by simp)]
    exact two_blocks w _ _
  have g0 : w3.cell? ⟨w.heap.size + 1, 0, none⟩ = some (.bool false) := by simp [World.cell?, hblk]
  have g1 : w3.cell? ⟨w.heap.size + 1, 1, none⟩ = some (.bool false) := by simp [World.cell?, hblk]
  have g2 : w3.cell? ⟨w.heap.size + 1, 2, none⟩ = some (.bool false) := by simp [World.cell?, hblk]
  have g3 : w3.cell? ⟨w.heap.size + 1, 3, none⟩ = some (.bool false) := by simp [World.cell?, hblk]
  have g4 : w3.cell? ⟨w.heap.size + 1, 4, none⟩ = some (.bool false) := by simp [World.cell?, hblk]
  have f0 : ∀ k, w3.frozen? ⟨w.heap.size + 1, k, none⟩ = false := fun k => by simp [World.frozen?, hblk]
  have hfin : Below w.heap.size w w3 := by
    refine Below.trans ?_ (hb3.mono (by simp; omega))
    refine Below.setCell (Below.setCell ?_ (by simp; omega) _) (by simp; omega) _
    refine Below.trans ?_ (hb2'.out.mono (by simp; omega))
    refine Below.alloc (Below.trans ?_ (hbl'.out.mono (by simp; omega))) (by omega) _
    exact ((Below.refl _ _).alloc (Nat.le_refl _) _).alloc (by simp) _
  have hfin' := Lib.hid hfin
  clear hb3 hblk hc1 hf1 hc2 hf2 hc3 hf3 hfin hb2' hbl' hz1 hz3 hz5
  go_wp2_with fail
  refine bodyPost_ret (v := .tuple #[.int .u64 O, .agg #[.bool C, .bool (O == 0), .bool (topB wd O), .bool V, .bool (parB O)], .int .i64 0]) (by simp [results, Try.results18, go_sem, g0, g1, g2, g3, g4]) rfl ⟨rfl, ?_⟩
  exact ((((hfin'.out.setCell (by simp) _).setCell (by simp) _).setCell (by simp) _).setCell (by simp) _).setCell (by simp) _

set_option maxHeartbeats 1000000 in
theorem Do_b (op wd a b : Int) (z s o p : Bool) (w : World) (hw : MayW wd) (h : U64 a) (hb : U64 b) (f : Nat) (caps : Nat → Nat → Nat → Array Value) (O : Int) (C V : Bool) (h2 : (op == 2) = true)
    (hfound : FoundSaid op f caps) (hdone : DoneSaid wd (lowI wd a) (lowI wd b) 1 f caps O C V) (hO : U64 O) (hent : ∀ (args : Array Value) (w2 : World), (callFunc f args).run Try.prog w2 = .ok (.enter f args) w2) :
    Calls Try.prog 18 #[.int .i64 op, .int .i64 wd, .int .u64 a, .int .u64 b, .agg #[.bool true, .bool z, .bool s, .bool o, .bool p]] w (DoPost wd O C V w) := by
  have hmay := mayB_of hw
  have hp1 : 1 ≤ wd := by rcases hw with rfl | rfl | rfl | rfl <;> omega
  have hp2 : wd ≤ 64 := by rcases hw with rfl | rfl | rfl | rfl <;> omega
  go_enter Try.func18, Try.ntmps18
  go_wp2_with fail
  refine (bins_any _).mono ?_
  rintro e w1 ⟨bm, p5, p6, p7, rfl, hbm⟩
  have hnf := run_func_nil
  obtain ⟨i, hfi⟩ := hfound p5 p6 p7
  have hlk := run_lookup_lit Try.underlying72 Try.underlying37 hbm.1 op _ i hfi
  clear hfi
  have hbl := hbm.2.1
  obtain ⟨hc1, hf1⟩ := bcell hbl
  have hz1 := hbl.size
  have hz2 : w.heap.size + 1 < w1.heap.size := by simp at hz1; omega
  have hdo : ∀ o, Calls Try.prog f (#[.int .i64 wd, .int .u64 (lowI wd a), .int .u64 (lowI wd b), .int .u64 1] ++ caps p5 p6 p7) (w1.alloc o) fun e w' => e = .returned (.tuple #[.int .u64 O, .bool C, .bool V]) ∧ Below (w1.alloc o).heap.size (w1.alloc o) w' := by
    intro o
    have hcs : ∀ x ∈ [(p7, Value.func (Fn.func 81) #[] #[]), (p6, .func (.func 80) #[] #[]), (p5, .func (.func 79) #[] #[])], HasCell (w1.alloc o) x.1 x.2 := by
      intro x hx
      obtain ⟨⟨t, ht⟩, _, _⟩ := hbm.2.2.2 x hx
      exact ⟨t, ((heap_alloc w1 o).2 _ (lt_of_block ht)).trans ht⟩
    exact hdone _ p5 p6 p7 (hcs (p5, _) (by simp)) (hcs (p6, _) (by simp)) (hcs (p7, _) (by simp))
  have hdo' := Lib.hid hdo
  have hbl' := Lib.hid hbl
  clear hdo hbm hbl hdone
  go_wp2_with fail
  refine (may_any _ _).mono ?_
  rintro e w' ⟨rfl, rfl⟩
  go_wp2_with fail
  refine (low_any _ _ _ hw h).mono ?_
  rintro e w' ⟨rfl, rfl⟩
  go_wp2_with fail
  refine (low_any _ _ _ hw hb).mono ?_
  rintro e w' ⟨rfl, rfl⟩
  go_wp2_with fail
  refine (hdo'.out _).mono ?_
  rintro e w2 ⟨rfl, hb2⟩
  obtain ⟨hc2, hf2⟩ := bcell hb2
  have hz3 := hb2.size
  have hz4 : w1.heap.size < w2.heap.size := by simp at hz3; omega
  have hb2' := Lib.hid hb2
  clear hb2 hent hlk hnf hdo' hmay
  go_wp2_with fail
  refine (by_any _ _ _ _ _ _ _ _ hp1 hp2 hO).mono ?_
  rintro e w3 ⟨rfl, hb3⟩
  obtain ⟨hc3, hf3⟩ := bcell hb3
  have hz5 := hb3.size
  have hz6 : w1.heap.size < w3.heap.size := by simp at hz5; omega
  have hblk : w3.heap[w.heap.size + 1]? = some (.cells #[.bool false, .bool false, .bool false, .bool false, .bool false] 34 (0, 0)) := by
    rw [hb3.block _ (by simp; omega), Below.heap_setCell _ _ _ _ (by simp; omega), Below.heap_setCell _ _ _ _ (by simp; omega), hb2'.out.block _ (by simp; omega), (heap_alloc w1 _).2 _ (by omega), hbl'.out.block _ (by simp)]
    exact two_blocks w _ _
  have g0 : w3.cell? ⟨w.heap.size + 1, 0, none⟩ = some (.bool false) := by simp [World.cell?, hblk]
  have g1 : w3.cell? ⟨w.heap.size + 1, 1, none⟩ = some (.bool false) := by simp [World.cell?, hblk]
  have g2 : w3.cell? ⟨w.heap.size + 1, 2, none⟩ = some (.bool false) := by simp [World.cell?, hblk]
  have g3 : w3.cell? ⟨w.heap.size + 1, 3, none⟩ = some (.bool false) := by simp [World.cell?, hblk]
  have g4 : w3.cell? ⟨w.heap.size + 1, 4, none⟩ = some (.bool false) := by simp [World.cell?, hblk]
  have f0 : ∀ k, w3.frozen? ⟨w.heap.size + 1, k, none⟩ = false := fun k => by simp [World.frozen?, hblk]
  have hfin : Below w.heap.size w w3 := by
    refine Below.trans ?_ (hb3.mono (by simp; omega))
    refine Below.setCell (Below.setCell ?_ (by simp; omega) _) (by simp; omega) _
    refine Below.trans ?_ (hb2'.out.mono (by simp; omega))
    refine Below.alloc (Below.trans ?_ (hbl'.out.mono (by simp; omega))) (by omega) _
    exact ((Below.refl _ _).alloc (Nat.le_refl _) _).alloc (by simp) _
  have hfin' := Lib.hid hfin
  clear hb3 hblk hc1 hf1 hc2 hf2 hc3 hf3 hfin hb2' hbl' hz1 hz3 hz5
  go_wp2_with fail
  refine bodyPost_ret (v := .tuple #[.int .u64 O, .agg #[.bool C, .bool (O == 0), .bool (topB wd O), .bool V, .bool (parB O)], .int .i64 0]) (by simp [results, Try.results18, go_sem, g0, g1, g2, g3, g4]) rfl ⟨rfl, ?_⟩
  exact ((((hfin'.out.setCell (by simp) _).setCell (by simp) _).setCell (by simp) _).setCell (by simp) _).setCell (by simp) _

set_option maxHeartbeats 1000000 in
theorem Do_c (op wd a b : Int) (z s o p : Bool) (w : World) (hw : MayW wd) (h : U64 a) (hb : U64 b) (f : Nat) (caps : Nat → Nat → Nat → Array Value) (O : Int) (C V : Bool) (h2 : (op == 2) = false) (h4 : (op == 4) = true)
    (hfound : FoundSaid op f caps) (hdone : DoneSaid wd (lowI wd a) (lowI wd b) 1 f caps O C V) (hO : U64 O) (hent : ∀ (args : Array Value) (w2 : World), (callFunc f args).run Try.prog w2 = .ok (.enter f args) w2) :
    Calls Try.prog 18 #[.int .i64 op, .int .i64 wd, .int .u64 a, .int .u64 b, .agg #[.bool true, .bool z, .bool s, .bool o, .bool p]] w (DoPost wd O C V w) := by
  have hmay := mayB_of hw
  have hp1 : 1 ≤ wd := by rcases hw with rfl | rfl | rfl | rfl <;> omega
  have hp2 : wd ≤ 64 := by rcases hw with rfl | rfl | rfl | rfl <;> omega
  go_enter Try.func18, Try.ntmps18
  go_wp2_with fail
  refine (bins_any _).mono ?_
  rintro e w1 ⟨bm, p5, p6, p7, rfl, hbm⟩
  have hnf := run_func_nil
  obtain ⟨i, hfi⟩ := hfound p5 p6 p7
  have hlk := run_lookup_lit Try.underlying72 Try.underlying37 hbm.1 op _ i hfi
  clear hfi
  have hbl := hbm.2.1
  obtain ⟨hc1, hf1⟩ := bcell hbl
  have hz1 := hbl.size
  have hz2 : w.heap.size + 1 < w1.heap.size := by simp at hz1; omega
  have hdo : ∀ o, Calls Try.prog f (#[.int .i64 wd, .int .u64 (lowI wd a), .int .u64 (lowI wd b), .int .u64 1] ++ caps p5 p6 p7) (w1.alloc o) fun e w' => e = .returned (.tuple #[.int .u64 O, .bool C, .bool V]) ∧ Below (w1.alloc o).heap.size (w1.alloc o) w' := by
    intro o
    have hcs : ∀ x ∈ [(p7, Value.func (Fn.func 81) #[] #[]), (p6, .func (.func 80) #[] #[]), (p5, .func (.func 79) #[] #[])], HasCell (w1.alloc o) x.1 x.2 := by
      intro x hx
      obtain ⟨⟨t, ht⟩, _, _⟩ := hbm.2.2.2 x hx
      exact ⟨t, ((heap_alloc w1 o).2 _ (lt_of_block ht)).trans ht⟩
    exact hdone _ p5 p6 p7 (hcs (p5, _) (by simp)) (hcs (p6, _) (by simp)) (hcs (p7, _) (by simp))
  have hdo' := Lib.hid hdo
  have hbl' := Lib.hid hbl
  clear hdo hbm hbl hdone
  go_wp2_with fail
  refine (may_any _ _).mono ?_
  rintro e w' ⟨rfl, rfl⟩
  go_wp2_with fail
  refine (low_any _ _ _ hw h).mono ?_
  rintro e w' ⟨rfl, rfl⟩
  go_wp2_with fail
  refine (low_any _ _ _ hw hb).mono ?_
  rintro e w' ⟨rfl, rfl⟩
  go_wp2_with fail
  refine (hdo'.out _).mono ?_
  rintro e w2 ⟨rfl, hb2⟩
  obtain ⟨hc2, hf2⟩ := bcell hb2
  have hz3 := hb2.size
  have hz4 : w1.heap.size < w2.heap.size := by simp at hz3; omega
  have hb2' := Lib.hid hb2
  clear hb2 hent hlk hnf hdo' hmay
  go_wp2_with fail
  refine (by_any _ _ _ _ _ _ _ _ hp1 hp2 hO).mono ?_
  rintro e w3 ⟨rfl, hb3⟩
  obtain ⟨hc3, hf3⟩ := bcell hb3
  have hz5 := hb3.size
  have hz6 : w1.heap.size < w3.heap.size := by simp at hz5; omega
  have hblk : w3.heap[w.heap.size + 1]? = some (.cells #[.bool false, .bool false, .bool false, .bool false, .bool false] 34 (0, 0)) := by
    rw [hb3.block _ (by simp; omega), Below.heap_setCell _ _ _ _ (by simp; omega), Below.heap_setCell _ _ _ _ (by simp; omega), hb2'.out.block _ (by simp; omega), (heap_alloc w1 _).2 _ (by omega), hbl'.out.block _ (by simp)]
    exact two_blocks w _ _
  have g0 : w3.cell? ⟨w.heap.size + 1, 0, none⟩ = some (.bool false) := by simp [World.cell?, hblk]
  have g1 : w3.cell? ⟨w.heap.size + 1, 1, none⟩ = some (.bool false) := by simp [World.cell?, hblk]
  have g2 : w3.cell? ⟨w.heap.size + 1, 2, none⟩ = some (.bool false) := by simp [World.cell?, hblk]
  have g3 : w3.cell? ⟨w.heap.size + 1, 3, none⟩ = some (.bool false) := by simp [World.cell?, hblk]
  have g4 : w3.cell? ⟨w.heap.size + 1, 4, none⟩ = some (.bool false) := by simp [World.cell?, hblk]
  have f0 : ∀ k, w3.frozen? ⟨w.heap.size + 1, k, none⟩ = false := fun k => by simp [World.frozen?, hblk]
  have hfin : Below w.heap.size w w3 := by
    refine Below.trans ?_ (hb3.mono (by simp; omega))
    refine Below.setCell (Below.setCell ?_ (by simp; omega) _) (by simp; omega) _
    refine Below.trans ?_ (hb2'.out.mono (by simp; omega))
    refine Below.alloc (Below.trans ?_ (hbl'.out.mono (by simp; omega))) (by omega) _
    exact ((Below.refl _ _).alloc (Nat.le_refl _) _).alloc (by simp) _
  have hfin' := Lib.hid hfin
  clear hb3 hblk hc1 hf1 hc2 hf2 hc3 hf3 hfin hb2' hbl' hz1 hz3 hz5
  go_wp2_with fail
  refine bodyPost_ret (v := .tuple #[.int .u64 O, .agg #[.bool C, .bool (O == 0), .bool (topB wd O), .bool V, .bool (parB O)], .int .i64 0]) (by simp [results, Try.results18, go_sem, g0, g1, g2, g3, g4]) rfl ⟨rfl, ?_⟩
  exact ((((hfin'.out.setCell (by simp) _).setCell (by simp) _).setCell (by simp) _).setCell (by simp) _).setCell (by simp) _

set_option maxHeartbeats 1000000 in
theorem Do_d (op wd a b : Int) (z s o p : Bool) (w : World) (hw : MayW wd) (h : U64 a) (hb : U64 b) (f : Nat) (caps : Nat → Nat → Nat → Array Value) (O : Int) (C V : Bool) (h2 : (op == 2) = false) (h4 : (op == 4) = false)
    (hfound : FoundSaid op f caps) (hdone : DoneSaid wd (lowI wd a) (lowI wd b) 0 f caps O C V) (hO : U64 O) (hent : ∀ (args : Array Value) (w2 : World), (callFunc f args).run Try.prog w2 = .ok (.enter f args) w2) :
    Calls Try.prog 18 #[.int .i64 op, .int .i64 wd, .int .u64 a, .int .u64 b, .agg #[.bool true, .bool z, .bool s, .bool o, .bool p]] w (DoPost wd O C V w) := by
  have hmay := mayB_of hw
  have hp1 : 1 ≤ wd := by rcases hw with rfl | rfl | rfl | rfl <;> omega
  have hp2 : wd ≤ 64 := by rcases hw with rfl | rfl | rfl | rfl <;> omega
  go_enter Try.func18, Try.ntmps18
  go_wp2_with fail
  refine (bins_any _).mono ?_
  rintro e w1 ⟨bm, p5, p6, p7, rfl, hbm⟩
  have hnf := run_func_nil
  obtain ⟨i, hfi⟩ := hfound p5 p6 p7
  have hlk := run_lookup_lit Try.underlying72 Try.underlying37 hbm.1 op _ i hfi
  clear hfi
  have hbl := hbm.2.1
  obtain ⟨hc1, hf1⟩ := bcell hbl
  have hz1 := hbl.size
  have hz2 : w.heap.size + 1 < w1.heap.size := by simp at hz1; omega
  have hdo : ∀ o, Calls Try.prog f (#[.int .i64 wd, .int .u64 (lowI wd a), .int .u64 (lowI wd b), .int .u64 0] ++ caps p5 p6 p7) (w1.alloc o) fun e w' => e = .returned (.tuple #[.int .u64 O, .bool C, .bool V]) ∧ Below (w1.alloc o).heap.size (w1.alloc o) w' := by
    intro o
    have hcs : ∀ x ∈ [(p7, Value.func (Fn.func 81) #[] #[]), (p6, .func (.func 80) #[] #[]), (p5, .func (.func 79) #[] #[])], HasCell (w1.alloc o) x.1 x.2 := by
      intro x hx
      obtain ⟨⟨t, ht⟩, _, _⟩ := hbm.2.2.2 x hx
      exact ⟨t, ((heap_alloc w1 o).2 _ (lt_of_block ht)).trans ht⟩
    exact hdone _ p5 p6 p7 (hcs (p5, _) (by simp)) (hcs (p6, _) (by simp)) (hcs (p7, _) (by simp))
  have hdo' := Lib.hid hdo
  have hbl' := Lib.hid hbl
  clear hdo hbm hbl hdone
  go_wp2_with fail
  refine (may_any _ _).mono ?_
  rintro e w' ⟨rfl, rfl⟩
  go_wp2_with fail
  refine (low_any _ _ _ hw h).mono ?_
  rintro e w' ⟨rfl, rfl⟩
  go_wp2_with fail
  refine (low_any _ _ _ hw hb).mono ?_
  rintro e w' ⟨rfl, rfl⟩
  go_wp2_with fail
  refine (hdo'.out _).mono ?_
  rintro e w2 ⟨rfl, hb2⟩
  obtain ⟨hc2, hf2⟩ := bcell hb2
  have hz3 := hb2.size
  have hz4 : w1.heap.size < w2.heap.size := by simp at hz3; omega
  have hb2' := Lib.hid hb2
  clear hb2 hent hlk hnf hdo' hmay
  go_wp2_with fail
  refine (by_any _ _ _ _ _ _ _ _ hp1 hp2 hO).mono ?_
  rintro e w3 ⟨rfl, hb3⟩
  obtain ⟨hc3, hf3⟩ := bcell hb3
  have hz5 := hb3.size
  have hz6 : w1.heap.size < w3.heap.size := by simp at hz5; omega
  have hblk : w3.heap[w.heap.size + 1]? = some (.cells #[.bool false, .bool false, .bool false, .bool false, .bool false] 34 (0, 0)) := by
    rw [hb3.block _ (by simp; omega), Below.heap_setCell _ _ _ _ (by simp; omega), Below.heap_setCell _ _ _ _ (by simp; omega), hb2'.out.block _ (by simp; omega), (heap_alloc w1 _).2 _ (by omega), hbl'.out.block _ (by simp)]
    exact two_blocks w _ _
  have g0 : w3.cell? ⟨w.heap.size + 1, 0, none⟩ = some (.bool false) := by simp [World.cell?, hblk]
  have g1 : w3.cell? ⟨w.heap.size + 1, 1, none⟩ = some (.bool false) := by simp [World.cell?, hblk]
  have g2 : w3.cell? ⟨w.heap.size + 1, 2, none⟩ = some (.bool false) := by simp [World.cell?, hblk]
  have g3 : w3.cell? ⟨w.heap.size + 1, 3, none⟩ = some (.bool false) := by simp [World.cell?, hblk]
  have g4 : w3.cell? ⟨w.heap.size + 1, 4, none⟩ = some (.bool false) := by simp [World.cell?, hblk]
  have f0 : ∀ k, w3.frozen? ⟨w.heap.size + 1, k, none⟩ = false := fun k => by simp [World.frozen?, hblk]
  have hfin : Below w.heap.size w w3 := by
    refine Below.trans ?_ (hb3.mono (by simp; omega))
    refine Below.setCell (Below.setCell ?_ (by simp; omega) _) (by simp; omega) _
    refine Below.trans ?_ (hb2'.out.mono (by simp; omega))
    refine Below.alloc (Below.trans ?_ (hbl'.out.mono (by simp; omega))) (by omega) _
    exact ((Below.refl _ _).alloc (Nat.le_refl _) _).alloc (by simp) _
  have hfin' := Lib.hid hfin
  clear hb3 hblk hc1 hf1 hc2 hf2 hc3 hf3 hfin hb2' hbl' hz1 hz3 hz5
  go_wp2_with fail
  refine bodyPost_ret (v := .tuple #[.int .u64 O, .agg #[.bool C, .bool (O == 0), .bool (topB wd O), .bool V, .bool (parB O)], .int .i64 0]) (by simp [results, Try.results18, go_sem, g0, g1, g2, g3, g4]) rfl ⟨rfl, ?_⟩
  exact ((((hfin'.out.setCell (by simp) _).setCell (by simp) _).setCell (by simp) _).setCell (by simp) _).setCell (by simp) _

set_option maxHeartbeats 400000 in
theorem and_any (a b : Int) (w : World) : Calls Try.prog 79 #[.int .u64 a, .int .u64 b] w fun e w' => e = .returned (.int .u64 (bits .and .u64 a b)) ∧ w = w' := by
  go_enter Try.func79, Try.ntmps79
  go_wp2
  go_ret
  exact ⟨rfl, rfl⟩
set_option maxHeartbeats 400000 in
theorem or_any (a b : Int) (w : World) : Calls Try.prog 80 #[.int .u64 a, .int .u64 b] w fun e w' => e = .returned (.int .u64 (bits .or .u64 a b)) ∧ w = w' := by
  go_enter Try.func80, Try.ntmps80
  go_wp2
  go_ret
  exact ⟨rfl, rfl⟩
set_option maxHeartbeats 400000 in
theorem xor_any (a b : Int) (w : World) : Calls Try.prog 81 #[.int .u64 a, .int .u64 b] w fun e w' => e = .returned (.int .u64 (bits .xor .u64 a b)) ∧ w = w' := by
  go_enter Try.func81, Try.ntmps81
  go_wp2
  go_ret
  exact ⟨rfl, rfl⟩

set_option maxHeartbeats 400000 in
theorem plain_and (wd a b c : Int) (p : Nat) (w : World) (hp : HasCell w p (.func (.func 79) #[] #[])) : Calls Try.prog 75 #[.int .i64 wd, .int .u64 a, .int .u64 b, .int .u64 c, .pointer (some ⟨p, 0, none⟩)] w fun e w' => e = .returned (.tuple #[.int .u64 (bits .and .u64 a b), .bool false, .bool false]) ∧ w = w' := by
  obtain ⟨t, ht⟩ := hp
  have hc := cell_of_one ht
  clear ht
  go_enter Try.func75, Try.ntmps75
  go_wp2_with fail
  refine (and_any _ _ _).mono ?_
  rintro e w' ⟨rfl, rfl⟩
  go_wp2_with fail
  go_ret3
  exact ⟨rfl, rfl⟩

set_option maxHeartbeats 400000 in
theorem plain_or (wd a b c : Int) (p : Nat) (w : World) (hp : HasCell w p (.func (.func 80) #[] #[])) : Calls Try.prog 75 #[.int .i64 wd, .int .u64 a, .int .u64 b, .int .u64 c, .pointer (some ⟨p, 0, none⟩)] w fun e w' => e = .returned (.tuple #[.int .u64 (bits .or .u64 a b), .bool false, .bool false]) ∧ w = w' := by
  obtain ⟨t, ht⟩ := hp
  have hc := cell_of_one ht
  clear ht
  go_enter Try.func75, Try.ntmps75
  go_wp2_with fail
  refine (or_any _ _ _).mono ?_
  rintro e w' ⟨rfl, rfl⟩
  go_wp2_with fail
  go_ret3
  exact ⟨rfl, rfl⟩

set_option maxHeartbeats 400000 in
theorem plain_xor (wd a b c : Int) (p : Nat) (w : World) (hp : HasCell w p (.func (.func 81) #[] #[])) : Calls Try.prog 75 #[.int .i64 wd, .int .u64 a, .int .u64 b, .int .u64 c, .pointer (some ⟨p, 0, none⟩)] w fun e w' => e = .returned (.tuple #[.int .u64 (bits .xor .u64 a b), .bool false, .bool false]) ∧ w = w' := by
  obtain ⟨t, ht⟩ := hp
  have hc := cell_of_one ht
  clear ht
  go_enter Try.func75, Try.ntmps75
  go_wp2_with fail
  refine (xor_any _ _ _).mono ?_
  rintro e w' ⟨rfl, rfl⟩
  go_wp2_with fail
  go_ret3
  exact ⟨rfl, rfl⟩

theorem bits_and_u {a b : Int} (h : U64 a) (k : U64 b) : U64 (bits .and .u64 a b) := by
  obtain ⟨h0, h1⟩ := h; obtain ⟨k0, k1⟩ := k
  rw [u64_and a b h0 h1 k0 k1]
  have := Nat.and_lt_two_pow a.toNat (y := b.toNat) (n := 64) (by omega)
  exact ⟨by omega, by omega⟩
theorem bits_or_u {a b : Int} (h : U64 a) (k : U64 b) : U64 (bits .or .u64 a b) := by
  obtain ⟨h0, h1⟩ := h; obtain ⟨k0, k1⟩ := k
  rw [u64_or a b h0 h1 k0 k1]
  have := Nat.or_lt_two_pow (x := a.toNat) (y := b.toNat) (n := 64) (by omega) (by omega)
  exact ⟨by omega, by omega⟩
theorem bits_xor_u {a b : Int} (h : U64 a) (k : U64 b) : U64 (bits .xor .u64 a b) := by
  obtain ⟨h0, h1⟩ := h; obtain ⟨k0, k1⟩ := k
  rw [u64_xor a b h0 h1 k0 k1]
  have := Nat.xor_lt_two_pow (x := a.toNat) (y := b.toNat) (n := 64) (by omega) (by omega)
  exact ⟨by omega, by omega⟩

def b2i (c : Bool) : Int := if c then 1 else 0
/-- what Do answers: the word, C and O -/
def doO (op wd a b : Int) (c : Bool) : Int :=
  if op = 1 then sumO wd (lowI wd a) (lowI wd b) 0 else if op = 2 then sumO wd (lowI wd a) (lowI wd b) (b2i c) else if op = 3 then subO wd (lowI wd a) (lowI wd b) 0 else if op = 4 then subO wd (lowI wd a) (lowI wd b) (b2i c)
  else if op = 5 then bits .and .u64 (lowI wd a) (lowI wd b) else if op = 6 then bits .or .u64 (lowI wd a) (lowI wd b) else if op = 7 then bits .xor .u64 (lowI wd a) (lowI wd b) else mulO wd (lowI wd a) (lowI wd b)
def doC (op wd a b : Int) (c : Bool) : Bool :=
  if op = 1 then sumC wd (lowI wd a) (lowI wd b) 0 else if op = 2 then sumC wd (lowI wd a) (lowI wd b) (b2i c) else if op = 3 then subC (lowI wd a) (lowI wd b) 0 else if op = 4 then subC (lowI wd a) (lowI wd b) (b2i c)
  else if op = 8 then mulC wd (lowI wd a) (lowI wd b) else false
def doV (op wd a b : Int) (c : Bool) : Bool :=
  if op = 1 then sumV wd (lowI wd a) (lowI wd b) 0 else if op = 2 then sumV wd (lowI wd a) (lowI wd b) (b2i c) else if op = 3 then subV wd (lowI wd a) (lowI wd b) 0 else if op = 4 then subV wd (lowI wd a) (lowI wd b) (b2i c)
  else if op = 8 then mulC wd (lowI wd a) (lowI wd b) else false

theorem below_of_eq {w w' : World} (h : w = w') : Below w.heap.size w w' := h ▸ Below.refl _ _
theorem done_sums {wd a b cr : Int} (hw : MayW wd) (hc : cr = 0 ∨ cr = 1) : DoneSaid wd (lowI wd a) (lowI wd b) cr 76 (fun _ _ _ => #[]) (sumO wd (lowI wd a) (lowI wd b) cr) (sumC wd (lowI wd a) (lowI wd b) cr) (sumV wd (lowI wd a) (lowI wd b) cr) :=
  fun w2 _ _ _ _ _ _ => (sums_any wd _ _ cr w2 hw (low_lt hw) (low_lt hw) hc (low_bd wd a).2 (low_bd wd b).2).mono fun _ _ ⟨he, n, hn⟩ => ⟨he, hn ▸ below_drewN (Below.refl _ _) n⟩
theorem done_less {wd a b cr : Int} (hw : MayW wd) (hc : cr = 0 ∨ cr = 1) : DoneSaid wd (lowI wd a) (lowI wd b) cr 77 (fun _ _ _ => #[]) (subO wd (lowI wd a) (lowI wd b) cr) (subC (lowI wd a) (lowI wd b) cr) (subV wd (lowI wd a) (lowI wd b) cr) :=
  fun w2 _ _ _ _ _ _ => (less_any wd _ _ cr w2 hw (low_lt hw) (low_lt hw) hc).mono fun _ _ ⟨he, hn⟩ => ⟨he, below_of_eq hn⟩
theorem done_times {wd a b cr : Int} (hw : MayW wd) : DoneSaid wd (lowI wd a) (lowI wd b) cr 78 (fun _ _ _ => #[]) (mulO wd (lowI wd a) (lowI wd b)) (mulC wd (lowI wd a) (lowI wd b)) (mulC wd (lowI wd a) (lowI wd b)) :=
  fun w2 _ _ _ _ _ _ => (times_any wd _ _ cr w2 hw (low_lt hw) (low_lt hw)).mono fun _ _ ⟨he, hn⟩ => ⟨he, below_of_eq hn⟩
theorem done_and {wd A B cr : Int} : DoneSaid wd A B cr 75 (fun p5 _ _ => #[.pointer (some ⟨p5, 0, none⟩)]) (bits .and .u64 A B) false false :=
  fun w2 p5 _ _ h5 _ _ => (plain_and wd A B cr p5 w2 h5).mono fun _ _ ⟨he, hn⟩ => ⟨he, below_of_eq hn⟩
theorem done_or {wd A B cr : Int} : DoneSaid wd A B cr 75 (fun _ p6 _ => #[.pointer (some ⟨p6, 0, none⟩)]) (bits .or .u64 A B) false false :=
  fun w2 _ p6 _ _ h6 _ => (plain_or wd A B cr p6 w2 h6).mono fun _ _ ⟨he, hn⟩ => ⟨he, below_of_eq hn⟩
theorem done_xor {wd A B cr : Int} : DoneSaid wd A B cr 75 (fun _ _ p7 => #[.pointer (some ⟨p7, 0, none⟩)]) (bits .xor .u64 A B) false false :=
  fun w2 _ _ p7 _ _ h7 => (plain_xor wd A B cr p7 w2 h7).mono fun _ _ ⟨he, hn⟩ => ⟨he, below_of_eq hn⟩

theorem ent76 (args : Array Value) (w2 : World) : (callFunc 76 args).run Try.prog w2 = .ok (.enter 76 args) w2 := by kernel_rfl
theorem ent77 (args : Array Value) (w2 : World) : (callFunc 77 args).run Try.prog w2 = .ok (.enter 77 args) w2 := by kernel_rfl
theorem ent78 (args : Array Value) (w2 : World) : (callFunc 78 args).run Try.prog w2 = .ok (.enter 78 args) w2 := by kernel_rfl
theorem ent75 (args : Array Value) (w2 : World) : (callFunc 75 args).run Try.prog w2 = .ok (.enter 75 args) w2 := by kernel_rfl

theorem Do_any (op wd a b : Int) (c z s o p : Bool) (w : World) (hw : MayW wd) (h : U64 a) (hb : U64 b) (hop : 1 ≤ op ∧ op ≤ 8) :
    Calls Try.prog 18 #[.int .i64 op, .int .i64 wd, .int .u64 a, .int .u64 b, .agg #[.bool c, .bool z, .bool s, .bool o, .bool p]] w (DoPost wd (doO op wd a b c) (doC op wd a b c) (doV op wd a b c) w) := by
  have hA : U64 (lowI wd a) := low_lt hw
  have hB : U64 (lowI wd b) := low_lt hw
  have : op = 1 ∨ op = 2 ∨ op = 3 ∨ op = 4 ∨ op = 5 ∨ op = 6 ∨ op = 7 ∨ op = 8 := by omega
  rcases this with rfl | rfl | rfl | rfl | rfl | rfl | rfl | rfl <;> cases c
  · exact Do_a 1 wd a b z s o p w hw h hb 76 (fun _ _ _ => #[]) _ _ _ (fun _ _ _ => ⟨0, rfl⟩) (done_sums hw (.inl rfl)) (sumO_u hw _ _ _) ent76
  · exact Do_d 1 wd a b z s o p w hw h hb 76 (fun _ _ _ => #[]) _ _ _ rfl rfl (fun _ _ _ => ⟨0, rfl⟩) (done_sums hw (.inl rfl)) (sumO_u hw _ _ _) ent76
  · exact Do_a 2 wd a b z s o p w hw h hb 76 (fun _ _ _ => #[]) _ _ _ (fun _ _ _ => ⟨1, rfl⟩) (done_sums hw (.inl rfl)) (sumO_u hw _ _ _) ent76
  · exact Do_b 2 wd a b z s o p w hw h hb 76 (fun _ _ _ => #[]) _ _ _ rfl (fun _ _ _ => ⟨1, rfl⟩) (done_sums hw (.inr rfl)) (sumO_u hw _ _ _) ent76
  · exact Do_a 3 wd a b z s o p w hw h hb 77 (fun _ _ _ => #[]) _ _ _ (fun _ _ _ => ⟨2, rfl⟩) (done_less hw (.inl rfl)) (subO_u hw _ _ _) ent77
  · exact Do_d 3 wd a b z s o p w hw h hb 77 (fun _ _ _ => #[]) _ _ _ rfl rfl (fun _ _ _ => ⟨2, rfl⟩) (done_less hw (.inl rfl)) (subO_u hw _ _ _) ent77
  · exact Do_a 4 wd a b z s o p w hw h hb 77 (fun _ _ _ => #[]) _ _ _ (fun _ _ _ => ⟨3, rfl⟩) (done_less hw (.inl rfl)) (subO_u hw _ _ _) ent77
  · exact Do_c 4 wd a b z s o p w hw h hb 77 (fun _ _ _ => #[]) _ _ _ rfl rfl (fun _ _ _ => ⟨3, rfl⟩) (done_less hw (.inr rfl)) (subO_u hw _ _ _) ent77
  · exact Do_a 5 wd a b z s o p w hw h hb 75 (fun p5 _ _ => #[.pointer (some ⟨p5, 0, none⟩)]) _ _ _ (fun _ _ _ => ⟨5, rfl⟩) done_and (bits_and_u hA hB) ent75
  · exact Do_d 5 wd a b z s o p w hw h hb 75 (fun p5 _ _ => #[.pointer (some ⟨p5, 0, none⟩)]) _ _ _ rfl rfl (fun _ _ _ => ⟨5, rfl⟩) done_and (bits_and_u hA hB) ent75
  · exact Do_a 6 wd a b z s o p w hw h hb 75 (fun _ p6 _ => #[.pointer (some ⟨p6, 0, none⟩)]) _ _ _ (fun _ _ _ => ⟨6, rfl⟩) done_or (bits_or_u hA hB) ent75
  · exact Do_d 6 wd a b z s o p w hw h hb 75 (fun _ p6 _ => #[.pointer (some ⟨p6, 0, none⟩)]) _ _ _ rfl rfl (fun _ _ _ => ⟨6, rfl⟩) done_or (bits_or_u hA hB) ent75
  · exact Do_a 7 wd a b z s o p w hw h hb 75 (fun _ _ p7 => #[.pointer (some ⟨p7, 0, none⟩)]) _ _ _ (fun _ _ _ => ⟨7, rfl⟩) done_xor (bits_xor_u hA hB) ent75
  · exact Do_d 7 wd a b z s o p w hw h hb 75 (fun _ _ p7 => #[.pointer (some ⟨p7, 0, none⟩)]) _ _ _ rfl rfl (fun _ _ _ => ⟨7, rfl⟩) done_xor (bits_xor_u hA hB) ent75
  · exact Do_a 8 wd a b z s o p w hw h hb 78 (fun _ _ _ => #[]) _ _ _ (fun _ _ _ => ⟨4, rfl⟩) (done_times hw) (mulO_u hw _ _) ent78
  · exact Do_d 8 wd a b z s o p w hw h hb 78 (fun _ _ _ => #[]) _ _ _ rfl rfl (fun _ _ _ => ⟨4, rfl⟩) (done_times hw) (mulO_u hw _ _) ent78

end Go.Proofs.Ytkfenljldmbmcaa
