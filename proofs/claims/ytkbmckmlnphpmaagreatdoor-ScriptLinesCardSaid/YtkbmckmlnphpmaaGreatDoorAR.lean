/- Askings compared: the reference's Same. -/
import Derived.Test.YtkbmckmlnphpmaaGreatDoorAO
set_option linter.unusedSimpArgs false
set_option linter.unusedVariables false
namespace Go.Proofs.YtkbmckmlnphpmaaGreatDoor
open Go.RowKit Go.Lib Go.Shelf

def askVal (a : Ask) (A1 : Option Addr) (c1 : Nat) (A2 : Option Addr) (c2 : Nat) : Value := .agg #[.int .i64 a.k, .slice A1 a.args.length c1, .slice A2 a.regs.length c2, .int .u64 a.st, .int .i64 a.fu]
theorem below_two (w : World) (o o' : Obj) : Below w.heap.size w ((w.alloc o).alloc o') := ((Below.refl w.heap.size w).alloc (Nat.le_refl _) o).alloc (by simp) o'

set_option maxRecDepth 100000 in
set_option maxHeartbeats 4000000 in
theorem refSame_walk (k k' st st' fu fu' : Int) (A1 A2 B1 B2 : Option Addr) (n1 c1 n2 c2 m1 d1 m2 d2 : Nat) (t1 t2 : Bool) (w : World)
    (h1 : ∀ W, Below w.heap.size w W → Calls Tryz.prog 20 #[.slice A1 n1 c1, .slice B1 m1 d1] W (BoolPost t1 W))
    (h2 : ∀ W, Below w.heap.size w W → Calls Tryz.prog 56 #[.slice A2 n2 c2, .slice B2 m2 d2] W (BoolPost t2 W)) :
    Calls Tryz.prog 23 #[.agg #[.int .i64 k, .slice A1 n1 c1, .slice A2 n2 c2, .int .u64 st, .int .i64 fu], .agg #[.int .i64 k', .slice B1 m1 d1, .slice B2 m2 d2, .int .u64 st', .int .i64 fu']] w
      (BoolPost (decide (k = k' ∧ st = st' ∧ fu = fu') && (t1 && t2)) w) := by
  have hb0 := Lib.hid (below_two w (.cells #[.int .i64 k, .slice A1 n1 c1, .slice A2 n2 c2, .int .u64 st, .int .i64 fu] 42) (.cells #[.int .i64 k', .slice B1 m1 d1, .slice B2 m2 d2, .int .u64 st', .int .i64 fu'] 42))
  have q1 := Lib.hid (h1 _ hb0.out)
  have q2 := Lib.hid h2
  clear h1 h2
  by_cases e1 : k = k'
  · subst e1
    by_cases e2 : st = st'
    · subst e2
      by_cases e3 : fu = fu'
      · subst e3
        have hl := Lib.hid (heap_alloc_old (w.alloc (.cells #[.int .i64 k, .slice A1 n1 c1, .slice A2 n2 c2, .int .u64 st, .int .i64 fu] 42)) (.cells #[.int .i64 k, .slice B1 m1 d1, .slice B2 m2 d2, .int .u64 st, .int .i64 fu] 42) (r := w.heap.size) (by simp))
        have hl2 := Lib.hid (heap_alloc_new w (.cells #[.int .i64 k, .slice A1 n1 c1, .slice A2 n2 c2, .int .u64 st, .int .i64 fu] 42))
        have hl3 := Lib.hid (show ((w.alloc (.cells #[.int .i64 k, .slice A1 n1 c1, .slice A2 n2 c2, .int .u64 st, .int .i64 fu] 42)).alloc (.cells #[.int .i64 k, .slice B1 m1 d1, .slice B2 m2 d2, .int .u64 st, .int .i64 fu] 42)).heap[w.heap.size + 1]? = some (.cells #[.int .i64 k, .slice B1 m1 d1, .slice B2 m2 d2, .int .u64 st, .int .i64 fu] 42 (0, 0)) from by
          have := heap_alloc_new (w.alloc (.cells #[.int .i64 k, .slice A1 n1 c1, .slice A2 n2 c2, .int .u64 st, .int .i64 fu] 42)) (.cells #[.int .i64 k, .slice B1 m1 d1, .slice B2 m2 d2, .int .u64 st, .int .i64 fu] 42)
          simpa using this)
        cases t1
        · go_enter Tryz.func23, Tryz.ntmps23
          go_wp2_with fail
          refine q1.out.mono ?_
          rintro e w1 ⟨rfl, hb1⟩
          have b1 := Lib.hid (hb0.out.trans (hb1.mono hb0.out.size))
          clear hb1
          go_wp2_with fail
          go_ret
          exact ⟨by simp, b1.out⟩
        · go_enter Tryz.func23, Tryz.ntmps23
          go_wp2_with fail
          refine q1.out.mono ?_
          rintro e w1 ⟨rfl, hb1⟩
          have b1 := Lib.hid (hb0.out.trans (hb1.mono hb0.out.size))
          obtain ⟨g0, g1, g2, g3, g4, gf⟩ := box5 (((hb1.block w.heap.size (by simp; omega)).trans hl.out).trans hl2.out)
          obtain ⟨y0, y1, y2, y3, y4, yf⟩ := box5 ((hb1.block (w.heap.size + 1) (by simp)).trans hl3.out)
          clear hb1
          go_wp2_with fail
          refine (q2.out _ b1.out).mono ?_
          rintro e w2 ⟨rfl, hb2⟩
          have b2 := Lib.hid (Below.next b1.out hb2)
          clear hb2
          cases t2
          all_goals
            go_wp2_with fail
            go_ret
            exact ⟨by simp, b2.out⟩
      · have d3 : (fu == fu') = false := by simpa using e3
        have e3' := Lib.hid e3
        clear e3
        go_enter Tryz.func23, Tryz.ntmps23
        go_wp2_with fail
        go_ret
        exact ⟨by simp [e3'.out], hb0.out⟩
    · have d2 : (st == st') = false := by simpa using e2
      have e2' := Lib.hid e2
      clear e2
      go_enter Tryz.func23, Tryz.ntmps23
      go_wp2_with fail
      go_ret
      exact ⟨by simp [e2'.out], hb0.out⟩
  · have d1 : (k == k') = false := by simpa using e1
    have e1' := Lib.hid e1
    clear e1
    go_enter Tryz.func23, Tryz.ntmps23
    go_wp2_with fail
    go_ret
    exact ⟨by simp [e1'.out], hb0.out⟩
def AskOK (w : World) (a : Ask) (A1 A2 : Option Addr) : Prop := WAt w A1 a.args ∧ WsAt w A2 a.regs ∧ a.args.length ≤ 4000000 ∧ a.regs.length ≤ 4000000
theorem AskOK.below {w w' : World} {a : Ask} {A1 A2 : Option Addr} (h : AskOK w a A1 A2) (hb : Below w.heap.size w w') : AskOK w' a A1 A2 := ⟨h.1.below hb, h.2.1.below hb, h.2.2⟩
theorem refSame_any (a b : Ask) (A1 A2 B1 B2 : Option Addr) (c1 c2 d1 d2 : Nat) (w : World) (ha : AskOK w a A1 A2) (hb : AskOK w b B1 B2) :
    Calls Tryz.prog 23 #[askVal a A1 c1 A2 c2, askVal b B1 d1 B2 d2] w (BoolPost (decide (a = b)) w) := by
  have h := refSame_walk a.k b.k a.st b.st a.fu b.fu A1 A2 B1 B2 a.args.length c1 a.regs.length c2 b.args.length d1 b.regs.length d2 (decide (a.args = b.args)) (decide (a.regs = b.regs)) w
    (fun W hW => sameList_any A1 B1 a.args.length c1 b.args.length d1 a.args b.args W rfl rfl (ha.1.below hW) (hb.1.below hW) ha.2.2.1 hb.2.2.1)
    (fun W hW => sameWords_any A2 B2 a.regs.length c2 b.regs.length d2 a.regs b.regs W rfl rfl (ha.2.1.below hW) (hb.2.1.below hW) (by have := ha.2.2.2; omega) (by have := hb.2.2.2; omega))
  have e : (decide (a.k = b.k ∧ a.st = b.st ∧ a.fu = b.fu) && (decide (a.args = b.args) && decide (a.regs = b.regs))) = decide (a = b) := by
    rw [← Bool.decide_and, ← Bool.decide_and]
    apply decide_eq_decide.2
    cases a; cases b
    simp only [Ask.mk.injEq]
    constructor
    · rintro ⟨⟨h1, h2, h3⟩, h4, h5⟩; exact ⟨h1, h4, h5, h2, h3⟩
    · rintro ⟨h1, h4, h5, h2, h3⟩; exact ⟨⟨h1, h2, h3⟩, h4, h5⟩
  rw [e] at h
  exact h
end Go.Proofs.YtkbmckmlnphpmaaGreatDoor
