/- Askings: May, a kind's line. -/
import Derived.Test.YtkbmckmlnphpmaaGreatDoorR
set_option linter.unusedSimpArgs false
set_option linter.unusedVariables false
namespace Go.Proofs.YtkbmckmlnphpmaaGreatDoor
open Go.RowKit Go.Lib Go.Shelf

def mayV (k : Int) (n1 n2 : Nat) (st fu : Int) (sb : Bool) : Bool := decide (1 ≤ k) && decide (k ≤ 3) && (decide (k ≠ 1) || decide (st = 0)) && decide (n1 ≤ 64) && decide (n2 ≤ 16) && decide (0 ≤ fu) && decide (fu ≤ 1000000) && sb

set_option maxRecDepth 100000 in
set_option maxHeartbeats 4000000 in
theorem may_any (k : Int) (A1 A2 : Option Addr) (n1 c1 n2 c2 : Nat) (W : List (List Int)) (st fu : Int) (w : World) (hW : W.length = n2) (hA : WsAt w A2 W) (hn : n2 ≤ 4000000) (hn1 : n1 ≤ 4000000) :
    Calls Tryz.prog 34 #[.agg #[.int .i64 k, .slice A1 n1 c1, .slice A2 n2 c2, .int .u64 st, .int .i64 fu]] w (BoolPost (mayV k n1 n2 st fu (shortB W)) w) := by
  have hb0 := Lib.hid ((Below.refl w.heap.size w).alloc (Nat.le_refl _) (.cells #[.int .i64 k, .slice A1 n1 c1, .slice A2 n2 c2, .int .u64 st, .int .i64 fu] 42))
  have hk := Lib.hid (all512_any A2 n2 c2 W (w.alloc (.cells #[.int .i64 k, .slice A1 n1 c1, .slice A2 n2 c2, .int .u64 st, .int .i64 fu] 42)) hW (hA.below hb0.out) hn)
  clear hW hA
  generalize shortB W = sb at hk ⊢
  have hmay : ∀ b, mayV k n1 n2 st fu sb = b → Calls Tryz.prog 34 #[.agg #[.int .i64 k, .slice A1 n1 c1, .slice A2 n2 c2, .int .u64 st, .int .i64 fu]] w (BoolPost b w) → Calls Tryz.prog 34 #[.agg #[.int .i64 k, .slice A1 n1 c1, .slice A2 n2 c2, .int .u64 st, .int .i64 fu]] w (BoolPost (mayV k n1 n2 st fu sb) w) := fun b h hc => by rw [h]; exact hc
  by_cases k1 : 1 ≤ k
  · by_cases k2 : k ≤ 3
    · by_cases k3 : k = 1
      · subst k3
        by_cases k4 : st = 0
        · subst k4
          by_cases i1 : (n1 : Int) ≤ 64
          · by_cases i2 : (n2 : Int) ≤ 16
            · by_cases f1 : 0 ≤ fu
              · by_cases f2 : fu ≤ 1000000
                · refine hmay sb (by have j1 : n1 ≤ 64 := by omega
                                     have j2 : n2 ≤ 16 := by omega
                                     simp [mayV, j1, j2, f1, f2]) ?_
                  clear hmay
                  go_enter Tryz.func34, Tryz.ntmps34
                  go_wp2_with fail
                  refine hk.out.mono ?_
                  rintro e w1 ⟨rfl, hb1⟩
                  have hb2 := Lib.hid (hb0.out.trans (hb1.mono hb0.out.size))
                  clear hb1
                  cases sb
                  · go_wp2
                    go_ret
                    exact ⟨rfl, hb2.out⟩
                  · go_wp2
                    go_ret
                    exact ⟨rfl, hb2.out⟩
                · refine hmay false (by simp [mayV, f2]) ?_
                  clear hmay hk
                  go_enter Tryz.func34, Tryz.ntmps34
                  go_wp2
                  go_ret
                  exact ⟨rfl, hb0.out⟩
              · refine hmay false (by simp [mayV, f1]) ?_
                clear hmay hk
                go_enter Tryz.func34, Tryz.ntmps34
                go_wp2
                go_ret
                exact ⟨rfl, hb0.out⟩
            · refine hmay false (by have j2 : ¬ n2 ≤ 16 := by omega
                                    simp [mayV, j2]) ?_
              clear hmay hk
              go_enter Tryz.func34, Tryz.ntmps34
              go_wp2
              go_ret
              exact ⟨rfl, hb0.out⟩
          · refine hmay false (by have j1 : ¬ n1 ≤ 64 := by omega
                                  simp [mayV, j1]) ?_
            clear hmay hk
            go_enter Tryz.func34, Tryz.ntmps34
            go_wp2
            go_ret
            exact ⟨rfl, hb0.out⟩
        · refine hmay false (by simp [mayV, k4]) ?_
          clear hmay hk
          by_cases i1 : (n1 : Int) ≤ 64
          · go_enter Tryz.func34, Tryz.ntmps34
            go_wp2
            go_ret
            exact ⟨rfl, hb0.out⟩
          · go_enter Tryz.func34, Tryz.ntmps34
            go_wp2
            go_ret
            exact ⟨rfl, hb0.out⟩
      · by_cases i1 : (n1 : Int) ≤ 64
        · by_cases i2 : (n2 : Int) ≤ 16
          · by_cases f1 : 0 ≤ fu
            · by_cases f2 : fu ≤ 1000000
              · refine hmay sb (by have j1 : n1 ≤ 64 := by omega
                                   have j2 : n2 ≤ 16 := by omega
                                   simp [mayV, k1, k2, k3, j1, j2, f1, f2]) ?_
                clear hmay
                go_enter Tryz.func34, Tryz.ntmps34
                go_wp2_with fail
                refine hk.out.mono ?_
                rintro e w1 ⟨rfl, hb1⟩
                have hb2 := Lib.hid (hb0.out.trans (hb1.mono hb0.out.size))
                clear hb1
                cases sb
                · go_wp2
                  go_ret
                  exact ⟨rfl, hb2.out⟩
                · go_wp2
                  go_ret
                  exact ⟨rfl, hb2.out⟩
              · refine hmay false (by simp [mayV, f2]) ?_
                clear hmay hk
                go_enter Tryz.func34, Tryz.ntmps34
                go_wp2
                go_ret
                exact ⟨rfl, hb0.out⟩
            · refine hmay false (by simp [mayV, f1]) ?_
              clear hmay hk
              go_enter Tryz.func34, Tryz.ntmps34
              go_wp2
              go_ret
              exact ⟨rfl, hb0.out⟩
          · refine hmay false (by have j2 : ¬ n2 ≤ 16 := by omega
                                  simp [mayV, j2]) ?_
            clear hmay hk
            go_enter Tryz.func34, Tryz.ntmps34
            go_wp2
            go_ret
            exact ⟨rfl, hb0.out⟩
        · refine hmay false (by have j1 : ¬ n1 ≤ 64 := by omega
                                simp [mayV, j1]) ?_
          clear hmay hk
          go_enter Tryz.func34, Tryz.ntmps34
          go_wp2
          go_ret
          exact ⟨rfl, hb0.out⟩
    · refine hmay false (by simp [mayV, k2]) ?_
      clear hmay hk
      by_cases i1 : (n1 : Int) ≤ 64
      · go_enter Tryz.func34, Tryz.ntmps34
        go_wp2
        go_ret
        exact ⟨rfl, hb0.out⟩
      · go_enter Tryz.func34, Tryz.ntmps34
        go_wp2
        go_ret
        exact ⟨rfl, hb0.out⟩
  · refine hmay false (by simp [mayV, k1]) ?_
    clear hmay hk
    by_cases i1 : (n1 : Int) ≤ 64
    · go_enter Tryz.func34, Tryz.ntmps34
      go_wp2
      go_ret
      exact ⟨rfl, hb0.out⟩
    · go_enter Tryz.func34, Tryz.ntmps34
      go_wp2
      go_ret
      exact ⟨rfl, hb0.out⟩
end Go.Proofs.YtkbmckmlnphpmaaGreatDoor
