/- Tokens compared, whole. -/
import Derived.Test.YtmkfoknhjjgipaaGreatDoorAB
import Derived.Test.YtmkfoknhjjgipaaGreatDoorT
set_option linter.unusedSimpArgs false
set_option linter.unusedVariables false
namespace Go.Proofs.YtmkfoknhjjgipaaGreatDoor
open Go.RowKit Go.Lib Go.Shelf

theorem tok_neq_self (k l c : Int) (u : Int) (t : ByteArray) (W : World) : (binOp .neq 48 (.agg #[.int .i64 k, .string t, .int .u64 u, .int .i64 l, .int .i64 c]) (.agg #[.int .i64 k, .string t, .int .u64 u, .int .i64 l, .int .i64 c])).run Tryz.prog W = .ok (.bool false) W := by
  simp [go_sem]
theorem flt_neq_self (k l c : Int) (W : World) : (binOp .neq 33 (.agg #[.int .i64 k, .int .i64 l, .int .i64 c]) (.agg #[.int .i64 k, .int .i64 l, .int .i64 c])).run Tryz.prog W = .ok (.bool false) W := by
  simp [go_sem]
set_option maxRecDepth 100000 in
set_option maxHeartbeats 2000000 in
theorem sameTokens_self (A A' : Option Addr) (n c c' : Nat) (L : List Ta) (w : World) (hL : L.length = n) (ha : TaAt w A L) (hb : TaAt w A' L) (hn : n ≤ 4000000) :
    Calls Tryz.prog 18 #[.slice A n c, .slice A' n c'] w (OkPost w) := by
  have hL' := Lib.hid hL
  have ha' := Lib.hid ha
  have hb' := Lib.hid hb
  have hd : ((n : Int) != (n : Int)) = false := by simp
  clear hL ha hb
  go_enter Tryz.func18, Tryz.ntmps18
  go_wp2_with fail
  go_loopg [5] n (fun g s4 wr => ∃ k : Nat, k + g = n ∧ s4 = .int .i64 k ∧ Below w.heap.size w wr)
  case atStart => exact ⟨0, by omega, rfl, Below.refl _ _⟩
  case round =>
    obtain ⟨k, hkg, rfl, hb⟩ := hrel
    have hbr := Lib.hid hb
    clear hb
    cases gk with
    | zero =>
      have e0 : ¬ ((k : Int) < (n : Int)) := by omega
      go_wp2
      go_ret
      exact ⟨rfl, hbr.out⟩
    | succ g =>
      have e1 : (k : Int) < (n : Int) := by omega
      obtain ⟨b1, o1, x, rfl, hx, x1, x2, x3, x4, x5⟩ := (ha'.out.below hbr.out).at_ (k := k) (by rw [hL'.out]; omega)
      obtain ⟨b2, o2, y, rfl, hy, y1, y2, y3, y4, y5⟩ := (hb'.out.below hbr.out).at_ (k := k) (by rw [hL'.out]; omega)
      obtain rfl : x = y := by rw [hx] at hy; exact Option.some.inj hy
      obtain ⟨xk, xt, xu, xl, xc⟩ := x
      dsimp only at x1 x2 x3 x4 x5 y1 y2 y3 y4 y5
      have hnq := tok_neq_self xk xl xc xu xt
      clear hx hy
      go_wp2
      go_quiet (fail)
      go_wp2
      go_roundg g
      case measure => omega
      case rel => exact ⟨k + 1, by omega, by go_num, below_drewN hbr.out _⟩
end Go.Proofs.YtmkfoknhjjgipaaGreatDoor
