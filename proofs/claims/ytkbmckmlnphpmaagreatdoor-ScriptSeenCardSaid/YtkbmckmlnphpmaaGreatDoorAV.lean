/- What was seen, compared and told: the reference's SameSeen, MaySeen, Seen. -/
import Derived.Test.YtkbmckmlnphpmaaGreatDoorAU
import Derived.BigQuiet
import Derived.Deep.QuietTactic
set_option linter.unusedSimpArgs false
set_option linter.unusedVariables false
namespace Go.Proofs.YtkbmckmlnphpmaaGreatDoor
open Go.RowKit Go.Lib Go.Shelf

set_option maxRecDepth 100000 in
set_option maxHeartbeats 2000000 in
theorem maySeen_any (A : Option Addr) (n c : Nat) (L : List Sn) (w : World) (hL : L.length = n) (hA : SnAt w A L) (hn : n ≤ 1000000) :
    Calls Tryz.prog 30 #[.slice A n c] w fun e w' => e = .returned (.bool (L.all toldB)) ∧ w = w' := by
  have hL' := Lib.hid hL
  have hA' := Lib.hid hA
  clear hL hA
  go_enter Tryz.func30, Tryz.ntmps30
  go_wp2_with fail
  go_loopg [3] n (fun g s3 wr => ∃ k : Nat, k + g = n ∧ s3 = .int .i64 k ∧ (∀ (i : Nat) (x : Sn), i < k → L[i]? = some x → toldB x = true) ∧ w = wr)
  case atStart => exact ⟨0, by omega, rfl, fun i x h => absurd h (by omega), rfl⟩
  case round =>
    obtain ⟨k, hkg, rfl, hall, rfl⟩ := hrel
    have hall' := Lib.hid hall
    clear hall
    cases gk with
    | zero =>
      have e0 : ¬ ((k : Int) < (n : Int)) := by omega
      have hs := Lib.hid (show L.all toldB = true by
        rw [List.all_eq_true]
        intro x hx
        obtain ⟨i, hi⟩ := List.getElem?_of_mem hx
        exact hall'.out i x (by have := (List.getElem?_eq_some_iff.1 hi).1; have := hL'.out; omega) hi)
      go_wp2
      go_ret
      exact ⟨ret_bool hs.out.symm, rfl⟩
    | succ g =>
      have e0 : (k : Int) < (n : Int) := by omega
      obtain ⟨blk, off, x, rfl, hx, v1, v2, v3, _, _⟩ := hA'.out.at_ (k := k) (by rw [hL'.out]; omega)
      have hx' := Lib.hid hx
      obtain ⟨xj, hxj⟩ : ∃ xj, x.j = xj := ⟨_, rfl⟩
      obtain ⟨xt, hxt⟩ : ∃ xt, x.t = xt := ⟨_, rfl⟩
      obtain ⟨xa, hxa⟩ : ∃ xa, x.a = xa := ⟨_, rfl⟩
      rw [hxj] at v1
      rw [hxt] at v2
      rw [hxa] at v3
      have ht := Lib.hid (show toldB x = ((xj && decide (xa = 0)) || (!xj && !xt)) by unfold toldB; rw [hxj, hxt, hxa])
      clear hx hxj hxt hxa
      by_cases h0 : xa = 0
      · subst h0
        cases xj <;> cases xt
        case false.true =>
          have hs := Lib.hid (show L.all toldB = false by
            rw [List.all_eq_false]
            exact ⟨x, List.mem_of_getElem? hx'.out, by rw [ht.out]; simp⟩)
          go_wp2
          go_ret
          exact ⟨ret_bool hs.out.symm, rfl⟩
        all_goals
          go_wp2
          go_roundg g
          case measure => omega
          case rel =>
            refine ⟨k + 1, by omega, by go_num, fun i y hi hv => ?_, rfl⟩
            rcases Nat.lt_or_ge i k with h | h
            · exact hall'.out i y h hv
            · obtain rfl : i = k := by omega
              rw [hx'.out] at hv
              cases hv
              rw [ht.out]; simp
      · have e1 : (xa == 0) = false := by simpa using h0
        have h0' := Lib.hid h0
        cases xj <;> cases xt
        case false.false =>
          go_wp2
          go_roundg g
          case measure => omega
          case rel =>
            refine ⟨k + 1, by omega, by go_num, fun i y hi hv => ?_, rfl⟩
            rcases Nat.lt_or_ge i k with h | h
            · exact hall'.out i y h hv
            · obtain rfl : i = k := by omega
              rw [hx'.out] at hv
              cases hv
              rw [ht.out]; simp
        all_goals
          have hs := Lib.hid (show L.all toldB = false by
            rw [List.all_eq_false]
            exact ⟨x, List.mem_of_getElem? hx'.out, by rw [ht.out]; simp [h0'.out]⟩)
          go_wp2
          go_ret
          exact ⟨ret_bool hs.out.symm, rfl⟩

theorem sn_eta (x y : Sn) : x = y ↔ x.j = y.j ∧ x.t = y.t ∧ x.a = y.a := by cases x; cases y; simp

set_option maxRecDepth 100000 in
set_option maxHeartbeats 4000000 in
theorem sameSeen_any (A A' : Option Addr) (n c n' c' : Nat) (L M : List Sn) (w : World) (hL : L.length = n) (hM : M.length = n') (hA : SnAt w A L) (hB : SnAt w A' M) (hn : n ≤ 1000001) (hn' : n' ≤ 1000001) :
    Calls Tryz.prog 29 #[.slice A n c, .slice A' n' c'] w (BoolPost (decide (L = M)) w) := by
  have hL' := Lib.hid hL
  have hM' := Lib.hid hM
  have hA' := Lib.hid hA
  have hB' := Lib.hid hB
  clear hL hM hA hB
  by_cases hnn : n = n'
  · subst hnn
    go_enter Tryz.func29, Tryz.ntmps29
    go_wp2_with fail
    go_loopg [5] n (fun g s5 wr => ∃ k : Nat, k + g = n ∧ s5 = .int .i64 k ∧ (∀ (i : Nat), i < k → L[i]? = M[i]?) ∧ Below w.heap.size w wr)
    case atStart => exact ⟨0, by omega, rfl, fun i h => absurd h (by omega), Below.refl _ _⟩
    case round =>
      obtain ⟨k, hkg, rfl, hall, hbr⟩ := hrel
      have hall' := Lib.hid hall
      have hbr' := Lib.hid hbr
      clear hall hbr
      cases gk with
      | zero =>
        have e0 : ¬ ((k : Int) < (n : Int)) := by omega
        have hs := Lib.hid (show decide (L = M) = true from decide_eq_true (list_eq_all hL'.out hM'.out (fun i hi => hall'.out i (by omega))))
        go_wp2
        go_ret
        exact ⟨ret_bool hs.out.symm, hbr'.out⟩
      | succ g =>
        have e0 : (k : Int) < (n : Int) := by omega
        obtain ⟨blk, off, x, rfl, hx, v1, v2, v3, _, _⟩ := (hA'.out.below hbr'.out).at_ (k := k) (by rw [hL'.out]; omega)
        obtain ⟨blk2, off2, y, rfl, hy, u1, u2, u3, _, _⟩ := (hB'.out.below hbr'.out).at_ (k := k) (by rw [hM'.out]; omega)
        have hx' := Lib.hid hx
        have hy' := Lib.hid hy
        obtain ⟨xj, xt, xa⟩ := x
        obtain ⟨yj, yt, ya⟩ := y
        dsimp only at v1 v2 v3 u1 u2 u3
        clear hx hy
        by_cases he : xj = yj ∧ xt = yt ∧ xa = ya
        · obtain ⟨rfl, rfl, rfl⟩ := he
          go_wp2
          go_region
          go_wp2
          go_roundg g
          case measure => omega
          case rel =>
            refine ⟨k + 1, by omega, by go_num, fun i hi => ?_, hbr'.out.drew⟩
            rcases Nat.lt_or_ge i k with h | h
            · exact hall'.out i h
            · obtain rfl : i = k := by omega
              rw [hx'.out, hy'.out]
        · have hs := Lib.hid (show decide (L = M) = false from decide_eq_false (list_ne_at hx'.out hy'.out (fun e => he (by cases e; exact ⟨rfl, rfl, rfl⟩))))
          by_cases h1 : xj = yj
          · by_cases h2 : xt = yt
            · have h3 : ¬ xa = ya := fun h => he ⟨h1, h2, h⟩
              subst h1 h2
              clear he
              go_wp2
              go_region
              go_wp2
              go_ret
              exact ⟨ret_bool hs.out.symm, hbr'.out.drew⟩
            · subst h1
              clear he
              go_wp2
              go_region
              go_wp2
              go_ret
              exact ⟨ret_bool hs.out.symm, hbr'.out.drew⟩
          · clear he
            go_wp2
            go_region
            go_wp2
            go_ret
            exact ⟨ret_bool hs.out.symm, hbr'.out.drew⟩
  · have e1 : ((n : Int) != (n' : Int)) = true := by simp; omega
    have hs := Lib.hid (show decide (L = M) = false from decide_eq_false (fun e => hnn (by rw [← hL'.out, ← hM'.out, e])))
    go_enter Tryz.func29, Tryz.ntmps29
    go_wp2
    go_ret
    exact ⟨ret_bool hs.out.symm, Below.refl _ _⟩
end Go.Proofs.YtkbmckmlnphpmaaGreatDoor
