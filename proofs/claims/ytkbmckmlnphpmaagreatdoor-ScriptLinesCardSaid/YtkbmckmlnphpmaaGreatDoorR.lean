/- Are all lists of words short: all, at lists of words. -/
import Derived.Test.YtkbmckmlnphpmaaGreatDoorN
set_option linter.unusedSimpArgs false
set_option linter.unusedVariables false
namespace Go.Proofs.YtkbmckmlnphpmaaGreatDoor
open Go.RowKit Go.Lib Go.Shelf

def shortB (W : List (List Int)) : Bool := W.all fun ws => decide (ws.length ≤ 512)
theorem shortB_yes {W : List (List Int)} (h : ∀ (i : Nat) (ws : List Int), W[i]? = some ws → ws.length ≤ 512) : shortB W = true := by
  unfold shortB
  rw [List.all_eq_true]
  intro ws hws
  obtain ⟨i, hi⟩ := List.getElem?_of_mem hws
  exact decide_eq_true (h i ws hi)
theorem shortB_no {W : List (List Int)} {i : Nat} {ws : List Int} (h : W[i]? = some ws) (h2 : ¬ ws.length ≤ 512) : shortB W = false := by
  unfold shortB
  rw [List.all_eq_false]
  exact ⟨ws, List.mem_of_getElem? h, by simpa using h2⟩

set_option maxRecDepth 100000 in
set_option maxHeartbeats 1000000 in
theorem len512_any (A : Option Addr) (n c : Nat) (w : World) : Calls Tryz.prog 68 #[.slice A n c] w fun e w' => e = .returned (.bool (decide (n ≤ 512))) ∧ w = w' := by
  by_cases h : n ≤ 512
  · have e0 : (n : Int) ≤ 512 := by omega
    have d0 : decide (n ≤ 512) = true := by simpa using h
    rw [d0]
    clear d0
    go_enter Tryz.func68, Tryz.ntmps68
    go_wp2
    go_ret
    exact ⟨rfl, rfl⟩
  · have e0 : ¬ (n : Int) ≤ 512 := by omega
    have d0 : decide (n ≤ 512) = false := by simpa using h
    rw [d0]
    clear d0
    go_enter Tryz.func68, Tryz.ntmps68
    go_wp2
    go_ret
    exact ⟨rfl, rfl⟩
set_option maxRecDepth 100000 in
set_option maxHeartbeats 1000000 in
theorem not512_any (A : Option Addr) (n c b : Nat) (w : World) (hb : w.cell? ⟨b, 0, none⟩ = some (.func (.func 68) #[] #[])) : Calls Tryz.prog 96 #[.slice A n c, .pointer (some ⟨b, 0, none⟩)] w fun e w' => e = .returned (.bool (!decide (n ≤ 512))) ∧ w = w' := by
  have hk := Lib.hid (len512_any A n c w)
  generalize decide (n ≤ 512) = t at hk ⊢
  go_enter Tryz.func96, Tryz.ntmps96
  go_wp2_with fail
  refine hk.out.mono ?_
  rintro e w1 ⟨rfl, rfl⟩
  cases t
  all_goals
    go_wp2
    go_ret
    exact ⟨rfl, rfl⟩
set_option maxRecDepth 100000 in
set_option maxHeartbeats 2000000 in
theorem idx512_any (A : Option Addr) (n c b : Nat) (W : List (List Int)) (w : World) (hb : w.cell? ⟨b, 0, none⟩ = some (.func (.func 68) #[] #[])) (hW : W.length = n) (hA : WsAt w A W) (hn : n ≤ 4000000) :
    Calls Tryz.prog 117 #[.slice A n c, .func (.func 96) #[] #[.pointer (some ⟨b, 0, none⟩)]] w fun e w' => ∃ v : Int, e = .returned (.int .i64 v) ∧ (shortB W = true → v = -1) ∧ (shortB W = false → 0 ≤ v) ∧ w = w' := by
  have hk := Lib.hid fun A n c => not512_any A n c b w hb
  have hW' := Lib.hid hW
  have hA' := Lib.hid hA
  clear hW hA
  go_enter Tryz.func117, Tryz.ntmps117
  go_wp2_with fail
  go_loopg [8] n (fun g s8 wr => ∃ k : Nat, k + g = n ∧ s8 = .int .i64 k ∧ (∀ (i : Nat) (ws : List Int), i < k → W[i]? = some ws → ws.length ≤ 512) ∧ w = wr)
  case atStart => exact ⟨0, by omega, rfl, fun i ws h => absurd h (by omega), rfl⟩
  case round =>
    obtain ⟨k, hkg, rfl, hall, rfl⟩ := hrel
    have hall' := Lib.hid hall
    clear hall
    cases gk with
    | zero =>
      have e0 : ¬ ((k : Int) < (n : Int)) := by omega
      have hs := Lib.hid (shortB_yes (W := W) fun i ws h => hall'.out i ws (by have := (List.getElem?_eq_some_iff.1 h).1; have := hW'.out; omega) h)
      go_wp2
      go_ret
      exact ⟨-1, rfl, fun _ => rfl, (fun h => by rw [hs.out] at h; cases h), rfl⟩
    | succ g =>
      have e0 : (k : Int) < (n : Int) := by omega
      obtain ⟨blk, off, ws, Ai, ci, rfl, hws, v1, v2, v3⟩ := hA'.out.at_ (k := k) (by rw [hW'.out]; omega)
      have hws' := Lib.hid hws
      have v3' := Lib.hid v3
      have hk2 := Lib.hid (hk.out Ai ws.length ci)
      clear hws v3
      obtain ⟨t, ht⟩ : ∃ t, decide (ws.length ≤ 512) = t := ⟨_, rfl⟩
      rw [ht] at hk2
      have ht' := Lib.hid ht
      clear ht
      go_wp2_with fail
      refine hk2.out.mono ?_
      rintro e w1 ⟨rfl, rfl⟩
      cases t
      · have hs := Lib.hid (shortB_no hws'.out (by simpa using ht'.out))
        go_wp2
        go_ret
        exact ⟨k, rfl, (fun h => by rw [hs.out] at h; cases h), (fun _ => by omega), rfl⟩
      · go_wp2
        go_roundg g
        case measure => omega
        case rel =>
          refine ⟨k + 1, by omega, by go_num, fun i vs hi hv => ?_, rfl⟩
          rcases Nat.lt_or_ge i k with h | h
          · exact hall'.out i vs h hv
          · obtain rfl : i = k := by omega
            rw [hws'.out] at hv
            cases hv
            simpa using ht'.out
set_option maxRecDepth 100000 in
set_option maxHeartbeats 1000000 in
theorem has512_any (A : Option Addr) (n c b : Nat) (W : List (List Int)) (w : World) (hb : w.cell? ⟨b, 0, none⟩ = some (.func (.func 68) #[] #[])) (hW : W.length = n) (hA : WsAt w A W) (hn : n ≤ 4000000) :
    Calls Tryz.prog 95 #[.slice A n c, .func (.func 96) #[] #[.pointer (some ⟨b, 0, none⟩)]] w fun e w' => e = .returned (.bool (!shortB W)) ∧ w = w' := by
  have hk := Lib.hid (idx512_any A n c b W w hb hW hA hn)
  generalize shortB W = t at hk ⊢
  clear hW hA
  go_enter Tryz.func95, Tryz.ntmps95
  go_wp2_with fail
  refine hk.out.mono ?_
  rintro e w1 ⟨v, rfl, h1, h2, rfl⟩
  cases t
  · have e0 : 0 ≤ v := h2 rfl
    have e0' := Lib.hid e0
    clear h1 h2
    go_wp2
    go_ret
    exact ⟨ret_bool (by simp [e0'.out]), rfl⟩
  · have e0 : ¬ 0 ≤ v := by have := h1 rfl; omega
    have e0' := Lib.hid e0
    clear h1 h2
    go_wp2
    go_ret
    exact ⟨ret_bool (by simp [e0'.out]), rfl⟩
set_option maxRecDepth 100000 in
set_option maxHeartbeats 1000000 in
theorem all512_any (A : Option Addr) (n c : Nat) (W : List (List Int)) (w : World) (hW : W.length = n) (hA : WsAt w A W) (hn : n ≤ 4000000) :
    Calls Tryz.prog 67 #[.slice A n c, .func (.func 68) #[] #[]] w (BoolPost (shortB W) w) := by
  have hb0 := Lib.hid ((Below.refl w.heap.size w).alloc (Nat.le_refl _) (.cells #[.func (.func 68) #[] #[]] 110))
  have hk := Lib.hid (has512_any A n c w.heap.size W (w.alloc (.cells #[.func (.func 68) #[] #[]] 110)) (by rw [blk_cell (heap_alloc_new w _)]; rfl) hW (hA.below hb0.out) hn)
  clear hW hA
  generalize shortB W = t at hk ⊢
  go_enter Tryz.func67, Tryz.ntmps67
  go_wp2_with fail
  refine hk.out.mono ?_
  rintro e w1 ⟨rfl, rfl⟩
  cases t
  all_goals
    go_wp2
    go_ret
    exact ⟨rfl, hb0.out⟩
end Go.Proofs.YtkbmckmlnphpmaaGreatDoor
