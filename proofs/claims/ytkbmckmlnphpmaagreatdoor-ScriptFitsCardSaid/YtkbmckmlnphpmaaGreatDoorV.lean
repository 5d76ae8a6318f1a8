/- Are all lists of words short: all, at lists of words. Askings: May, a kind's line. A kind's line. What a kind's word means: readings. The kind of a line: Unline. -/
import Derived.Test.YtkbmckmlnphpmaaGreatDoorQ
import Derived.OneCell
import Derived.Maps.OwnOps
set_option linter.unusedSimpArgs false
set_option linter.unusedVariables false
namespace Go.Proofs.YtkbmckmlnphpmaaGreatDoor
open Go.RowKit Go.Lib Go.Shelf

def shortB (W : List (List Int)) : Bool := W.all fun ws => decide (ws.length ≤ 512)
theorem shortB_yes {W : List (List Int)} (h : ∀ (i : Nat) (ws : List Int), W[i]? = some ws → ws.length ≤ 512) : shortB W = true := by
  unfold shortB
  rw [List.all_eq_true]
  intro ws hws
  obtain ⟨i, hi⟩ := List.getElem?_of_mem hws
  exact decide_eq_true (h i ws hi)
theorem shortB_no {W : List (List Int)} {i : Nat} {ws : List Int} (h : W[i]? = some ws) (h2 : ¬ ws.length ≤ 512) : shortB W = false := by
  unfold shortB
  rw [List.all_eq_false]
  exact ⟨ws, List.mem_of_getElem? h, by simpa using h2⟩

set_option maxRecDepth 100000 in
set_option maxHeartbeats 1000000 in
theorem len512_any (A : Option Addr) (n c : Nat) (w : World) : Calls Tryz.prog 68 #[.slice A n c] w fun e w' => e = .returned (.bool (decide (n ≤ 512))) ∧ w = w' := by
  by_cases h : n ≤ 512
  · have e0 : (n : Int) ≤ 512 := by omega
    have d0 : decide (n ≤ 512) = true := by simpa using h
    rw [d0]
    clear d0
    go_enter Tryz.func68, Tryz.ntmps68
    go_wp2
    go_ret
    exact ⟨rfl, rfl⟩
  · have e0 : ¬ (n : Int) ≤ 512 := by omega
    have d0 : decide (n ≤ 512) = false := by simpa using h
    rw [d0]
    clear d0
    go_enter Tryz.func68, Tryz.ntmps68
    go_wp2
    go_ret
    exact ⟨rfl, rfl⟩
set_option maxRecDepth 100000 in
set_option maxHeartbeats 1000000 in
theorem not512_any (A : Option Addr) (n c b : Nat) (w : World) (hb : w.cell? ⟨b, 0, none⟩ = some (.func (.func 68) #[] #[])) : Calls Tryz.prog 96 #[.slice A n c, .pointer (some ⟨b, 0, none⟩)] w fun e w' => e = .returned (.bool (!decide (n ≤ 512))) ∧ w = w' := by
  have hk := Lib.hid (len512_any A n c w)
  generalize decide (n ≤ 512) = t at hk ⊢
  go_enter Tryz.func96, Tryz.ntmps96
  go_wp2_with fail
  refine hk.out.mono ?_
  rintro e w1 ⟨rfl, rfl⟩
  cases t
  all_goals
    go_wp2
    go_ret
    exact ⟨rfl, rfl⟩
set_option maxRecDepth 100000 in
set_option maxHeartbeats 2000000 in
theorem idx512_any (A : Option Addr) (n c b : Nat) (W : List (List Int)) (w : World) (hb : w.cell? ⟨b, 0, none⟩ = some (.func (.func 68) #[] #[])) (hW : W.length = n) (hA : WsAt w A W) (hn : n ≤ 4000000) :
    Calls Tryz.prog 117 #[.slice A n c, .func (.func 96) #[] #[.pointer (some ⟨b, 0, none⟩)]] w fun e w' => ∃ v : Int, e = .returned (.int .i64 v) ∧ (shortB W = true → v = -1) ∧ (shortB W = false → 0 ≤ v) ∧ w = w' := by
  have hk := Lib.hid fun A n c => not512_any A n c b w hb
  have hW' := Lib.hid hW
  have hA' := Lib.hid hA
  clear hW hA
  go_enter Tryz.func117, Tryz.ntmps117
  go_wp2_with fail
  go_loopg [8] n (fun g s8 wr => ∃ k : Nat, k + g = n ∧ s8 = .int .i64 k ∧ (∀ (i : Nat) (ws : List Int), i < k → W[i]? = some ws → ws.length ≤ 512) ∧ w = wr)
  case atStart => exact ⟨0, by omega, rfl, fun i ws h => absurd h (by omega), rfl⟩
  case round =>
    obtain ⟨k, hkg, rfl, hall, rfl⟩ := hrel
    have hall' := Lib.hid hall
    clear hall
    cases gk with
    | zero =>
      have e0 : ¬ ((k : Int) < (n : Int)) := by omega
      have hs := Lib.hid (shortB_yes (W := W) fun i ws h => hall'.out i ws (by have := (List.getElem?_eq_some_iff.1 h).1; have := hW'.out; omega) h)
      go_wp2
      go_ret
      exact ⟨-1, rfl, fun _ => rfl, (fun h => by rw [hs.out] at h; cases h), rfl⟩
    | succ g =>
      have e0 : (k : Int) < (n : Int) := by omega
      obtain ⟨blk, off, ws, Ai, ci, rfl, hws, v1, v2, v3⟩ := hA'.out.at_ (k := k) (by rw [hW'.out]; omega)
      have hws' := Lib.hid hws
      have v3' := Lib.hid v3
      have hk2 := Lib.hid (hk.out Ai ws.length ci)
      clear hws v3
      obtain ⟨t, ht⟩ : ∃ t, decide (ws.length ≤ 512) = t := ⟨_, rfl⟩
      rw [ht] at hk2
      have ht' := Lib.hid ht
      clear ht
      go_wp2_with fail
      refine hk2.out.mono ?_
      rintro e w1 ⟨rfl, rfl⟩
      cases t
      · have hs := Lib.hid (shortB_no hws'.out (by simpa using ht'.out))
        go_wp2
        go_ret
        exact ⟨k, rfl, (fun h => by rw [hs.out] at h; cases h), (fun _ => by omega), rfl⟩
      · go_wp2
        go_roundg g
        case measure => omega
        case rel =>
          refine ⟨k + 1, by omega, by go_num, fun i vs hi hv => ?_, rfl⟩
          rcases Nat.lt_or_ge i k with h | h
          · exact hall'.out i vs h hv
          · obtain rfl : i = k := by omega
            rw [hws'.out] at hv
            cases hv
            simpa using ht'.out
set_option maxRecDepth 100000 in
set_option maxHeartbeats 1000000 in
theorem has512_any (A : Option Addr) (n c b : Nat) (W : List (List Int)) (w : World) (hb : w.cell? ⟨b, 0, none⟩ = some (.func (.func 68) #[] #[])) (hW : W.length = n) (hA : WsAt w A W) (hn : n ≤ 4000000) :
    Calls Tryz.prog 95 #[.slice A n c, .func (.func 96) #[] #[.pointer (some ⟨b, 0, none⟩)]] w fun e w' => e = .returned (.bool (!shortB W)) ∧ w = w' := by
  have hk := Lib.hid (idx512_any A n c b W w hb hW hA hn)
  generalize shortB W = t at hk ⊢
  clear hW hA
  go_enter Tryz.func95, Tryz.ntmps95
  go_wp2_with fail
  refine hk.out.mono ?_
  rintro e w1 ⟨v, rfl, h1, h2, rfl⟩
  cases t
  · have e0 : 0 ≤ v := h2 rfl
    have e0' := Lib.hid e0
    clear h1 h2
    go_wp2
    go_ret
    exact ⟨ret_bool (by simp [e0'.out]), rfl⟩
  · have e0 : ¬ 0 ≤ v := by have := h1 rfl; omega
    have e0' := Lib.hid e0
    clear h1 h2
    go_wp2
    go_ret
    exact ⟨ret_bool (by simp [e0'.out]), rfl⟩
set_option maxRecDepth 100000 in
set_option maxHeartbeats 1000000 in
theorem all512_any (A : Option Addr) (n c : Nat) (W : List (List Int)) (w : World) (hW : W.length = n) (hA : WsAt w A W) (hn : n ≤ 4000000) :
    Calls Tryz.prog 67 #[.slice A n c, .func (.func 68) #[] #[]] w (BoolPost (shortB W) w) := by
  have hb0 := Lib.hid ((Below.refl w.heap.size w).alloc (Nat.le_refl _) (.cells #[.func (.func 68) #[] #[]] 110))
  have hk := Lib.hid (has512_any A n c w.heap.size W (w.alloc (.cells #[.func (.func 68) #[] #[]] 110)) (by rw [blk_cell (heap_alloc_new w _)]; rfl) hW (hA.below hb0.out) hn)
  clear hW hA
  generalize shortB W = t at hk ⊢
  go_enter Tryz.func67, Tryz.ntmps67
  go_wp2_with fail
  refine hk.out.mono ?_
  rintro e w1 ⟨rfl, rfl⟩
  cases t
  all_goals
    go_wp2
    go_ret
    exact ⟨rfl, hb0.out⟩
end Go.Proofs.YtkbmckmlnphpmaaGreatDoor
namespace Go.Proofs.YtkbmckmlnphpmaaGreatDoor
open Go.RowKit Go.Lib Go.Shelf

def mayV (k : Int) (n1 n2 : Nat) (st fu : Int) (sb : Bool) : Bool := decide (1 ≤ k) && decide (k ≤ 3) && (decide (k ≠ 1) || decide (st = 0)) && decide (n1 ≤ 64) && decide (n2 ≤ 16) && decide (0 ≤ fu) && decide (fu ≤ 1000000) && sb

set_option maxRecDepth 100000 in
set_option maxHeartbeats 4000000 in
theorem may_any (k : Int) (A1 A2 : Option Addr) (n1 c1 n2 c2 : Nat) (W : List (List Int)) (st fu : Int) (w : World) (hW : W.length = n2) (hA : WsAt w A2 W) (hn : n2 ≤ 4000000) (hn1 : n1 ≤ 4000000) :
    Calls Tryz.prog 34 #[.agg #[.int .i64 k, .slice A1 n1 c1, .slice A2 n2 c2, .int .u64 st, .int .i64 fu]] w (BoolPost (mayV k n1 n2 st fu (shortB W)) w) := by
  have hb0 := Lib.hid ((Below.refl w.heap.size w).alloc (Nat.le_refl _) (.cells #[.int .i64 k, .slice A1 n1 c1, .slice A2 n2 c2, .int .u64 st, .int .i64 fu] 42))
  have hk := Lib.hid (all512_any A2 n2 c2 W (w.alloc (.cells #[.int .i64 k, .slice A1 n1 c1, .slice A2 n2 c2, .int .u64 st, .int .i64 fu] 42)) hW (hA.below hb0.out) hn)
  clear hW hA
  generalize shortB W = sb at hk ⊢
  have hmay : ∀ b, mayV k n1 n2 st fu sb = b → Calls Tryz.prog 34 #[.agg #[.int .i64 k, .slice A1 n1 c1, .slice A2 n2 c2, .int .u64 st, .int .i64 fu]] w (BoolPost b w) → Calls Tryz.prog 34 #[.agg #[.int .i64 k, .slice A1 n1 c1, .slice A2 n2 c2, .int .u64 st, .int .i64 fu]] w (BoolPost (mayV k n1 n2 st fu sb) w) := fun b h hc => by rw [h]; exact hc
  by_cases k1 : 1 ≤ k
  · by_cases k2 : k ≤ 3
    · by_cases k3 : k = 1
      · subst k3
        by_cases k4 : st = 0
        · subst k4
          by_cases i1 : (n1 : Int) ≤ 64
          · by_cases i2 : (n2 : Int) ≤ 16
            · by_cases f1 : 0 ≤ fu
              · by_cases f2 : fu ≤ 1000000
                · refine hmay sb (by have j1 : n1 ≤ 64 := by omega
                                     have j2 : n2 ≤ 16 := by omega
                                     simp [mayV, j1, j2, f1, f2]) ?_
                  clear hmay
                  go_enter Tryz.func34, Tryz.ntmps34
                  go_wp2_with fail
                  refine hk.out.mono ?_
                  rintro e w1 ⟨rfl, hb1⟩
                  have hb2 := Lib.hid (hb0.out.trans (hb1.mono hb0.out.size))
                  clear hb1
                  cases sb
                  · go_wp2
                    go_ret
                    exact ⟨rfl, hb2.out⟩
                  · go_wp2
                    go_ret
                    exact ⟨rfl, hb2.out⟩
                · refine hmay false (by simp [mayV, f2]) ?_
                  clear hmay hk
                  go_enter Tryz.func34, Tryz.ntmps34
                  go_wp2
                  go_ret
                  exact ⟨rfl, hb0.out⟩
              · refine hmay false (by simp [mayV, f1]) ?_
                clear hmay hk
                go_enter Tryz.func34, Tryz.ntmps34
                go_wp2
                go_ret
                exact ⟨rfl, hb0.out⟩
            · refine hmay false (by have j2 : ¬ n2 ≤ 16 := by omega
                                    simp [mayV, j2]) ?_
              clear hmay hk
              go_enter Tryz.func34, Tryz.ntmps34
              go_wp2
              go_ret
              exact ⟨rfl, hb0.out⟩
          · refine hmay false (by have j1 : ¬ n1 ≤ 64 := by omega
                                  simp [mayV, j1]) ?_
            clear hmay hk
            go_enter Tryz.func34, Tryz.ntmps34
            go_wp2
            go_ret
            exact ⟨rfl, hb0.out⟩
        · refine hmay false (by simp [mayV, k4]) ?_
          clear hmay hk
          by_cases i1 : (n1 : Int) ≤ 64
          · go_enter Tryz.func34, Tryz.ntmps34
            go_wp2
            go_ret
            exact ⟨rfl, hb0.out⟩
          · go_enter Tryz.func34, Tryz.ntmps34
            go_wp2
            go_ret
            exact ⟨rfl, hb0.out⟩
      · by_cases i1 : (n1 : Int) ≤ 64
        · by_cases i2 : (n2 : Int) ≤ 16
          · by_cases f1 : 0 ≤ fu
            · by_cases f2 : fu ≤ 1000000
              · refine hmay sb (by have j1 : n1 ≤ 64 := by omega
                                   have j2 : n2 ≤ 16 := by omega
                                   simp [mayV, k1, k2, k3, j1, j2, f1, f2]) ?_
                clear hmay
                go_enter Tryz.func34, Tryz.ntmps34
                go_wp2_with fail
                refine hk.out.mono ?_
                rintro e w1 ⟨rfl, hb1⟩
                have hb2 := Lib.hid (hb0.out.trans (hb1.mono hb0.out.size))
                clear hb1
                cases sb
                · go_wp2
                  go_ret
                  exact ⟨rfl, hb2.out⟩
                · go_wp2
                  go_ret
                  exact ⟨rfl, hb2.out⟩
              · refine hmay false (by simp [mayV, f2]) ?_
                clear hmay hk
                go_enter Tryz.func34, Tryz.ntmps34
                go_wp2
                go_ret
                exact ⟨rfl, hb0.out⟩
            · refine hmay false (by simp [mayV, f1]) ?_
              clear hmay hk
              go_enter Tryz.func34, Tryz.ntmps34
              go_wp2
              go_ret
              exact ⟨rfl, hb0.out⟩
          · refine hmay false (by have j2 : ¬ n2 ≤ 16 := by omega
                                  simp [mayV, j2]) ?_
            clear hmay hk
            go_enter Tryz.func34, Tryz.ntmps34
            go_wp2
            go_ret
            exact ⟨rfl, hb0.out⟩
        · refine hmay false (by have j1 : ¬ n1 ≤ 64 := by omega
                                simp [mayV, j1]) ?_
          clear hmay hk
          go_enter Tryz.func34, Tryz.ntmps34
          go_wp2
          go_ret
          exact ⟨rfl, hb0.out⟩
    · refine hmay false (by simp [mayV, k2]) ?_
      clear hmay hk
      by_cases i1 : (n1 : Int) ≤ 64
      · go_enter Tryz.func34, Tryz.ntmps34
        go_wp2
        go_ret
        exact ⟨rfl, hb0.out⟩
      · go_enter Tryz.func34, Tryz.ntmps34
        go_wp2
        go_ret
        exact ⟨rfl, hb0.out⟩
  · refine hmay false (by simp [mayV, k1]) ?_
    clear hmay hk
    by_cases i1 : (n1 : Int) ≤ 64
    · go_enter Tryz.func34, Tryz.ntmps34
      go_wp2
      go_ret
      exact ⟨rfl, hb0.out⟩
    · go_enter Tryz.func34, Tryz.ntmps34
      go_wp2
      go_ret
      exact ⟨rfl, hb0.out⟩
end Go.Proofs.YtkbmckmlnphpmaaGreatDoor
namespace Go.Proofs.YtkbmckmlnphpmaaGreatDoor
open Go.RowKit Go.Lib Go.Shelf

def srcW : ByteArray := ⟨#[115, 111, 117, 114, 99, 101]⟩
def macW : ByteArray := ⟨#[109, 97, 99, 104, 105, 110, 101]⟩
def leakW : ByteArray := ⟨#[108, 101, 97, 107]⟩
def askedT (k st fu : Int) : ByteArray := if k = 1 then lineT srcW [fu] else if k = 2 then lineT macW [st, fu] else lineT leakW [st, fu]
/-- the world with an asking's box -/
def askBox (w : World) (k : Int) (A1 A2 : Option Addr) (n1 c1 n2 c2 : Nat) (st fu : Int) : World := w.alloc (.cells #[.int .i64 k, .slice A1 n1 c1, .slice A2 n2 c2, .int .u64 st, .int .i64 fu] 42)

set_option maxRecDepth 100000 in
set_option maxHeartbeats 2000000 in
theorem asked_any (k : Int) (A1 A2 : Option Addr) (n1 c1 n2 c2 : Nat) (st fu : Int) (w : World) (hT : Tab w) (h1 : 0 ≤ st) (h2 : st ≤ 18446744073709551615) (h3 : 0 ≤ fu) (h4 : fu ≤ 1000000) :
    Calls Tryz.prog 58 #[.agg #[.int .i64 k, .slice A1 n1 c1, .slice A2 n2 c2, .int .u64 st, .int .i64 fu]] w (StrPost (askedT k st fu) w) := by
  have hb0 := (Below.refl w.heap.size w).alloc (Nat.le_refl _) (.cells #[.int .i64 k, .slice A1 n1 c1, .slice A2 n2 c2, .int .u64 st, .int .i64 fu] 42)
  have hb1 := Lib.hid (hb0.alloc hb0.size (.cells #[.int .u64 fu] 40))
  have hb2 := Lib.hid (hb0.alloc hb0.size (.cells #[.int .u64 st, .int .u64 fu] 40))
  have hl1 := Lib.hid (line_any srcW (some ⟨w.heap.size + 1, 0, none⟩) 1 1 [fu] ((w.alloc (.cells #[.int .i64 k, .slice A1 n1 c1, .slice A2 n2 c2, .int .u64 st, .int .i64 fu] 42)).alloc (.cells #[.int .u64 fu] 40)) rfl
    ⟨by simp; omega, fun _ => ⟨_, 0, rfl, fun i x hx => by
      have e : (w.alloc (.cells #[.int .i64 k, .slice A1 n1 c1, .slice A2 n2 c2, .int .u64 st, .int .i64 fu] 42)).heap.size = w.heap.size + 1 := by simp
      rw [← e, blk_cell (heap_alloc_new _ _)]
      cases i with
      | zero => cases hx; rfl
      | succ i => cases hx⟩⟩ (hT.below hb1.out) (by decide) (by omega))
  have hl2 := Lib.hid fun wd (hd : wd.size ≤ 2000000) => line_any wd (some ⟨w.heap.size + 1, 0, none⟩) 2 2 [st, fu] ((w.alloc (.cells #[.int .i64 k, .slice A1 n1 c1, .slice A2 n2 c2, .int .u64 st, .int .i64 fu] 42)).alloc (.cells #[.int .u64 st, .int .u64 fu] 40)) rfl
    ⟨by simp; omega, fun _ => ⟨_, 0, rfl, fun i x hx => by
      have e : (w.alloc (.cells #[.int .i64 k, .slice A1 n1 c1, .slice A2 n2 c2, .int .u64 st, .int .i64 fu] 42)).heap.size = w.heap.size + 1 := by simp
      rw [← e, blk_cell (heap_alloc_new _ _)]
      match i, hx with
      | 0, hx => cases hx; rfl
      | 1, hx => cases hx; rfl⟩⟩ (hT.below hb2.out) hd (by omega)
  have hw : IntKind.u64.wrap fu = fu := by rw [IntKind.wrap_u64]; omega
  clear hT hb0
  by_cases k1 : k = 1
  · subst k1
    have e : askedT 1 st fu = lineT srcW [fu] := rfl
    rw [e]
    have hs : srcW = ⟨#[115, 111, 117, 114, 99, 101]⟩ := rfl
    rw [hs] at hl1 ⊢
    generalize lineT ⟨#[115, 111, 117, 114, 99, 101]⟩ [fu] = t at hl1 ⊢
    go_enter Tryz.func58, Tryz.ntmps58
    go_wp2_with fail
    refine hl1.out.mono ?_
    rintro e w1 ⟨rfl, hb⟩
    have hb' := Lib.hid (Below.next hb1.out hb)
    clear hb
    go_wp2
    go_ret
    exact ⟨rfl, hb'.out⟩
  · by_cases k2 : k = 2
    · subst k2
      have e : askedT 2 st fu = lineT macW [st, fu] := rfl
      rw [e]
      have hl3 := Lib.hid (hl2.out macW (by decide))
      have hs : macW = ⟨#[109, 97, 99, 104, 105, 110, 101]⟩ := rfl
      rw [hs] at hl3 ⊢
      generalize lineT ⟨#[109, 97, 99, 104, 105, 110, 101]⟩ [st, fu] = t at hl3 ⊢
      go_enter Tryz.func58, Tryz.ntmps58
      go_wp2_with fail
      refine hl3.out.mono ?_
      rintro e w1 ⟨rfl, hb⟩
      have hb' := Lib.hid (Below.next hb2.out hb)
      clear hb
      go_wp2
      go_ret
      exact ⟨rfl, hb'.out⟩
    · have e : askedT k st fu = lineT leakW [st, fu] := by unfold askedT; rw [if_neg k1, if_neg k2]
      rw [e]
      have hl3 := Lib.hid (hl2.out leakW (by decide))
      have hs : leakW = ⟨#[108, 101, 97, 107]⟩ := rfl
      rw [hs] at hl3 ⊢
      generalize lineT ⟨#[108, 101, 97, 107]⟩ [st, fu] = t at hl3 ⊢
      have k1' : (k == 1) = false := by simpa using k1
      have k2' : (k == 2) = false := by simpa using k2
      go_enter Tryz.func58, Tryz.ntmps58
      go_wp2_with fail
      refine hl3.out.mono ?_
      rintro e w1 ⟨rfl, hb⟩
      have hb' := Lib.hid (Below.next hb2.out hb)
      clear hb
      go_wp2
      go_ret
      exact ⟨rfl, hb'.out⟩

/-- what a reading gives: the kind, the stack, the fuel -/
def readV (k : Int) (l : List Int) : Int × Int := if k = 1 then (match l with | [f] => (0, min f 1000001) | _ => (0, 0)) else (match l with | [s, f] => (s, min f 1000001) | _ => (0, 0))
def ReadPost (k st fu : Int) (w : World) (e : Ending) (w' : World) : Prop := e = .returned (.agg #[.int .i64 k, .slice none 0 0, .slice none 0 0, .int .u64 st, .int .i64 fu]) ∧ Below w.heap.size w w'
end Go.Proofs.YtkbmckmlnphpmaaGreatDoor
namespace Go.Proofs.YtkbmckmlnphpmaaGreatDoor
open Go.RowKit Go.Lib Go.Shelf Go.MapKept
open Go.ChangeMaps (setBlock heap_setBlock_same heap_setBlock_other)

theorem run_mapUpdate_new {P : Program} {t k e : TypeId} (ht : P.underlying t = some (.map k e)) (hk : P.underlying k = some .string) {w : World} {b : Nat} {es : Array MapEntry} {clock : Nat}
    (hb : w.heap[b]? = some (.map es clock)) (n : ByteArray) (v : Value) (hno : Instr.findNow .string (.string n) es.toList 0 = some none) :
    (Instr.mapUpdate t (.map (some b)) (.string n) v).run P w = .ok () (setBlock w b (.map (es.push ⟨.string n, v, clock⟩) (clock + 1))) := by
  have hik : IsKey .string (.string n) := by simp [IsKey]
  simp [Instr.mapUpdate, run_underlying ht, Go.MapKept.run_getObj_map hb, run_checkKey hk hik, run_findKey hk hno, run_setObj_map _ hb, Result.andThen]
  rfl

theorem run_lookup_lit {P : Program} {t k e : TypeId} (ht : P.underlying t = some (.map k e)) (hk : P.underlying k = some .string) {w : World} {b : Nat} {es : Array MapEntry} {clock : Nat}
    (hb : w.heap[b]? = some (.map es clock)) (n : ByteArray) (v : Value) (i : Nat) (hf : Instr.findNow .string (.string n) es.toList 0 = some (some (i, v))) :
    (Instr.lookup t (.map (some b)) (.string n) false).run P w = .ok v w := by
  have hik : IsKey .string (.string n) := by simp [IsKey]
  simp [Instr.lookup, run_underlying ht, Go.MapKept.run_getObj_map hb, run_checkKey hk hik, run_findKey hk hf, Result.andThen]

theorem run_lookup_none {P : Program} {t k e : TypeId} (ht : P.underlying t = some (.map k e)) (hk : P.underlying k = some .string) {w : World} {b : Nat} {es : Array MapEntry} {clock : Nat}
    (hb : w.heap[b]? = some (.map es clock)) (n : ByteArray) (z : Value) (hz : (zeroValue e).run P w = .ok z w) (hf : Instr.findNow .string (.string n) es.toList 0 = some none) :
    (Instr.lookup t (.map (some b)) (.string n) false).run P w = .ok z w := by
  have hik : IsKey .string (.string n) := by simp [IsKey]
  simp [Instr.lookup, run_underlying ht, Go.MapKept.run_getObj_map hb, run_checkKey hk hik, run_findKey hk hf, hz, Result.andThen]

/-- A block of one cell that holds v. -/
def HasCell (w : World) (p : Nat) (v : Value) : Prop := ∃ t, w.heap[p]? = some (.cells #[v] t (0, 0))
/-- A MAP THAT THE CALL BUILDS: block b of w, made since w0, whose entries are written out; boxes of one cell that the call has made; nothing that was there in w0 has turned. -/
def BM (w0 w : World) (b : Nat) (es : Array MapEntry) (clock : Nat) (cs : List (Nat × Value)) : Prop :=
  w.heap[b]? = some (.map es clock) ∧ Below w0.heap.size w0 w ∧ w0.heap.size ≤ b ∧ ∀ x ∈ cs, HasCell w x.1 x.2 ∧ x.1 ≠ b ∧ w0.heap.size ≤ x.1

theorem BM.made {w0 w : World} (h : Below w0.heap.size w0 w) : BM w0 (w.alloc (.map #[] 0)) w.heap.size #[] 0 [] :=
  ⟨(heap_alloc w _).1, h.alloc h.size _, h.size, by simp⟩
theorem BM.insert {w0 w : World} {b : Nat} {es es' : Array MapEntry} {clock clock' : Nat} {cs : List (Nat × Value)} (h : BM w0 w b es clock cs) : BM w0 (setBlock w b (.map es' clock')) b es' clock' cs := by
  obtain ⟨hb, hl, hB, hc⟩ := h
  refine ⟨heap_setBlock_same hb _, ⟨hl.os, hl.tape, hl.output, by simpa [setBlock] using hl.size, fun k hk => (heap_setBlock_other hb _ (by omega)).trans (hl.block k hk)⟩, hB, ?_⟩
  intro x hx
  obtain ⟨⟨t, ht⟩, hne, hle⟩ := hc x hx
  exact ⟨⟨t, (heap_setBlock_other hb _ hne).trans ht⟩, hne, hle⟩
theorem BM.box {w0 w : World} {b : Nat} {es : Array MapEntry} {clock : Nat} {cs : List (Nat × Value)} (h : BM w0 w b es clock cs) (v : Value) (t : TypeId) : BM w0 (w.alloc (.cells #[v] t)) b es clock ((w.heap.size, v) :: cs) := by
  obtain ⟨hb, hl, hB, hc⟩ := h
  have hbl := lt_of_block hb
  refine ⟨((heap_alloc w _).2 b hbl).trans hb, hl.alloc hl.size _, hB, ?_⟩
  intro x hx
  rcases List.mem_cons.1 hx with rfl | hx
  · exact ⟨⟨t, (heap_alloc w _).1⟩, by dsimp only; omega, hl.size⟩
  · obtain ⟨⟨t', ht⟩, hne, hle⟩ := hc x hx
    exact ⟨⟨t', ((heap_alloc w _).2 _ (lt_of_block ht)).trans ht⟩, hne, hle⟩

def BoxOf (w w' : World) (v : Value) : Prop := ∃ t, w' = w.alloc (.cells #[v] t)
theorem BM.boxed {w0 w w' : World} {b : Nat} {es : Array MapEntry} {clock : Nat} {cs : List (Nat × Value)} {v : Value} (h : BM w0 w b es clock cs) (hx : BoxOf w w' v) : BM w0 w' b es clock ((w.heap.size, v) :: cs) := by
  obtain ⟨t, rfl⟩ := hx
  exact h.box v t

theorem wpList_insert_new {P : Program} {w0 : World} (w : World) {ops : Array Oper} {rest : List Oper} {o : Oper} {a : Act} {Q : Exit → Act → World → Prop}
    (hg : o.guard = none) (m x v : Operand) (t : TypeId) (hop : o.op = Op.insert t m x v)
    (k e : TypeId) (ht : P.underlying t = some (.map k e)) (hk : P.underlying k = some .string) (b : Nat) (n : ByteArray) (val : Value) (es : Array MapEntry) (clock : Nat) (cs : List (Nat × Value))
    (hm : a.eval m = .map (some b)) (hx : a.eval x = .string n) (hv : a.eval v = val) (hb : BM w0 w b es clock cs)
    (hno : Instr.findNow .string (.string n) es.toList 0 = some none)
    (hK : ∀ w', BM w0 w' b (es.push ⟨.string n, val, clock⟩) (clock + 1) cs → wpList P ops Q rest (a.put o.dst undef) w') :
    wpList P ops Q (o :: rest) a w := by
  refine wpList_plain hg fun K' hK' => ?_
  have hrun := run_mapUpdate_new ht hk hb.1 n val hno
  unfold Oper.wp
  simp [execOp, hop, hm, hx, hv, hrun, Result.andThen]
  exact hK' _ _ (hK _ hb.insert)

set_option maxHeartbeats 400000 in
theorem stackOf_any (k : Int) (w : World) :
    Calls Tryz.prog 86 #[.int .i64 k] w fun e w' => e = .returned (.func (.func 87) #[] #[.pointer (some ⟨w.heap.size, 0, none⟩)]) ∧ BoxOf w w' (.int .i64 k) := by
  go_enter Tryz.func86, Tryz.ntmps86
  go_wp2
  go_ret
  exact ⟨rfl, 36, rfl⟩
def readEs (p2 p3 : Nat) : Array MapEntry := #[⟨.string srcW, .func (.func 88) #[] #[], 0⟩, ⟨.string macW, .func (.func 87) #[] #[.pointer (some ⟨p2, 0, none⟩)], 1⟩, ⟨.string leakW, .func (.func 87) #[] #[.pointer (some ⟨p3, 0, none⟩)], 2⟩]
def ReadsPost (w : World) (e : Ending) (w' : World) : Prop :=
  ∃ b p2 p3, e = .returned (.map (some b)) ∧ BM w w' b (readEs p2 p3) 3 [(p3, .int .i64 3), (p2, .int .i64 2)]
set_option maxHeartbeats 1000000 in
theorem readings_any (w : World) : Calls Tryz.prog 57 #[] w (ReadsPost w) := by
  have hmm := @run_makeMap Tryz.prog
  have hbm : BM w (w.alloc (.map #[] 0)) w.heap.size #[] 0 [] := BM.made (Below.refl _ _)
  go_enter Tryz.func57, Tryz.ntmps57
  go_wp2_with (first | (refine wpList_insert_new (w0 := w) _ rfl _ _ _ _ rfl _ _ Tryz.underlying95 Tryz.underlying9 _ _ _ _ _ _ rfl rfl rfl hbm rfl ?_; clear hbm; intro w1 hbm; simp [Act.eval, Act.put] at hbm) | (go_at_call 86; refine (stackOf_any _ _).mono ?_; rintro e w1 ⟨rfl, hbx⟩; replace hbm := hbm.boxed hbx; clear hbx))
  go_ret
  exact ⟨_, _, _, rfl, hbm⟩
set_option maxRecDepth 100000 in
set_option maxHeartbeats 2000000 in
theorem readSrc_any (A : Option Addr) (n c : Nat) (l : List Int) (w : World) (hl : l.length = n) (hw : WAt w A l) :
    Calls Tryz.prog 88 #[.slice A n c] w (ReadPost 1 (readV 1 l).1 (readV 1 l).2 w) := by
  by_cases h : n = 1
  · subst h
    obtain ⟨blk, off, x, rfl, hx, cx, x0, x1⟩ := hw.at_ (k := 0) (by omega)
    have hl2 : l = [x] := by
      match l, hl, hx with
      | [y], _, hx => cases hx; rfl
    subst hl2
    have cx : w.cell? ⟨blk, off, none⟩ = some (.int .u64 x) := cx
    have hlt := cell_some_lt cx
    by_cases hm : x ≤ 1000001
    · have hmin : min x 1000001 = x := by omega
      have hwr : IntKind.i64.wrap x = x := by rw [wrap_small x (by omega) (by omega)]
      have hrd : readV 1 [x] = (0, x) := by unfold readV; rw [if_pos rfl]; dsimp only; rw [hmin]
      rw [hrd]
      clear hrd
      go_enter Tryz.func88, Tryz.ntmps88
      go_wp2
      refine bodyPost_ret (v := .agg #[.int .i64 1, .slice none 0 0, .slice none 0 0, .int .u64 0, .int .i64 x]) (by simp [results, Tryz.results88, go_sem]) rfl ⟨rfl, ?_⟩
      exact ((Below.refl w.heap.size w).alloc (Nat.le_refl _) _).alloc (by simp) _
    · have hmin : min x 1000001 = 1000001 := by omega
      have hrd : readV 1 [x] = (0, 1000001) := by unfold readV; rw [if_pos rfl]; dsimp only; rw [hmin]
      rw [hrd]
      clear hrd
      go_enter Tryz.func88, Tryz.ntmps88
      go_wp2
      refine bodyPost_ret (v := .agg #[.int .i64 1, .slice none 0 0, .slice none 0 0, .int .u64 0, .int .i64 1000001]) (by simp [results, Tryz.results88, go_sem]) rfl ⟨rfl, ?_⟩
      exact ((Below.refl w.heap.size w).alloc (Nat.le_refl _) _).alloc (by simp) _
  · have e0 : ¬ ((n : Int) = 1) := by omega
    have hr : readV 1 l = (0, 0) := by
      unfold readV
      rw [if_pos rfl]
      match l, hl with
      | [], _ => rfl
      | [x], hl => exact absurd hl.symm h
      | _ :: _ :: _, _ => rfl
    rw [hr]
    go_enter Tryz.func88, Tryz.ntmps88
    go_wp2
    refine bodyPost_ret (v := .agg #[.int .i64 1, .slice none 0 0, .slice none 0 0, .int .u64 0, .int .i64 0]) (by simp [results, Tryz.results88, go_sem]) rfl ⟨rfl, ?_⟩
    exact ((Below.refl w.heap.size w).alloc (Nat.le_refl _) _).alloc (by simp) _
set_option maxRecDepth 100000 in
set_option maxHeartbeats 2000000 in
theorem readTwo_any (k : Int) (hk : k ≠ 1) (b : Nat) (A : Option Addr) (n c : Nat) (l : List Int) (w : World) (hl : l.length = n) (hw : WAt w A l) (hb : w.cell? ⟨b, 0, none⟩ = some (.int .i64 k)) :
    Calls Tryz.prog 87 #[.slice A n c, .pointer (some ⟨b, 0, none⟩)] w (ReadPost k (readV k l).1 (readV k l).2 w) := by
  have hbl := cell_some_lt hb
  by_cases h : n = 2
  · subst h
    obtain ⟨blk, off, x, rfl, hx, cx, x0, x1⟩ := hw.at_ (k := 0) (by omega)
    obtain ⟨blk', off', y, e2, hy, cy, y0, y1⟩ := hw.at_ (k := 1) (by omega)
    injection e2 with e2
    injection e2 with e2 e3
    subst e2 e3
    have hl2 : l = [x, y] := by
      match l, hl, hx, hy with
      | [z, z'], _, hx, hy => cases hx; cases hy; rfl
    subst hl2
    have cx : w.cell? ⟨blk, off, none⟩ = some (.int .u64 x) := cx
    have hlt := cell_some_lt cx
    by_cases hm : y ≤ 1000001
    · have hmin : min y 1000001 = y := by omega
      have hwr : IntKind.i64.wrap y = y := by rw [wrap_small y (by omega) (by omega)]
      have hrd : readV k [x, y] = (x, y) := by unfold readV; rw [if_neg hk]; dsimp only; rw [hmin]
      rw [hrd]
      clear hrd
      go_enter Tryz.func87, Tryz.ntmps87
      go_wp2
      go_region
      all_goals
        go_wp2
        refine bodyPost_ret (v := .agg #[.int .i64 k, .slice none 0 0, .slice none 0 0, .int .u64 x, .int .i64 y]) (by simp [results, Tryz.results87, go_sem]) rfl ⟨rfl, ?_⟩
        first
          | exact (((Below.refl w.heap.size w).alloc (Nat.le_refl _) _).alloc (by simp) _).drew
          | exact ((Below.refl w.heap.size w).alloc (Nat.le_refl _) _).alloc (by simp) _
    · have hmin : min y 1000001 = 1000001 := by omega
      have hrd : readV k [x, y] = (x, 1000001) := by unfold readV; rw [if_neg hk]; dsimp only; rw [hmin]
      rw [hrd]
      clear hrd
      go_enter Tryz.func87, Tryz.ntmps87
      go_wp2
      go_region
      all_goals
        go_wp2
        refine bodyPost_ret (v := .agg #[.int .i64 k, .slice none 0 0, .slice none 0 0, .int .u64 x, .int .i64 1000001]) (by simp [results, Tryz.results87, go_sem]) rfl ⟨rfl, ?_⟩
        first
          | exact (((Below.refl w.heap.size w).alloc (Nat.le_refl _) _).alloc (by simp) _).drew
          | exact ((Below.refl w.heap.size w).alloc (Nat.le_refl _) _).alloc (by simp) _
  · have e0 : ¬ ((n : Int) = 2) := by omega
    have hr : readV k l = (0, 0) := by
      unfold readV
      rw [if_neg hk]
      match l, hl with
      | [], _ => rfl
      | [x], _ => rfl
      | [_, _], hl => exact absurd hl.symm h
      | _ :: _ :: _ :: _, _ => rfl
    rw [hr]
    go_enter Tryz.func87, Tryz.ntmps87
    go_wp2
    refine bodyPost_ret (v := .agg #[.int .i64 k, .slice none 0 0, .slice none 0 0, .int .u64 0, .int .i64 0]) (by simp [results, Tryz.results87, go_sem]) rfl ⟨rfl, ?_⟩
    exact ((Below.refl w.heap.size w).alloc (Nat.le_refl _) _).alloc (by simp) _
end Go.Proofs.YtkbmckmlnphpmaaGreatDoor
namespace Go.Proofs.YtkbmckmlnphpmaaGreatDoor
open Go.RowKit Go.Lib Go.Shelf Go.MapKept
open Go.ChangeMaps (setBlock heap_setBlock_same heap_setBlock_other)

def zAsk : Array Value := #[.int .i64 0, .slice none 0 0, .slice none 0 0, .int .u64 0, .int .i64 0]
def kindM (p : ByteArray) : Option Int := if p = srcW then some 1 else if p = macW then some 2 else if p = leakW then some 3 else none
/-- the kind, stack and fuel that a line tells -/
def unlineM (s : ByteArray) : Option (Int × Int × Int) :=
  match unwM s with
  | none => none
  | some (p, l) =>
    match kindM p with
    | none => none
    | some k => if mayV k 0 0 (readV k l).1 (readV k l).2 true = true ∧ askedT k (readV k l).1 (readV k l).2 = s then some (k, (readV k l).1, (readV k l).2) else none
def UnlPost (s : ByteArray) (w : World) (e : Ending) (w' : World) : Prop :=
  (unlineM s = none → e = .returned (.tuple #[.agg zAsk, .int .i64 15])) ∧ (∀ k st fu, unlineM s = some (k, st, fu) → e = .returned (.tuple #[.agg #[.int .i64 k, .slice none 0 0, .slice none 0 0, .int .u64 st, .int .i64 fu], .int .i64 0])) ∧ Below w.heap.size w w'

theorem str_ne {a b : ByteArray} (h : a ≠ b) : (a == b) = false := by
  have e : (a == b) = (a.data == b.data) := rfl
  rw [e]
  have : a.data ≠ b.data := fun e => h (by cases a; cases b; simp at e; rw [e])
  simpa using this
theorem find_no (p : ByteArray) (h : kindM p = none) (p2 p3 : Nat) : Instr.findNow .string (.string p) (readEs p2 p3).toList 0 = some none := by
  have h1 : p ≠ srcW := fun e => by subst e; simp [kindM] at h
  have h2 : p ≠ macW := fun e => by subst e; revert h; unfold kindM; rw [if_neg (by decide)]; simp
  have h3 : p ≠ leakW := fun e => by subst e; revert h; unfold kindM; rw [if_neg (by decide), if_neg (by decide)]; simp
  have t1 : (p == srcW) = false := str_ne h1
  have t2 : (p == macW) = false := str_ne h2
  have t3 : (p == leakW) = false := str_ne h3
  simp [readEs, Instr.findNow, Instr.sameNow, t1, t2, t3]
theorem box5 {W : World} {b : Nat} {v0 v1 v2 v3 v4 : Value} {t : TypeId} (h : W.heap[b]? = some (.cells #[v0, v1, v2, v3, v4] t (0, 0))) :
    W.cell? ⟨b, 0, none⟩ = some v0 ∧ W.cell? ⟨b, 1, none⟩ = some v1 ∧ W.cell? ⟨b, 2, none⟩ = some v2 ∧ W.cell? ⟨b, 3, none⟩ = some v3 ∧ W.cell? ⟨b, 4, none⟩ = some v4 ∧ ∀ k, W.frozen? ⟨b, k, none⟩ = false :=
  ⟨by rw [blk_cell h]; rfl, by rw [blk_cell h]; rfl, by rw [blk_cell h]; rfl, by rw [blk_cell h]; rfl, by rw [blk_cell h]; rfl, fun k => by simp [World.frozen?, h]⟩
theorem run_func_nil (k : Nat) (cs : Array Value) (w : World) : (binOp BinOp.eql 94 (.func (.func k) #[] cs) .nilFunc).run Tryz.prog w = .ok (.bool false) w := by kernel_rfl
theorem run_nil_nil (w : World) : (binOp BinOp.eql 94 .nilFunc .nilFunc).run Tryz.prog w = .ok (.bool true) w := by kernel_rfl
theorem zero94 (w : World) : (zeroValue 94).run Tryz.prog w = .ok .nilFunc w := by kernel_rfl
theorem box_kept (w : World) (Z : Array Value) {W : World} (hb : Below (w.alloc (.cells Z 42)).heap.size (w.alloc (.cells Z 42)) W) : W.heap[w.heap.size]? = some (.cells Z 42 (0, 0)) :=
  (hb.block _ (by simp)).trans (heap_alloc_new w _)

set_option maxRecDepth 100000 in
set_option maxHeartbeats 2000000 in
theorem unline_none1 (s : ByteArray) (w : World) (hE : Env w) (hs : s.size ≤ 2000000) (hu : unwM s = none) : Calls Tryz.prog 21 #[.string s] w (UnlPost s w) := by
  have hm := Lib.hid (show unlineM s = none by unfold unlineM; rw [hu])
  have hb0 := Lib.hid ((Below.refl w.heap.size w).alloc (Nat.le_refl _) (.cells zAsk 42))
  have hk := Lib.hid ((unwords_any s (w.alloc (.cells zAsk 42)) (hE.below hb0.out) hs).mono fun e w' h => (show e = .returned (.tuple #[.string ⟨#[]⟩, .slice none 0 0, .int .i64 15]) ∧ Below (w.alloc (.cells zAsk 42)).heap.size (w.alloc (.cells zAsk 42)) w' from ⟨h.1 hu, h.2.2⟩))
  clear hE hu
  unfold zAsk at hb0 hk
  go_enter Tryz.func21, Tryz.ntmps21
  go_wp2_with fail
  refine hk.out.mono ?_
  rintro e w1 ⟨rfl, hb1⟩
  have hb1' := Lib.hid hb1
  clear hb1
  go_wp2_with fail
  refine (readings_any _).mono ?_
  rintro e w2 ⟨b, p2, p3, rfl, hbm⟩
  have hlk := run_lookup_none Tryz.underlying95 Tryz.underlying9 hbm.1 ⟨#[]⟩ _ (zero94 w2) (find_no ⟨#[]⟩ (by decide) p2 p3)
  have hb2 := Below.next hb1'.out hbm.2.1
  have hb2' := Lib.hid hb2
  obtain ⟨g0, g1, g2, g3, g4, gf⟩ := box5 (box_kept w _ hb2)
  have hsz := hb2.size
  have hsz2 : w.heap.size < w2.heap.size := by simp at hsz; omega
  have hfin := Lib.hid (hb0.out.trans (hb2.mono hb0.out.size))
  clear hb2 hbm hsz
  go_wp2_with fail
  refine bodyPost_ret (v := .tuple #[.agg zAsk, .int .i64 15]) (by simp [results, Tryz.results21, go_sem, zAsk, g0, g1, g2, g3, g4]) rfl ⟨fun _ => rfl, fun k st fu h => ?_, ?_⟩
  · rw [hm.out] at h; cases h
  · exact ((((hfin.out.setCell (by simp) _).setCell (by simp) _).setCell (by simp) _).setCell (by simp) _).setCell (by simp) _

set_option maxRecDepth 100000 in
set_option maxHeartbeats 2000000 in
theorem unline_none2 (s p : ByteArray) (l : List Int) (w : World) (hE : Env w) (hs : s.size ≤ 2000000) (hu : unwM s = some (p, l)) (hp : kindM p = none) : Calls Tryz.prog 21 #[.string s] w (UnlPost s w) := by
  have hm := Lib.hid (show unlineM s = none by unfold unlineM; rw [hu]; dsimp only; rw [hp])
  have hb0 := Lib.hid ((Below.refl w.heap.size w).alloc (Nat.le_refl _) (.cells zAsk 42))
  have hk := Lib.hid ((unwords_any s (w.alloc (.cells zAsk 42)) (hE.below hb0.out) hs).mono fun e w' h => (show ∃ A c, e = .returned (.tuple #[.string p, .slice A l.length c, .int .i64 0]) ∧ Below (w.alloc (.cells zAsk 42)).heap.size (w.alloc (.cells zAsk 42)) w' from by
    obtain ⟨A, c, h1, _⟩ := h.2.1 p l hu
    exact ⟨A, c, h1, h.2.2⟩))
  have hfn := Lib.hid (find_no p hp)
  clear hE hu hp
  unfold zAsk at hb0 hk
  go_enter Tryz.func21, Tryz.ntmps21
  go_wp2_with fail
  refine hk.out.mono ?_
  rintro e w1 ⟨A, c, rfl, hb1⟩
  have hb1' := Lib.hid hb1
  clear hb1
  go_wp2_with fail
  refine (readings_any _).mono ?_
  rintro e w2 ⟨b, p2, p3, rfl, hbm⟩
  have hlk := run_lookup_none Tryz.underlying95 Tryz.underlying9 hbm.1 p _ (zero94 w2) (hfn.out p2 p3)
  have hb2 := Below.next hb1'.out hbm.2.1
  obtain ⟨g0, g1, g2, g3, g4, gf⟩ := box5 (box_kept w _ hb2)
  have hsz := hb2.size
  have hsz2 : w.heap.size < w2.heap.size := by simp at hsz; omega
  have hnn := run_nil_nil
  have hfin := Lib.hid (hb0.out.trans (hb2.mono hb0.out.size))
  clear hb2 hbm hsz
  go_wp2_with fail
  refine bodyPost_ret (v := .tuple #[.agg zAsk, .int .i64 15]) (by simp [results, Tryz.results21, go_sem, zAsk, g0, g1, g2, g3, g4]) rfl ⟨fun _ => rfl, fun k st fu h => ?_, ?_⟩
  · rw [hm.out] at h; cases h
  · exact ((((hfin.out.setCell (by simp) _).setCell (by simp) _).setCell (by simp) _).setCell (by simp) _).setCell (by simp) _

set_option maxRecDepth 100000 in
set_option maxHeartbeats 4000000 in
theorem unline_some (s p : ByteArray) (l : List Int) (k : Int) (f : Nat) (caps : Nat → Nat → Array Value) (w : World) (hE : Env w) (hs : s.size ≤ 2000000) (hu : unwM s = some (p, l)) (hp : kindM p = some k)
    (hfound : ∀ p2 p3, ∃ i, Instr.findNow .string (.string p) (readEs p2 p3).toList 0 = some (some (i, .func (.func f) #[] (caps p2 p3))))
    (hread : ∀ (W : World) (A : Option Addr) (c p2 p3 : Nat), WAt W A l → W.cell? ⟨p2, 0, none⟩ = some (.int .i64 2) → W.cell? ⟨p3, 0, none⟩ = some (.int .i64 3) → Calls Tryz.prog f (#[.slice A l.length c] ++ caps p2 p3) W (ReadPost k (readV k l).1 (readV k l).2 W))
    (hr1 : 0 ≤ (readV k l).1 ∧ (readV k l).1 ≤ 18446744073709551615)
    (hent : ∀ (args : Array Value) (w2 : World), (callFunc f args).run Tryz.prog w2 = .ok (.enter f args) w2) : Calls Tryz.prog 21 #[.string s] w (UnlPost s w) := by
  obtain ⟨st, hst⟩ : ∃ st, (readV k l).1 = st := ⟨_, rfl⟩
  obtain ⟨fu, hfu⟩ : ∃ fu, (readV k l).2 = fu := ⟨_, rfl⟩
  have hm := Lib.hid (show unlineM s = if mayV k 0 0 st fu true = true ∧ askedT k st fu = s then some (k, st, fu) else none by unfold unlineM; rw [hu]; dsimp only; rw [hp]; dsimp only; rw [hst, hfu])
  rw [hst, hfu] at hread
  rw [hst] at hr1
  have hb0 := Lib.hid ((Below.refl w.heap.size w).alloc (Nat.le_refl _) (.cells zAsk 42))
  have hk := Lib.hid ((unwords_any s (w.alloc (.cells zAsk 42)) (hE.below hb0.out) hs).mono fun e w' h => (show ∃ A c, e = .returned (.tuple #[.string p, .slice A l.length c, .int .i64 0]) ∧ WAt w' A l ∧ Below (w.alloc (.cells zAsk 42)).heap.size (w.alloc (.cells zAsk 42)) w' from by
    obtain ⟨A, c, h1, h2⟩ := h.2.1 p l hu
    exact ⟨A, c, h1, h2.wat, h.2.2⟩))
  have hT := Lib.hid hE.tab
  have hr1' := Lib.hid hr1
  clear hE hu hp hst hfu hr1
  unfold zAsk at hb0 hk
  go_enter Tryz.func21, Tryz.ntmps21
  go_wp2_with fail
  refine hk.out.mono ?_
  rintro e w1 ⟨A, c, rfl, hwa, hb1⟩
  have hb1' := Lib.hid hb1
  clear hb1
  go_wp2_with fail
  refine (readings_any _).mono ?_
  rintro e w2 ⟨b, p2, p3, rfl, hbm⟩
  have hnf := run_func_nil
  obtain ⟨i, hfi⟩ := hfound p2 p3
  have hlk := run_lookup_lit Tryz.underlying95 Tryz.underlying9 hbm.1 p _ i hfi
  have hb2 := Below.next hb1'.out hbm.2.1
  have hcs := hbm.2.2.2
  have hc2 : w2.cell? ⟨p2, 0, none⟩ = some (.int .i64 2) := by
    obtain ⟨⟨t, ht⟩, _, _⟩ := hcs (p2, .int .i64 2) (by simp)
    rw [blk_cell ht]; rfl
  have hc3 : w2.cell? ⟨p3, 0, none⟩ = some (.int .i64 3) := by
    obtain ⟨⟨t, ht⟩, _, _⟩ := hcs (p3, .int .i64 3) (by simp)
    rw [blk_cell ht]; rfl
  have hrd := Lib.hid (hread w2 A c p2 p3 (hwa.below hbm.2.1) hc2 hc3)
  have hb2' := Lib.hid hb2
  clear hb2 hbm hfi hfound hread hwa hcs hc2 hc3
  go_wp2_with fail
  refine hrd.out.mono ?_
  rintro e w3 ⟨rfl, hb3⟩
  have hb3' := Lib.hid (Below.next hb2'.out hb3)
  clear hb3 hent hlk hnf hrd
  have hfr : Below w.heap.size w w3 := hb0.out.trans (hb3'.out.mono hb0.out.size)
  have hfr' := Lib.hid hfr
  have hsz3 := hb3'.out.size
  have hsz3' : w.heap.size < w3.heap.size := by simp at hsz3; omega
  clear hfr hsz3
  obtain ⟨mb, hmb⟩ : ∃ mb, mayV k 0 0 st fu true = mb := ⟨_, rfl⟩
  have hmay := Lib.hid fun W => may_any k none none 0 0 0 0 [] st fu W rfl (fun h => absurd h (by decide)) (by omega) (by omega)
  have hsb : shortB [] = true := rfl
  rw [hsb, hmb] at hmay
  have hal := Lib.hid (heap_alloc_new w3 (.cells #[.int .i64 k, .slice none 0 0, .slice none 0 0, .int .u64 st, .int .i64 fu] 42))
  have hbz := box_kept w _ hb3'.out
  cases mb
  · have hm := Lib.hid (show unlineM s = none by rw [hm.out, hmb]; simp)
    clear hmb hsb
    go_wp2_with fail
    refine (hmay.out _).mono ?_
    rintro e w4 ⟨rfl, hb4⟩
    obtain ⟨g0, g1, g2, g3, g4, gf⟩ := box5 ((hb4.block _ (by simp; omega)).trans ((heap_alloc_old w3 _ hsz3').trans hbz))
    have hsz4 := hb4.size
    have hsz4' : w.heap.size < w4.heap.size := by simp at hsz4; omega
    have hfin := Lib.hid (show Below w.heap.size w w4 from (hfr'.out.alloc hfr'.out.size _).trans (hb4.mono (by simp; omega)))
    clear hb4 hsz4 hbz
    go_wp2_with fail
    refine bodyPost_ret (v := .tuple #[.agg zAsk, .int .i64 15]) (by simp [results, Tryz.results21, go_sem, zAsk, g0, g1, g2, g3, g4]) rfl ⟨fun _ => rfl, fun k st fu h => ?_, ?_⟩
    · rw [hm.out] at h; cases h
    · exact ((((hfin.out.setCell (by simp) _).setCell (by simp) _).setCell (by simp) _).setCell (by simp) _).setCell (by simp) _
  · have hmb' := Lib.hid hmb
    have hf01 : 0 ≤ fu ∧ fu ≤ 1000000 := by
      unfold mayV at hmb
      simp only [Bool.and_eq_true, decide_eq_true_eq] at hmb
      omega
    have hask := Lib.hid fun W hW => asked_any k none none 0 0 0 0 st fu W hW hr1'.out.1 hr1'.out.2 hf01.1 hf01.2
    clear hmb hsb hf01
    obtain ⟨t, ht⟩ : ∃ t, askedT k st fu = t := ⟨_, rfl⟩
    rw [ht] at hask hm
    clear ht
    go_wp2_with fail
    refine (hmay.out _).mono ?_
    rintro e w4 ⟨rfl, hb4⟩
    have hbq : w4.heap[w3.heap.size]? = _ := (hb4.block _ (by simp)).trans hal.out
    obtain ⟨q0, q1, q2, q3, q4, qf⟩ := box5 hbq
    have hsz4 := hb4.size
    have hsz4' : w3.heap.size < w4.heap.size := by simp at hsz4; omega
    have hbz4 := Lib.hid ((hb4.block w.heap.size (by simp; omega)).trans ((heap_alloc_old w3 _ hsz3').trans hbz))
    have hfr4 := Lib.hid (show Below w.heap.size w w4 from (hfr'.out.alloc hfr'.out.size _).trans (hb4.mono (by simp; omega)))
    have hbq' := Lib.hid hbq
    clear hb4 hsz4 hbz hbq
    go_wp2_with fail
    refine (hask.out w4 (hT.out.below hfr4.out)).mono ?_
    rintro e w5 ⟨rfl, hb5⟩
    obtain ⟨g0, g1, g2, g3, g4, gf⟩ := box5 ((hb5.block _ (by omega)).trans hbz4.out)
    obtain ⟨q0, q1, q2, q3, q4, qf⟩ := box5 ((hb5.block _ hsz4').trans hbq'.out)
    have hsz5 := hb5.size
    have hsz5' : w.heap.size < w5.heap.size := by omega
    have hfin := Lib.hid (Below.next hfr4.out hb5)
    clear hb5
    by_cases hts : t = s
    · subst hts
      have hcmp : (t.toList == t.toList) = true := by simp
      have hmX := Lib.hid (show unlineM t = some (k, st, fu) from by rw [hm.out, if_pos ⟨hmb'.out, rfl⟩])
      go_wp2_with fail
      refine bodyPost_ret (v := .tuple #[.agg #[.int .i64 k, .slice none 0 0, .slice none 0 0, .int .u64 st, .int .i64 fu], .int .i64 0]) (by simp [results, Tryz.results21, go_sem, g0, g1, g2, g3, g4]) rfl ⟨fun h => ?_, fun k' st' fu' h => ?_, ?_⟩
      · rw [hmX.out] at h; cases h
      · rw [hmX.out] at h; cases h; rfl
      · exact ((((hfin.out.setCell (by simp) _).setCell (by simp) _).setCell (by simp) _).setCell (by simp) _).setCell (by simp) _
    · have hcmp : (t.toList == s.toList) = false := by rw [ByteArray.toList_eq, ByteArray.toList_eq]; simpa using fun e => hts (ext_bytes e)
      have hm := Lib.hid (show unlineM s = none by rw [hm.out, if_neg (fun h => hts h.2)])
      clear hts
      go_wp2_with fail
      refine bodyPost_ret (v := .tuple #[.agg zAsk, .int .i64 15]) (by simp [results, Tryz.results21, go_sem, zAsk, g0, g1, g2, g3, g4]) rfl ⟨fun _ => rfl, fun k st fu h => ?_, ?_⟩
      · rw [hm.out] at h; cases h
      · exact ((((hfin.out.setCell (by simp) _).setCell (by simp) _).setCell (by simp) _).setCell (by simp) _).setCell (by simp) _

theorem readV_fst {k : Int} {l : List Int} (h : ∀ x ∈ l, 0 ≤ x ∧ x ≤ 18446744073709551615) : 0 ≤ (readV k l).1 ∧ (readV k l).1 ≤ 18446744073709551615 := by
  unfold readV
  split
  · match l with
    | [] => exact ⟨Int.le_refl 0, by show (0 : Int) ≤ _; omega⟩
    | [_] => exact ⟨Int.le_refl 0, by show (0 : Int) ≤ _; omega⟩
    | _ :: _ :: _ => exact ⟨Int.le_refl 0, by show (0 : Int) ≤ _; omega⟩
  · match l, h with
    | [], _ => exact ⟨Int.le_refl 0, by show (0 : Int) ≤ _; omega⟩
    | [_], _ => exact ⟨Int.le_refl 0, by show (0 : Int) ≤ _; omega⟩
    | [a, b], h => exact h a (by simp)
    | _ :: _ :: _ :: _, _ => exact ⟨Int.le_refl 0, by show (0 : Int) ≤ _; omega⟩
theorem unw_range {s p : ByteArray} {l : List Int} (h : unwM s = some (p, l)) : ∀ x ∈ l, 0 ≤ x ∧ x ≤ 18446744073709551615 := by
  unfold unwM at h
  split at h
  · cases hm : numsM (partsB s).tail with
    | none => rw [hm] at h; cases h
    | some l' => rw [hm] at h; cases h; exact numsM_range _ _ hm
  · cases h
theorem unline_any (s : ByteArray) (w : World) (hE : Env w) (hs : s.size ≤ 2000000) : Calls Tryz.prog 21 #[.string s] w (UnlPost s w) := by
  cases hu : unwM s with
  | none => exact unline_none1 s w hE hs hu
  | some pl =>
    obtain ⟨p, l⟩ := pl
    cases hp : kindM p with
    | none => exact unline_none2 s p l w hE hs hu hp
    | some k =>
      have hr := readV_fst (k := k) (unw_range hu)
      by_cases h1 : p = srcW
      · subst h1
        have : k = 1 := by unfold kindM at hp; rw [if_pos rfl] at hp; cases hp; rfl
        subst this
        exact unline_some s srcW l 1 88 (fun _ _ => #[]) w hE hs hu hp (fun _ _ => ⟨0, rfl⟩) (fun W A c _ _ hw _ _ => readSrc_any A l.length c l W rfl hw) hr (fun args w2 => enters_of Tryz.func88 (by kernel_rfl) rfl args w2)
      · by_cases h2 : p = macW
        · subst h2
          have : k = 2 := by unfold kindM at hp; rw [if_neg h1, if_pos rfl] at hp; cases hp; rfl
          subst this
          exact unline_some s macW l 2 87 (fun p2 _ => #[.pointer (some ⟨p2, 0, none⟩)]) w hE hs hu hp (fun _ _ => ⟨1, rfl⟩) (fun W A c p2 _ hw hc _ => readTwo_any 2 (by decide) p2 A l.length c l W rfl hw hc) hr (fun args w2 => enters_of Tryz.func87 (by kernel_rfl) rfl args w2)
        · by_cases h3 : p = leakW
          · subst h3
            have : k = 3 := by unfold kindM at hp; rw [if_neg h1, if_neg h2, if_pos rfl] at hp; cases hp; rfl
            subst this
            exact unline_some s leakW l 3 87 (fun _ p3 => #[.pointer (some ⟨p3, 0, none⟩)]) w hE hs hu hp (fun _ _ => ⟨2, rfl⟩) (fun W A c _ p3 hw _ hc => readTwo_any 3 (by decide) p3 A l.length c l W rfl hw hc) hr (fun args w2 => enters_of Tryz.func87 (by kernel_rfl) rfl args w2)
          · unfold kindM at hp
            rw [if_neg h1, if_neg h2, if_neg h3] at hp
            cases hp
end Go.Proofs.YtkbmckmlnphpmaaGreatDoor
