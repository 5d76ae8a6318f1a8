/- Askings told: the reference's Small, May, Line; Line. -/
import Derived.Test.YtkbmckmlnphpmaaGreatDoorBE
import Derived.Test.YtkbmckmlnphpmaaGreatDoorQ
set_option linter.unusedSimpArgs false
set_option linter.unusedVariables false
namespace Go.Proofs.YtkbmckmlnphpmaaGreatDoor
open Go.RowKit Go.Lib Go.Shelf

def SmallPost (n1 n2 m : Nat) (R : List (List Int)) (w : World) (e : Ending) (w' : World) : Prop := ∃ b, e = .returned (.bool b) ∧ (b = true → n1 + n2 ≤ m ∧ ∀ ws ∈ R, ws.length ≤ m) ∧ Below w.heap.size w w'
theorem rows_any_len {R : List (List Int)} {n k : Nat} (h : ∀ (i : Nat) (ws : List Int), i < k → R[i]? = some ws → ws.length ≤ n) (hk : R.length ≤ k) : ∀ ws ∈ R, ws.length ≤ n := fun ws hws => by
  obtain ⟨i, hi⟩ := List.getElem?_of_mem hws
  exact h i ws (by have := (List.getElem?_eq_some_iff.1 hi).1; omega) hi

set_option maxRecDepth 100000 in
set_option maxHeartbeats 4000000 in
theorem refSmall_any (k : Int) (A1 A2 : Option Addr) (n1 c1 n2 c2 : Nat) (R : List (List Int)) (st fu : Int) (m : Nat) (w : World) (hR : R.length = n2) (hA : WsO w A2 R) (hn1 : n1 ≤ 17592186044416) (hn2 : n2 ≤ 17592186044416) (hm : m ≤ 4000) :
    Calls Tryz.prog 32 #[.agg #[.int .i64 k, .slice A1 n1 c1, .slice A2 n2 c2, .int .u64 st, .int .i64 fu], .int .i64 m] w (SmallPost n1 n2 m R w) := by
  have hR' := Lib.hid hR
  have hA' := Lib.hid hA
  have hb0 := Lib.hid ((Below.refl w.heap.size w).alloc (Nat.le_refl _) (.cells #[.int .i64 k, .slice A1 n1 c1, .slice A2 n2 c2, .int .u64 st, .int .i64 fu] 42))
  obtain ⟨g0, g1, g2, g3, g4, gf⟩ := box5 (heap_alloc_new w (.cells #[.int .i64 k, .slice A1 n1 c1, .slice A2 n2 c2, .int .u64 st, .int .i64 fu] 42))
  have hw0 : IntKind.i64.wrap ((n1 : Int) + (n2 : Int)) = (n1 : Int) + (n2 : Int) := by rw [IntKind.wrap_i64]; omega
  have hw1 : IntKind.i64.wrap ((m : Int) + 1) = (m : Int) + 1 := by rw [IntKind.wrap_i64]; omega
  clear hR hA
  go_enter Tryz.func32, Tryz.ntmps32
  go_wp2_with fail
  go_loopg [5, 6] n2 (fun g s5 s6 wr => ∃ (i N : Nat), i + g = n2 ∧ s6 = .int .i64 i ∧ s5 = .int .i64 N ∧ N ≤ 35184372088833 ∧ n1 + n2 ≤ N ∧ (N ≤ m → ∀ (j : Nat) (ws : List Int), j < i → R[j]? = some ws → ws.length ≤ m) ∧ (w.alloc (.cells #[.int .i64 k, .slice A1 n1 c1, .slice A2 n2 c2, .int .u64 st, .int .i64 fu] 42)) = wr)
  case atStart => exact ⟨0, n1 + n2, by omega, rfl, by go_num, by omega, Nat.le_refl _, fun _ j ws h => absurd h (Nat.not_lt_zero _), rfl⟩
  case round =>
    obtain ⟨i, N, hig, rfl, rfl, hN, hNn, hall, rfl⟩ := hrel
    have hall' := Lib.hid hall
    clear hall
    by_cases hNm : N ≤ m
    · have em : (N : Int) ≤ (m : Int) := by omega
      cases gk with
      | zero =>
        have e0 : ¬ ((i : Int) < (n2 : Int)) := by omega
        go_wp2
        go_ret
        exact ⟨true, ret_bool (by simp <;> omega), fun _ => ⟨by omega, rows_any_len (hall'.out hNm) (by rw [hR'.out]; omega)⟩, hb0.out⟩
      | succ g =>
        have e0 : (i : Int) < (n2 : Int) := by omega
        obtain ⟨blk, off, ws, B, cb, rfl, hws, v1, v2, _⟩ := (hA'.out.below hb0.out).at_ (k := i) (by rw [hR'.out]; omega)
        have hws' := Lib.hid hws
        clear hws
        by_cases hl : ws.length ≤ m
        · have el : ((ws.length : Int) ≤ (m : Int) + 1) := by omega
          have hmn : min (ws.length : Int) ((m : Int) + 1) = (ws.length : Int) := by omega
          have hw2 : IntKind.i64.wrap ((N : Int) + (ws.length : Int)) = (N : Int) + (ws.length : Int) := by rw [IntKind.wrap_i64]; omega
          go_wp2
          go_roundg g
          case measure => omega
          case rel =>
            refine ⟨i + 1, N + ws.length, by omega, by go_num, by go_num, by omega, by omega, fun h j ws2 hj hj2 => ?_, rfl⟩
            rcases Nat.lt_or_ge j i with h3 | h3
            · exact hall'.out (by omega) j ws2 h3 hj2
            · obtain rfl : j = i := by omega
              rw [hws'.out] at hj2
              cases hj2
              exact hl
        · have hmn : min (ws.length : Int) ((m : Int) + 1) = (m : Int) + 1 := by omega
          have hw2 : IntKind.i64.wrap ((N : Int) + ((m : Int) + 1)) = (N : Int) + ((m : Int) + 1) := by rw [IntKind.wrap_i64]; omega
          go_wp2
          go_roundg g
          case measure => omega
          case rel =>
            refine ⟨i + 1, N + (m + 1), by omega, by go_num, by go_num, by omega, by omega, fun h => absurd h (by omega), rfl⟩
    · have em : ¬ ((N : Int) ≤ (m : Int)) := by omega
      cases gk with
      | zero =>
        have e0 : ¬ ((i : Int) < (n2 : Int)) := by omega
        go_wp2
        go_ret
        exact ⟨false, ret_bool (by simp <;> omega), (fun h => by cases h), hb0.out⟩
      | succ g =>
        have e0 : (i : Int) < (n2 : Int) := by omega
        go_wp2
        go_ret
        exact ⟨false, ret_bool (by simp <;> omega), (fun h => by cases h), hb0.out⟩

set_option maxRecDepth 100000 in
set_option maxHeartbeats 4000000 in
theorem refMay_any (k : Int) (A1 A2 : Option Addr) (n1 c1 n2 c2 : Nat) (R : List (List Int)) (st fu : Int) (w : World) (hR : R.length = n2) (hA : WsO w A2 R) (hn1 : n1 ≤ 17592186044416) (hn2 : n2 ≤ 17592186044416) :
    Calls Tryz.prog 35 #[.agg #[.int .i64 k, .slice A1 n1 c1, .slice A2 n2 c2, .int .u64 st, .int .i64 fu]] w (BoolPost (mayV k n1 n2 st fu (shortB R)) w) := by
  have hR' := Lib.hid hR
  have hA' := Lib.hid hA
  have hb0 := Lib.hid ((Below.refl w.heap.size w).alloc (Nat.le_refl _) (.cells #[.int .i64 k, .slice A1 n1 c1, .slice A2 n2 c2, .int .u64 st, .int .i64 fu] 42))
  obtain ⟨g0, g1, g2, g3, g4, gf⟩ := box5 (heap_alloc_new w (.cells #[.int .i64 k, .slice A1 n1 c1, .slice A2 n2 c2, .int .u64 st, .int .i64 fu] 42))
  have hmay : ∀ b, mayV k n1 n2 st fu (shortB R) = b → Calls Tryz.prog 35 #[.agg #[.int .i64 k, .slice A1 n1 c1, .slice A2 n2 c2, .int .u64 st, .int .i64 fu]] w (BoolPost b w) → Calls Tryz.prog 35 #[.agg #[.int .i64 k, .slice A1 n1 c1, .slice A2 n2 c2, .int .u64 st, .int .i64 fu]] w (BoolPost (mayV k n1 n2 st fu (shortB R)) w) := fun b h hc => by rw [h]; exact hc
  clear hR hA
  by_cases k1 : k < 1
  · have j5 : ¬ 1 ≤ k := by omega
    refine hmay false (by simp [mayV, j5]) ?_
    clear hmay hA' hR'
    go_enter Tryz.func35, Tryz.ntmps35
    go_wp2
    go_ret
    exact ⟨rfl, hb0.out⟩
  · by_cases k2 : 3 < k
    · have j6 : ¬ k ≤ 3 := by omega
      refine hmay false (by simp [mayV, j6]) ?_
      clear hmay hA' hR'
      go_enter Tryz.func35, Tryz.ntmps35
      go_wp2
      go_ret
      exact ⟨rfl, hb0.out⟩
    · by_cases k3 : k = 1
      · subst k3
        by_cases k4 : st = 0
        · subst k4
          by_cases f1 : fu < 0
          · have j3 : ¬ 0 ≤ fu := by omega
            refine hmay false (by simp [mayV, j3]) ?_
            clear hmay hA' hR'
            go_enter Tryz.func35, Tryz.ntmps35
            go_wp2
            go_ret
            exact ⟨rfl, hb0.out⟩
          · by_cases f2 : 1000000 < fu
            · have j4 : ¬ fu ≤ 1000000 := by omega
              refine hmay false (by simp [mayV, j4]) ?_
              clear hmay hA' hR'
              go_enter Tryz.func35, Tryz.ntmps35
              go_wp2
              go_ret
              exact ⟨rfl, hb0.out⟩
            · by_cases i1 : (64 : Int) < (n1 : Int)
              · have j1 : ¬ n1 ≤ 64 := by omega
                refine hmay false (by simp [mayV, j1]) ?_
                clear hmay hA' hR'
                go_enter Tryz.func35, Tryz.ntmps35
                go_wp2
                go_ret
                exact ⟨rfl, hb0.out⟩
              · by_cases i2 : (16 : Int) < (n2 : Int)
                · have j2 : ¬ n2 ≤ 16 := by omega
                  refine hmay false (by simp [mayV, j2]) ?_
                  clear hmay hA' hR'
                  go_enter Tryz.func35, Tryz.ntmps35
                  go_wp2
                  go_ret
                  exact ⟨rfl, hb0.out⟩
                · refine hmay (shortB R) (by have j1 : n1 ≤ 64 := by omega
                                             have j2 : n2 ≤ 16 := by omega
                                             have j3 : 0 ≤ fu := by omega
                                             have j4 : fu ≤ 1000000 := by omega
                                             simp [mayV, j1, j2, j3, j4]) ?_
                  clear hmay
                  go_enter Tryz.func35, Tryz.ntmps35
                  go_wp2_with fail
                  go_loopg [3] n2 (fun g s3 wr => ∃ i : Nat, i + g = n2 ∧ s3 = .int .i64 i ∧ (∀ (j : Nat) (ws : List Int), j < i → R[j]? = some ws → ws.length ≤ 512) ∧ (w.alloc (.cells #[.int .i64 1, .slice A1 n1 c1, .slice A2 n2 c2, .int .u64 0, .int .i64 fu] 42)) = wr)
                  case atStart => exact ⟨0, by omega, rfl, fun j ws h => absurd h (Nat.not_lt_zero _), rfl⟩
                  case round =>
                    obtain ⟨i, hig, rfl, hall, rfl⟩ := hrel
                    have hall' := Lib.hid hall
                    clear hall
                    cases gk with
                    | zero =>
                      have e0 : ¬ ((i : Int) < (n2 : Int)) := by omega
                      have hs := Lib.hid (shortB_yes (W := R) fun j ws h => hall'.out j ws (by have := (List.getElem?_eq_some_iff.1 h).1; have := hR'.out; omega) h)
                      go_wp2
                      go_ret
                      exact ⟨ret_bool hs.out.symm, hb0.out⟩
                    | succ g =>
                      have e0 : (i : Int) < (n2 : Int) := by omega
                      obtain ⟨blk, off, ws, B, cb, rfl, hws, v1, v2, _⟩ := (hA'.out.below hb0.out).at_ (k := i) (by rw [hR'.out]; omega)
                      have hws' := Lib.hid hws
                      clear hws
                      by_cases hl : ws.length ≤ 512
                      · have el : ¬ (512 : Int) < (ws.length : Int) := by omega
                        go_wp2
                        go_roundg g
                        case measure => omega
                        case rel =>
                          refine ⟨i + 1, by omega, by go_num, fun j ws2 hj hj2 => ?_, rfl⟩
                          rcases Nat.lt_or_ge j i with h3 | h3
                          · exact hall'.out j ws2 h3 hj2
                          · obtain rfl : j = i := by omega
                            rw [hws'.out] at hj2
                            cases hj2
                            exact hl
                      · have el : (512 : Int) < (ws.length : Int) := by omega
                        have hs := Lib.hid (shortB_no hws'.out hl)
                        go_wp2
                        go_ret
                        exact ⟨ret_bool hs.out.symm, hb0.out⟩
        · have b4 : (st == 0) = false := by simpa using k4
          refine hmay false (by simp [mayV, k4]) ?_
          clear hmay hA' hR'
          go_enter Tryz.func35, Tryz.ntmps35
          go_wp2
          go_ret
          exact ⟨rfl, hb0.out⟩
      · have b3 : (k == 1) = false := by simpa using k3
        by_cases f1 : fu < 0
        · have j3 : ¬ 0 ≤ fu := by omega
          refine hmay false (by simp [mayV, j3]) ?_
          clear hmay hA' hR'
          go_enter Tryz.func35, Tryz.ntmps35
          go_wp2
          go_ret
          exact ⟨rfl, hb0.out⟩
        · by_cases f2 : 1000000 < fu
          · have j4 : ¬ fu ≤ 1000000 := by omega
            refine hmay false (by simp [mayV, j4]) ?_
            clear hmay hA' hR'
            go_enter Tryz.func35, Tryz.ntmps35
            go_wp2
            go_ret
            exact ⟨rfl, hb0.out⟩
          · by_cases i1 : (64 : Int) < (n1 : Int)
            · have j1 : ¬ n1 ≤ 64 := by omega
              refine hmay false (by simp [mayV, j1]) ?_
              clear hmay hA' hR'
              go_enter Tryz.func35, Tryz.ntmps35
              go_wp2
              go_ret
              exact ⟨rfl, hb0.out⟩
            · by_cases i2 : (16 : Int) < (n2 : Int)
              · have j2 : ¬ n2 ≤ 16 := by omega
                refine hmay false (by simp [mayV, j2]) ?_
                clear hmay hA' hR'
                go_enter Tryz.func35, Tryz.ntmps35
                go_wp2
                go_ret
                exact ⟨rfl, hb0.out⟩
              · refine hmay (shortB R) (by have j1 : n1 ≤ 64 := by omega
                                           have j2 : n2 ≤ 16 := by omega
                                           have j3 : 0 ≤ fu := by omega
                                           have j4 : fu ≤ 1000000 := by omega
                                           have j5 : 1 ≤ k := by omega
                                           have j6 : k ≤ 3 := by omega
                                           simp [mayV, j1, j2, j3, j4, j5, j6, k3]) ?_
                clear hmay
                go_enter Tryz.func35, Tryz.ntmps35
                go_wp2_with fail
                go_loopg [3] n2 (fun g s3 wr => ∃ i : Nat, i + g = n2 ∧ s3 = .int .i64 i ∧ (∀ (j : Nat) (ws : List Int), j < i → R[j]? = some ws → ws.length ≤ 512) ∧ (w.alloc (.cells #[.int .i64 k, .slice A1 n1 c1, .slice A2 n2 c2, .int .u64 st, .int .i64 fu] 42)) = wr)
                case atStart => exact ⟨0, by omega, rfl, fun j ws h => absurd h (Nat.not_lt_zero _), rfl⟩
                case round =>
                  obtain ⟨i, hig, rfl, hall, rfl⟩ := hrel
                  have hall' := Lib.hid hall
                  clear hall
                  cases gk with
                  | zero =>
                    have e0 : ¬ ((i : Int) < (n2 : Int)) := by omega
                    have hs := Lib.hid (shortB_yes (W := R) fun j ws h => hall'.out j ws (by have := (List.getElem?_eq_some_iff.1 h).1; have := hR'.out; omega) h)
                    go_wp2
                    go_ret
                    exact ⟨ret_bool hs.out.symm, hb0.out⟩
                  | succ g =>
                    have e0 : (i : Int) < (n2 : Int) := by omega
                    obtain ⟨blk, off, ws, B, cb, rfl, hws, v1, v2, _⟩ := (hA'.out.below hb0.out).at_ (k := i) (by rw [hR'.out]; omega)
                    have hws' := Lib.hid hws
                    clear hws
                    by_cases hl : ws.length ≤ 512
                    · have el : ¬ (512 : Int) < (ws.length : Int) := by omega
                      go_wp2
                      go_roundg g
                      case measure => omega
                      case rel =>
                        refine ⟨i + 1, by omega, by go_num, fun j ws2 hj hj2 => ?_, rfl⟩
                        rcases Nat.lt_or_ge j i with h3 | h3
                        · exact hall'.out j ws2 h3 hj2
                        · obtain rfl : j = i := by omega
                          rw [hws'.out] at hj2
                          cases hj2
                          exact hl
                    · have el : (512 : Int) < (ws.length : Int) := by omega
                      have hs := Lib.hid (shortB_no hws'.out hl)
                      go_wp2
                      go_ret
                      exact ⟨ret_bool hs.out.symm, hb0.out⟩

set_option maxRecDepth 100000 in
set_option maxHeartbeats 2000000 in
theorem refLine_any (k : Int) (A1 A2 : Option Addr) (n1 c1 n2 c2 : Nat) (st fu : Int) (w : World) (hT : Tab w) (h1 : 0 ≤ st) (h2 : st ≤ 18446744073709551615) (h3 : 0 ≤ fu) (h4 : fu ≤ 1000000) :
    Calls Tryz.prog 38 #[.agg #[.int .i64 k, .slice A1 n1 c1, .slice A2 n2 c2, .int .u64 st, .int .i64 fu]] w (StrPost (askedT k st fu) w) := by
  have hb0 := (Below.refl w.heap.size w).alloc (Nat.le_refl _) (.cells #[.int .i64 k, .slice A1 n1 c1, .slice A2 n2 c2, .int .u64 st, .int .i64 fu] 42)
  have hb1 := Lib.hid (hb0.alloc hb0.size (.cells #[.int .u64 fu] 40))
  have hb2 := Lib.hid (hb0.alloc hb0.size (.cells #[.int .u64 st, .int .u64 fu] 40))
  have hl1 := Lib.hid (refWords_any srcW (some ⟨w.heap.size + 1, 0, none⟩) 1 1 [fu] ((w.alloc (.cells #[.int .i64 k, .slice A1 n1 c1, .slice A2 n2 c2, .int .u64 st, .int .i64 fu] 42)).alloc (.cells #[.int .u64 fu] 40)) rfl
    ⟨by simp; omega, fun _ => ⟨_, 0, rfl, fun i x hx => by
      have e : (w.alloc (.cells #[.int .i64 k, .slice A1 n1 c1, .slice A2 n2 c2, .int .u64 st, .int .i64 fu] 42)).heap.size = w.heap.size + 1 := by simp
      rw [← e, blk_cell (heap_alloc_new _ _)]
      cases i with
      | zero => cases hx; rfl
      | succ i => cases hx⟩⟩ (hT.below hb1.out) (by decide) (by omega))
  have hl2 := Lib.hid fun wd (hd : wd.size ≤ 1000000) => refWords_any wd (some ⟨w.heap.size + 1, 0, none⟩) 2 2 [st, fu] ((w.alloc (.cells #[.int .i64 k, .slice A1 n1 c1, .slice A2 n2 c2, .int .u64 st, .int .i64 fu] 42)).alloc (.cells #[.int .u64 st, .int .u64 fu] 40)) rfl
    ⟨by simp; omega, fun _ => ⟨_, 0, rfl, fun i x hx => by
      have e : (w.alloc (.cells #[.int .i64 k, .slice A1 n1 c1, .slice A2 n2 c2, .int .u64 st, .int .i64 fu] 42)).heap.size = w.heap.size + 1 := by simp
      rw [← e, blk_cell (heap_alloc_new _ _)]
      match i, hx with
      | 0, hx => cases hx; rfl
      | 1, hx => cases hx; rfl⟩⟩ (hT.below hb2.out) hd (by omega)
  have hw : IntKind.u64.wrap fu = fu := by rw [IntKind.wrap_u64]; omega
  clear hT hb0
  by_cases k1 : k = 1
  · subst k1
    have e : askedT 1 st fu = lineT srcW [fu] := rfl
    rw [e]
    have hs : srcW = ⟨#[115, 111, 117, 114, 99, 101]⟩ := rfl
    rw [hs] at hl1 ⊢
    generalize lineT ⟨#[115, 111, 117, 114, 99, 101]⟩ [fu] = t at hl1 ⊢
    go_enter Tryz.func38, Tryz.ntmps38
    go_wp2_with fail
    refine hl1.out.mono ?_
    rintro e w1 ⟨rfl, hb⟩
    have hb' := Lib.hid (Below.next hb1.out hb)
    clear hb
    go_wp2
    go_ret
    exact ⟨rfl, hb'.out⟩
  · by_cases k2 : k = 2
    · subst k2
      have e : askedT 2 st fu = lineT macW [st, fu] := rfl
      rw [e]
      have hl3 := Lib.hid (hl2.out macW (by decide))
      have hs : macW = ⟨#[109, 97, 99, 104, 105, 110, 101]⟩ := rfl
      rw [hs] at hl3 ⊢
      generalize lineT ⟨#[109, 97, 99, 104, 105, 110, 101]⟩ [st, fu] = t at hl3 ⊢
      go_enter Tryz.func38, Tryz.ntmps38
      go_wp2_with fail
      refine hl3.out.mono ?_
      rintro e w1 ⟨rfl, hb⟩
      have hb' := Lib.hid (Below.next hb2.out hb)
      clear hb
      go_wp2
      go_ret
      exact ⟨rfl, hb'.out⟩
    · have e : askedT k st fu = lineT leakW [st, fu] := by unfold askedT; rw [if_neg k1, if_neg k2]
      rw [e]
      have hl3 := Lib.hid (hl2.out leakW (by decide))
      have hs : leakW = ⟨#[108, 101, 97, 107]⟩ := rfl
      rw [hs] at hl3 ⊢
      generalize lineT ⟨#[108, 101, 97, 107]⟩ [st, fu] = t at hl3 ⊢
      have k1' : (k == 1) = false := by simpa using k1
      have k2' : (k == 2) = false := by simpa using k2
      go_enter Tryz.func38, Tryz.ntmps38
      go_wp2_with fail
      refine hl3.out.mono ?_
      rintro e w1 ⟨rfl, hb⟩
      have hb' := Lib.hid (Below.next hb2.out hb)
      clear hb
      go_wp2
      go_ret
      exact ⟨rfl, hb'.out⟩


set_option maxRecDepth 100000 in
set_option maxHeartbeats 2000000 in
theorem line33_any (k : Int) (A1 A2 : Option Addr) (n1 c1 n2 c2 : Nat) (R : List (List Int)) (st fu : Int) (w : World) (hR : R.length = n2) (hA : WsAt w A2 R) (hn : n2 ≤ 4000000) (hn1 : n1 ≤ 4000000) (hT : Tab w) (hst : 0 ≤ st ∧ st ≤ 18446744073709551615) :
    Calls Tryz.prog 33 #[.agg #[.int .i64 k, .slice A1 n1 c1, .slice A2 n2 c2, .int .u64 st, .int .i64 fu]] w (StrErr (if mayV k n1 n2 st fu (shortB R) then askedT k st fu else ⟨#[]⟩) (if mayV k n1 n2 st fu (shortB R) then 0 else 2) w) := by
  have hb0 := Lib.hid ((Below.refl w.heap.size w).alloc (Nat.le_refl _) (.cells #[.int .i64 k, .slice A1 n1 c1, .slice A2 n2 c2, .int .u64 st, .int .i64 fu] 42))
  have hbox := Lib.hid (heap_alloc_new w (.cells #[.int .i64 k, .slice A1 n1 c1, .slice A2 n2 c2, .int .u64 st, .int .i64 fu] 42))
  obtain ⟨g0, g1, g2, g3, g4, gf⟩ := box5 hbox.out
  have hlt := blk_lt hbox.out
  have hm := Lib.hid (may_any k A1 A2 n1 c1 n2 c2 R st fu (w.alloc (.cells #[.int .i64 k, .slice A1 n1 c1, .slice A2 n2 c2, .int .u64 st, .int .i64 fu] 42)) hR (hA.below hb0.out) hn hn1)
  have hk := Lib.hid fun (W : World) (h : Below w.heap.size w W) (h2 : 0 ≤ fu ∧ fu ≤ 1000000) => asked_any k A1 A2 n1 c1 n2 c2 st fu W (hT.below h) hst.1 hst.2 h2.1 h2.2
  have hfu : mayV k n1 n2 st fu (shortB R) = true → 0 ≤ fu ∧ fu ≤ 1000000 := fun h => by
    simp only [mayV, Bool.and_eq_true, decide_eq_true_eq] at h
    exact ⟨h.1.1.2, h.1.2⟩
  have hfu := Lib.hid hfu
  generalize mayV k n1 n2 st fu (shortB R) = t at hm hfu ⊢
  clear hR hA hT hst
  cases t
  · go_enter Tryz.func33, Tryz.ntmps33
    go_wp2_with fail
    refine hm.out.mono ?_
    rintro e w1 ⟨rfl, hb⟩
    have hb' := Lib.hid (Below.next hb0.out hb)
    clear hb
    go_wp2
    go_ret2
    exact ⟨rfl, hb'.out⟩
  · have hk2 := Lib.hid fun (W : World) (h : Below w.heap.size w W) => hk.out W h (hfu.out rfl)
    clear hk hfu
    generalize askedT k st fu = T at hk2 ⊢
    go_enter Tryz.func33, Tryz.ntmps33
    go_wp2_with fail
    refine hm.out.mono ?_
    rintro e w1 ⟨rfl, hb⟩
    obtain ⟨g0, g1, g2, g3, g4, gf⟩ := box5 ((hb.block _ hlt).trans hbox.out)
    have hb' := Lib.hid (Below.next hb0.out hb)
    clear hb
    go_wp2_with fail
    refine (hk2.out _ hb'.out).mono ?_
    rintro e w2 ⟨rfl, hb2⟩
    have hb2' := Lib.hid (Below.next hb'.out hb2)
    clear hb2
    go_wp2
    go_ret2
    exact ⟨rfl, hb2'.out⟩
end Go.Proofs.YtkbmckmlnphpmaaGreatDoor
