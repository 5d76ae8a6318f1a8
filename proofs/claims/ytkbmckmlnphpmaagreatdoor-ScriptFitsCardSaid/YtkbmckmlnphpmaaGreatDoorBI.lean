/- Askings told: the reference's Small, May, Line; Line. An asking's lines: the reference's, and the iterator over them. Going over an asking's lines: the iterator's contract. The law's own once: an asking's lines are gone over. -/
import Derived.Test.YtkbmckmlnphpmaaGreatDoorBE
import Derived.Test.YtkbmckmlnphpmaaGreatDoorQ
import Derived.Test.YtkbmckmlnphpmaaGreatDoorAG
import Derived.Test.YtkbmckmlnphpmaaGreatDoorAR
set_option linter.unusedSimpArgs false
set_option linter.unusedVariables false
namespace Go.Proofs.YtkbmckmlnphpmaaGreatDoor
open Go.RowKit Go.Lib Go.Shelf

def SmallPost (n1 n2 m : Nat) (R : List (List Int)) (w : World) (e : Ending) (w' : World) : Prop := ∃ b, e = .returned (.bool b) ∧ (b = true → n1 + n2 ≤ m ∧ ∀ ws ∈ R, ws.length ≤ m) ∧ Below w.heap.size w w'
theorem rows_any_len {R : List (List Int)} {n k : Nat} (h : ∀ (i : Nat) (ws : List Int), i < k → R[i]? = some ws → ws.length ≤ n) (hk : R.length ≤ k) : ∀ ws ∈ R, ws.length ≤ n := fun ws hws => by
  obtain ⟨i, hi⟩ := List.getElem?_of_mem hws
  exact h i ws (by have := (List.getElem?_eq_some_iff.1 hi).1; omega) hi

set_option maxRecDepth 100000 in
set_option maxHeartbeats 4000000 in
theorem refSmall_any (k : Int) (A1 A2 : Option Addr) (n1 c1 n2 c2 : Nat) (R : List (List Int)) (st fu : Int) (m : Nat) (w : World) (hR : R.length = n2) (hA : WsO w A2 R) (hn1 : n1 ≤ 17592186044416) (hn2 : n2 ≤ 17592186044416) (hm : m ≤ 4000) :
    Calls Tryz.prog 32 #[.agg #[.int .i64 k, .slice A1 n1 c1, .slice A2 n2 c2, .int .u64 st, .int .i64 fu], .int .i64 m] w (SmallPost n1 n2 m R w) := by
  have hR' := Lib.hid hR
  have hA' := Lib.hid hA
  have hb0 := Lib.hid ((Below.refl w.heap.size w).alloc (Nat.le_refl _) (.cells #[.int .i64 k, .slice A1 n1 c1, .slice A2 n2 c2, .int .u64 st, .int .i64 fu] 42))
  obtain ⟨g0, g1, g2, g3, g4, gf⟩ := box5 (heap_alloc_new w (.cells #[.int .i64 k, .slice A1 n1 c1, .slice A2 n2 c2, .int .u64 st, .int .i64 fu] 42))
  have hw0 : IntKind.i64.wrap ((n1 : Int) + (n2 : Int)) = (n1 : Int) + (n2 : Int) := by rw [IntKind.wrap_i64]; omega
  have hw1 : IntKind.i64.wrap ((m : Int) + 1) = (m : Int) + 1 := by rw [IntKind.wrap_i64]; omega
  clear hR hA
  go_enter Tryz.func32, Tryz.ntmps32
  go_wp2_with fail
  go_loopg [5, 6] n2 (fun g s5 s6 wr => ∃ (i N : Nat), i + g = n2 ∧ s6 = .int .i64 i ∧ s5 = .int .i64 N ∧ N ≤ 35184372088833 ∧ n1 + n2 ≤ N ∧ (N ≤ m → ∀ (j : Nat) (ws : List Int), j < i → R[j]? = some ws → ws.length ≤ m) ∧ (w.alloc (.cells #[.int .i64 k, .slice A1 n1 c1, .slice A2 n2 c2, .int .u64 st, .int .i64 fu] 42)) = wr)
  case atStart => exact ⟨0, n1 + n2, by omega, rfl, by go_num, by omega, Nat.le_refl _, fun _ j ws h => absurd h (Nat.not_lt_zero _), rfl⟩
  case round =>
    obtain ⟨i, N, hig, rfl, rfl, hN, hNn, hall, rfl⟩ := hrel
    have hall' := Lib.hid hall
    clear hall
    by_cases hNm : N ≤ m
    · have em : (N : Int) ≤ (m : Int) := by omega
      cases gk with
      | zero =>
        have e0 : ¬ ((i : Int) < (n2 : Int)) := by omega
        go_wp2
        go_ret
        exact ⟨true, ret_bool (by simp <;> omega), fun _ => ⟨by omega, rows_any_len (hall'.out hNm) (by rw [hR'.out]; omega)⟩, hb0.out⟩
      | succ g =>
        have e0 : (i : Int) < (n2 : Int) := by omega
        obtain ⟨blk, off, ws, B, cb, rfl, hws, v1, v2, _⟩ := (hA'.out.below hb0.out).at_ (k := i) (by rw [hR'.out]; omega)
        have hws' := Lib.hid hws
        clear hws
        by_cases hl : ws.length ≤ m
        · have el : ((ws.length : Int) ≤ (m : Int) + 1) := by omega
          have hmn : min (ws.length : Int) ((m : Int) + 1) = (ws.length : Int) := by omega
          have hw2 : IntKind.i64.wrap ((N : Int) + (ws.length : Int)) = (N : Int) + (ws.length : Int) := by rw [IntKind.wrap_i64]; omega
          go_wp2
          go_roundg g
          case measure => omega
          case rel =>
            refine ⟨i + 1, N + ws.length, by omega, by go_num, by go_num, by omega, by omega, fun h j ws2 hj hj2 => ?_, rfl⟩
            rcases Nat.lt_or_ge j i with h3 | h3
            · exact hall'.out (by omega) j ws2 h3 hj2
            · obtain rfl : j = i := by omega
              rw [hws'.out] at hj2
              cases hj2
              exact hl
        · have hmn : min (ws.length : Int) ((m : Int) + 1) = (m : Int) + 1 := by omega
          have hw2 : IntKind.i64.wrap ((N : Int) + ((m : Int) + 1)) = (N : Int) + ((m : Int) + 1) := by rw [IntKind.wrap_i64]; omega
          go_wp2
          go_roundg g
          case measure => omega
          case rel =>
            refine ⟨i + 1, N + (m + 1), by omega, by go_num, by go_num, by omega, by omega, fun h => absurd h (by omega), rfl⟩
    · have em : ¬ ((N : Int) ≤ (m : Int)) := by omega
      cases gk with
      | zero =>
        have e0 : ¬ ((i : Int) < (n2 : Int)) := by omega
        go_wp2
        go_ret
        exact ⟨false, ret_bool (by simp <;> omega), (fun h => by cases h), hb0.out⟩
      | succ g =>
        have e0 : (i : Int) < (n2 : Int) := by omega
        go_wp2
        go_ret
        exact ⟨false, ret_bool (by simp <;> omega), (fun h => by cases h), hb0.out⟩

set_option maxRecDepth 100000 in
set_option maxHeartbeats 4000000 in
theorem refMay_any (k : Int) (A1 A2 : Option Addr) (n1 c1 n2 c2 : Nat) (R : List (List Int)) (st fu : Int) (w : World) (hR : R.length = n2) (hA : WsO w A2 R) (hn1 : n1 ≤ 17592186044416) (hn2 : n2 ≤ 17592186044416) :
    Calls Tryz.prog 35 #[.agg #[.int .i64 k, .slice A1 n1 c1, .slice A2 n2 c2, .int .u64 st, .int .i64 fu]] w (BoolPost (mayV k n1 n2 st fu (shortB R)) w) := by
  have hR' := Lib.hid hR
  have hA' := Lib.hid hA
  have hb0 := Lib.hid ((Below.refl w.heap.size w).alloc (Nat.le_refl _) (.cells #[.int .i64 k, .slice A1 n1 c1, .slice A2 n2 c2, .int .u64 st, .int .i64 fu] 42))
  obtain ⟨g0, g1, g2, g3, g4, gf⟩ := box5 (heap_alloc_new w (.cells #[.int .i64 k, .slice A1 n1 c1, .slice A2 n2 c2, .int .u64 st, .int .i64 fu] 42))
  have hmay : ∀ b, mayV k n1 n2 st fu (shortB R) = b → Calls Tryz.prog 35 #[.agg #[.int .i64 k, .slice A1 n1 c1, .slice A2 n2 c2, .int .u64 st, .int .i64 fu]] w (BoolPost b w) → Calls Tryz.prog 35 #[.agg #[.int .i64 k, .slice A1 n1 c1, .slice A2 n2 c2, .int .u64 st, .int .i64 fu]] w (BoolPost (mayV k n1 n2 st fu (shortB R)) w) := fun b h hc => by rw [h]; exact hc
  clear hR hA
  by_cases k1 : k < 1
  · have j5 : ¬ 1 ≤ k := by omega
    refine hmay false (by simp [mayV, j5]) ?_
    clear hmay hA' hR'
    go_enter Tryz.func35, Tryz.ntmps35
    go_wp2
    go_ret
    exact ⟨rfl, hb0.out⟩
  · by_cases k2 : 3 < k
    · have j6 : ¬ k ≤ 3 := by omega
      refine hmay false (by simp [mayV, j6]) ?_
      clear hmay hA' hR'
      go_enter Tryz.func35, Tryz.ntmps35
      go_wp2
      go_ret
      exact ⟨rfl, hb0.out⟩
    · by_cases k3 : k = 1
      · subst k3
        by_cases k4 : st = 0
        · subst k4
          by_cases f1 : fu < 0
          · have j3 : ¬ 0 ≤ fu := by omega
            refine hmay false (by simp [mayV, j3]) ?_
            clear hmay hA' hR'
            go_enter Tryz.func35, Tryz.ntmps35
            go_wp2
            go_ret
            exact ⟨rfl, hb0.out⟩
          · by_cases f2 : 1000000 < fu
            · have j4 : ¬ fu ≤ 1000000 := by omega
              refine hmay false (by simp [mayV, j4]) ?_
              clear hmay hA' hR'
              go_enter Tryz.func35, Tryz.ntmps35
              go_wp2
              go_ret
              exact ⟨rfl, hb0.out⟩
            · by_cases i1 : (64 : Int) < (n1 : Int)
              · have j1 : ¬ n1 ≤ 64 := by omega
                refine hmay false (by simp [mayV, j1]) ?_
                clear hmay hA' hR'
                go_enter Tryz.func35, Tryz.ntmps35
                go_wp2
                go_ret
                exact ⟨rfl, hb0.out⟩
              · by_cases i2 : (16 : Int) < (n2 : Int)
                · have j2 : ¬ n2 ≤ 16 := by omega
                  refine hmay false (by simp [mayV, j2]) ?_
                  clear hmay hA' hR'
                  go_enter Tryz.func35, Tryz.ntmps35
                  go_wp2
                  go_ret
                  exact ⟨rfl, hb0.out⟩
                · refine hmay (shortB R) (by have j1 : n1 ≤ 64 := by omega
                                             have j2 : n2 ≤ 16 := by omega
                                             have j3 : 0 ≤ fu := by omega
                                             have j4 : fu ≤ 1000000 := by omega
                                             simp [mayV, j1, j2, j3, j4]) ?_
                  clear hmay
                  go_enter Tryz.func35, Tryz.ntmps35
                  go_wp2_with fail
                  go_loopg [3] n2 (fun g s3 wr => ∃ i : Nat, i + g = n2 ∧ s3 = .int .i64 i ∧ (∀ (j : Nat) (ws : List Int), j < i → R[j]? = some ws → ws.length ≤ 512) ∧ (w.alloc (.cells #[.int .i64 1, .slice A1 n1 c1, .slice A2 n2 c2, .int .u64 0, .int .i64 fu] 42)) = wr)
                  case atStart => exact ⟨0, by omega, rfl, fun j ws h => absurd h (Nat.not_lt_zero _), rfl⟩
                  case round =>
                    obtain ⟨i, hig, rfl, hall, rfl⟩ := hrel
                    have hall' := Lib.hid hall
                    clear hall
                    cases gk with
                    | zero =>
                      have e0 : ¬ ((i : Int) < (n2 : Int)) := by omega
                      have hs := Lib.hid (shortB_yes (W := R) fun j ws h => hall'.out j ws (by have := (List.getElem?_eq_some_iff.1 h).1; have := hR'.out; omega) h)
                      go_wp2
                      go_ret
                      exact ⟨ret_bool hs.out.symm, hb0.out⟩
                    | succ g =>
                      have e0 : (i : Int) < (n2 : Int) := by omega
                      obtain ⟨blk, off, ws, B, cb, rfl, hws, v1, v2, _⟩ := (hA'.out.below hb0.out).at_ (k := i) (by rw [hR'.out]; omega)
                      have hws' := Lib.hid hws
                      clear hws
                      by_cases hl : ws.length ≤ 512
                      · have el : ¬ (512 : Int) < (ws.length : Int) := by omega
                        go_wp2
                        go_roundg g
                        case measure => omega
                        case rel =>
                          refine ⟨i + 1, by omega, by go_num, fun j ws2 hj hj2 => ?_, rfl⟩
                          rcases Nat.lt_or_ge j i with h3 | h3
                          · exact hall'.out j ws2 h3 hj2
                          · obtain rfl : j = i := by omega
                            rw [hws'.out] at hj2
                            cases hj2
                            exact hl
                      · have el : (512 : Int) < (ws.length : Int) := by omega
                        have hs := Lib.hid (shortB_no hws'.out hl)
                        go_wp2
                        go_ret
                        exact ⟨ret_bool hs.out.symm, hb0.out⟩
        · have b4 : (st == 0) = false := by simpa using k4
          refine hmay false (by simp [mayV, k4]) ?_
          clear hmay hA' hR'
          go_enter Tryz.func35, Tryz.ntmps35
          go_wp2
          go_ret
          exact ⟨rfl, hb0.out⟩
      · have b3 : (k == 1) = false := by simpa using k3
        by_cases f1 : fu < 0
        · have j3 : ¬ 0 ≤ fu := by omega
          refine hmay false (by simp [mayV, j3]) ?_
          clear hmay hA' hR'
          go_enter Tryz.func35, Tryz.ntmps35
          go_wp2
          go_ret
          exact ⟨rfl, hb0.out⟩
        · by_cases f2 : 1000000 < fu
          · have j4 : ¬ fu ≤ 1000000 := by omega
            refine hmay false (by simp [mayV, j4]) ?_
            clear hmay hA' hR'
            go_enter Tryz.func35, Tryz.ntmps35
            go_wp2
            go_ret
            exact ⟨rfl, hb0.out⟩
          · by_cases i1 : (64 : Int) < (n1 : Int)
            · have j1 : ¬ n1 ≤ 64 := by omega
              refine hmay false (by simp [mayV, j1]) ?_
              clear hmay hA' hR'
              go_enter Tryz.func35, Tryz.ntmps35
              go_wp2
              go_ret
              exact ⟨rfl, hb0.out⟩
            · by_cases i2 : (16 : Int) < (n2 : Int)
              · have j2 : ¬ n2 ≤ 16 := by omega
                refine hmay false (by simp [mayV, j2]) ?_
                clear hmay hA' hR'
                go_enter Tryz.func35, Tryz.ntmps35
                go_wp2
                go_ret
                exact ⟨rfl, hb0.out⟩
              · refine hmay (shortB R) (by have j1 : n1 ≤ 64 := by omega
                                           have j2 : n2 ≤ 16 := by omega
                                           have j3 : 0 ≤ fu := by omega
                                           have j4 : fu ≤ 1000000 := by omega
                                           have j5 : 1 ≤ k := by omega
                                           have j6 : k ≤ 3 := by omega
                                           simp [mayV, j1, j2, j3, j4, j5, j6, k3]) ?_
                clear hmay
                go_enter Tryz.func35, Tryz.ntmps35
                go_wp2_with fail
                go_loopg [3] n2 (fun g s3 wr => ∃ i : Nat, i + g = n2 ∧ s3 = .int .i64 i ∧ (∀ (j : Nat) (ws : List Int), j < i → R[j]? = some ws → ws.length ≤ 512) ∧ (w.alloc (.cells #[.int .i64 k, .slice A1 n1 c1, .slice A2 n2 c2, .int .u64 st, .int .i64 fu] 42)) = wr)
                case atStart => exact ⟨0, by omega, rfl, fun j ws h => absurd h (Nat.not_lt_zero _), rfl⟩
                case round =>
                  obtain ⟨i, hig, rfl, hall, rfl⟩ := hrel
                  have hall' := Lib.hid hall
                  clear hall
                  cases gk with
                  | zero =>
                    have e0 : ¬ ((i : Int) < (n2 : Int)) := by omega
                    have hs := Lib.hid (shortB_yes (W := R) fun j ws h => hall'.out j ws (by have := (List.getElem?_eq_some_iff.1 h).1; have := hR'.out; omega) h)
                    go_wp2
                    go_ret
                    exact ⟨ret_bool hs.out.symm, hb0.out⟩
                  | succ g =>
                    have e0 : (i : Int) < (n2 : Int) := by omega
                    obtain ⟨blk, off, ws, B, cb, rfl, hws, v1, v2, _⟩ := (hA'.out.below hb0.out).at_ (k := i) (by rw [hR'.out]; omega)
                    have hws' := Lib.hid hws
                    clear hws
                    by_cases hl : ws.length ≤ 512
                    · have el : ¬ (512 : Int) < (ws.length : Int) := by omega
                      go_wp2
                      go_roundg g
                      case measure => omega
                      case rel =>
                        refine ⟨i + 1, by omega, by go_num, fun j ws2 hj hj2 => ?_, rfl⟩
                        rcases Nat.lt_or_ge j i with h3 | h3
                        · exact hall'.out j ws2 h3 hj2
                        · obtain rfl : j = i := by omega
                          rw [hws'.out] at hj2
                          cases hj2
                          exact hl
                    · have el : (512 : Int) < (ws.length : Int) := by omega
                      have hs := Lib.hid (shortB_no hws'.out hl)
                      go_wp2
                      go_ret
                      exact ⟨ret_bool hs.out.symm, hb0.out⟩

set_option maxRecDepth 100000 in
set_option maxHeartbeats 2000000 in
theorem refLine_any (k : Int) (A1 A2 : Option Addr) (n1 c1 n2 c2 : Nat) (st fu : Int) (w : World) (hT : Tab w) (h1 : 0 ≤ st) (h2 : st ≤ 18446744073709551615) (h3 : 0 ≤ fu) (h4 : fu ≤ 1000000) :
    Calls Tryz.prog 38 #[.agg #[.int .i64 k, .slice A1 n1 c1, .slice A2 n2 c2, .int .u64 st, .int .i64 fu]] w (StrPost (askedT k st fu) w) := by
  have hb0 := (Below.refl w.heap.size w).alloc (Nat.le_refl _) (.cells #[.int .i64 k, .slice A1 n1 c1, .slice A2 n2 c2, .int .u64 st, .int .i64 fu] 42)
  have hb1 := Lib.hid (hb0.alloc hb0.size (.cells #[.int .u64 fu] 40))
  have hb2 := Lib.hid (hb0.alloc hb0.size (.cells #[.int .u64 st, .int .u64 fu] 40))
  have hl1 := Lib.hid (refWords_any srcW (some ⟨w.heap.size + 1, 0, none⟩) 1 1 [fu] ((w.alloc (.cells #[.int .i64 k, .slice A1 n1 c1, .slice A2 n2 c2, .int .u64 st, .int .i64 fu] 42)).alloc (.cells #[.int .u64 fu] 40)) rfl
    ⟨by simp; omega, fun _ => ⟨_, 0, rfl, fun i x hx => by
      have e : (w.alloc (.cells #[.int .i64 k, .slice A1 n1 c1, .slice A2 n2 c2, .int .u64 st, .int .i64 fu] 42)).heap.size = w.heap.size + 1 := by simp
      rw [← e, blk_cell (heap_alloc_new _ _)]
      cases i with
      | zero => cases hx; rfl
      | succ i => cases hx⟩⟩ (hT.below hb1.out) (by decide) (by omega))
  have hl2 := Lib.hid fun wd (hd : wd.size ≤ 2000000) => refWords_any wd (some ⟨w.heap.size + 1, 0, none⟩) 2 2 [st, fu] ((w.alloc (.cells #[.int .i64 k, .slice A1 n1 c1, .slice A2 n2 c2, .int .u64 st, .int .i64 fu] 42)).alloc (.cells #[.int .u64 st, .int .u64 fu] 40)) rfl
    ⟨by simp; omega, fun _ => ⟨_, 0, rfl, fun i x hx => by
      have e : (w.alloc (.cells #[.int .i64 k, .slice A1 n1 c1, .slice A2 n2 c2, .int .u64 st, .int .i64 fu] 42)).heap.size = w.heap.size + 1 := by simp
      rw [← e, blk_cell (heap_alloc_new _ _)]
      match i, hx with
      | 0, hx => cases hx; rfl
      | 1, hx => cases hx; rfl⟩⟩ (hT.below hb2.out) hd (by omega)
  have hw : IntKind.u64.wrap fu = fu := by rw [IntKind.wrap_u64]; omega
  clear hT hb0
  by_cases k1 : k = 1
  · subst k1
    have e : askedT 1 st fu = lineT srcW [fu] := rfl
    rw [e]
    have hs : srcW = ⟨#[115, 111, 117, 114, 99, 101]⟩ := rfl
    rw [hs] at hl1 ⊢
    generalize lineT ⟨#[115, 111, 117, 114, 99, 101]⟩ [fu] = t at hl1 ⊢
    go_enter Tryz.func38, Tryz.ntmps38
    go_wp2_with fail
    refine hl1.out.mono ?_
    rintro e w1 ⟨rfl, hb⟩
    have hb' := Lib.hid (Below.next hb1.out hb)
    clear hb
    go_wp2
    go_ret
    exact ⟨rfl, hb'.out⟩
  · by_cases k2 : k = 2
    · subst k2
      have e : askedT 2 st fu = lineT macW [st, fu] := rfl
      rw [e]
      have hl3 := Lib.hid (hl2.out macW (by decide))
      have hs : macW = ⟨#[109, 97, 99, 104, 105, 110, 101]⟩ := rfl
      rw [hs] at hl3 ⊢
      generalize lineT ⟨#[109, 97, 99, 104, 105, 110, 101]⟩ [st, fu] = t at hl3 ⊢
      go_enter Tryz.func38, Tryz.ntmps38
      go_wp2_with fail
      refine hl3.out.mono ?_
      rintro e w1 ⟨rfl, hb⟩
      have hb' := Lib.hid (Below.next hb2.out hb)
      clear hb
      go_wp2
      go_ret
      exact ⟨rfl, hb'.out⟩
    · have e : askedT k st fu = lineT leakW [st, fu] := by unfold askedT; rw [if_neg k1, if_neg k2]
      rw [e]
      have hl3 := Lib.hid (hl2.out leakW (by decide))
      have hs : leakW = ⟨#[108, 101, 97, 107]⟩ := rfl
      rw [hs] at hl3 ⊢
      generalize lineT ⟨#[108, 101, 97, 107]⟩ [st, fu] = t at hl3 ⊢
      have k1' : (k == 1) = false := by simpa using k1
      have k2' : (k == 2) = false := by simpa using k2
      go_enter Tryz.func38, Tryz.ntmps38
      go_wp2_with fail
      refine hl3.out.mono ?_
      rintro e w1 ⟨rfl, hb⟩
      have hb' := Lib.hid (Below.next hb2.out hb)
      clear hb
      go_wp2
      go_ret
      exact ⟨rfl, hb'.out⟩


set_option maxRecDepth 100000 in
set_option maxHeartbeats 2000000 in
theorem line33_any (k : Int) (A1 A2 : Option Addr) (n1 c1 n2 c2 : Nat) (R : List (List Int)) (st fu : Int) (w : World) (hR : R.length = n2) (hA : WsAt w A2 R) (hn : n2 ≤ 4000000) (hn1 : n1 ≤ 4000000) (hT : Tab w) (hst : 0 ≤ st ∧ st ≤ 18446744073709551615) :
    Calls Tryz.prog 33 #[.agg #[.int .i64 k, .slice A1 n1 c1, .slice A2 n2 c2, .int .u64 st, .int .i64 fu]] w (StrErr (if mayV k n1 n2 st fu (shortB R) then askedT k st fu else ⟨#[]⟩) (if mayV k n1 n2 st fu (shortB R) then 0 else 2) w) := by
  have hb0 := Lib.hid ((Below.refl w.heap.size w).alloc (Nat.le_refl _) (.cells #[.int .i64 k, .slice A1 n1 c1, .slice A2 n2 c2, .int .u64 st, .int .i64 fu] 42))
  have hbox := Lib.hid (heap_alloc_new w (.cells #[.int .i64 k, .slice A1 n1 c1, .slice A2 n2 c2, .int .u64 st, .int .i64 fu] 42))
  obtain ⟨g0, g1, g2, g3, g4, gf⟩ := box5 hbox.out
  have hlt := blk_lt hbox.out
  have hm := Lib.hid (may_any k A1 A2 n1 c1 n2 c2 R st fu (w.alloc (.cells #[.int .i64 k, .slice A1 n1 c1, .slice A2 n2 c2, .int .u64 st, .int .i64 fu] 42)) hR (hA.below hb0.out) hn hn1)
  have hk := Lib.hid fun (W : World) (h : Below w.heap.size w W) (h2 : 0 ≤ fu ∧ fu ≤ 1000000) => asked_any k A1 A2 n1 c1 n2 c2 st fu W (hT.below h) hst.1 hst.2 h2.1 h2.2
  have hfu : mayV k n1 n2 st fu (shortB R) = true → 0 ≤ fu ∧ fu ≤ 1000000 := fun h => by
    simp only [mayV, Bool.and_eq_true, decide_eq_true_eq] at h
    exact ⟨h.1.1.2, h.1.2⟩
  have hfu := Lib.hid hfu
  generalize mayV k n1 n2 st fu (shortB R) = t at hm hfu ⊢
  clear hR hA hT hst
  cases t
  · go_enter Tryz.func33, Tryz.ntmps33
    go_wp2_with fail
    refine hm.out.mono ?_
    rintro e w1 ⟨rfl, hb⟩
    have hb' := Lib.hid (Below.next hb0.out hb)
    clear hb
    go_wp2
    go_ret2
    exact ⟨rfl, hb'.out⟩
  · have hk2 := Lib.hid fun (W : World) (h : Below w.heap.size w W) => hk.out W h (hfu.out rfl)
    clear hk hfu
    generalize askedT k st fu = T at hk2 ⊢
    go_enter Tryz.func33, Tryz.ntmps33
    go_wp2_with fail
    refine hm.out.mono ?_
    rintro e w1 ⟨rfl, hb⟩
    obtain ⟨g0, g1, g2, g3, g4, gf⟩ := box5 ((hb.block _ hlt).trans hbox.out)
    have hb' := Lib.hid (Below.next hb0.out hb)
    clear hb
    go_wp2_with fail
    refine (hk2.out _ hb'.out).mono ?_
    rintro e w2 ⟨rfl, hb2⟩
    have hb2' := Lib.hid (Below.next hb'.out hb2)
    clear hb2
    go_wp2
    go_ret2
    exact ⟨rfl, hb2'.out⟩
end Go.Proofs.YtkbmckmlnphpmaaGreatDoor
namespace Go.Proofs.YtkbmckmlnphpmaaGreatDoor
open Go.RowKit Go.Lib Go.Shelf

/-- the contract of an iterator over texts that makes memory between two rounds, and writes none of what was there -/
def IterGrow (n : Nat) (gf : Nat) (lb : Array Value) (Kp : World → World → Prop) (T0 : List ByteArray → ByteArray → Prop) (S Sp : List ByteArray → Prop) (w : World) : Prop :=
  ∀ (l : Nat) (J Jx : List ByteArray → World → Prop) (W : World), Below w.heap.size w W → (∀ s W W', J s W → Below W.heap.size W W' → J s W') →
    (∀ pre x W1, J pre W1 → T0 pre x → YieldAt Fence.wide (n - 1) Tryz.prog l #[.string x] W1 fun e W' => (e = .returned (.bool true) ∧ J (pre ++ [x]) W' ∧ Kp W1 W') ∨ (e = .returned (.bool false) ∧ Jx (pre ++ [x]) W')) →
    J [] W → CallsIn Fence.wide n Tryz.prog gf (#[.func (.yield l) #[] #[]] ++ lb) W fun e W' => (∃ v, e = .returned v) ∧ ((∃ xs, S xs ∧ J xs W') ∨ (∃ pre, Sp pre ∧ Jx pre W'))
theorem wpIn_range_grow {n : Nat} {g : Operand} {p : Tmp} {assign body : Code} {Q : Exit → Act → World → Prop} {a : Act} {w : World} {gf : Nat} {lb : Array Value} {Kp : World → World → Prop} {T0 : List ByteArray → ByteArray → Prop} {S Sp : List ByteArray → Prop}
    (h1 : 1 ≤ n) (hg : a.eval g = .func (.func gf) #[] lb) (eg : ∀ args w, (callFunc gf args).run Tryz.prog w = .ok (.enter gf args) w)
    (hKt : ∀ {A B C : World}, Kp A B → Kp B C → Kp A C) (hKb : ∀ (W : World) (l : Nat) (o' : Obj), w.heap.size ≤ l → Kp W (W.putObj l o'))
    (hiter : IterGrow (n - 1) gf lb Kp T0 S Sp w) (I Ix : List ByteArray → World → Prop) (hI : Calm w.heap.size I) (hIx : Calm w.heap.size Ix) (hIb : ∀ s W W', I s W → w.heap.size ≤ W.heap.size → Below W.heap.size W W' → I s W') (h0 : I [] w)
    (T : ByteArray → Array Value)
    (hassign : ∀ (l : Nat) (x : ByteArray) (W : World) (K : Act → World → Prop), K { tmps := T x, defers := [] } W →
      assign.wpIn (Fence.wide.inRound l) (n - 1 - 1) Tryz.prog (Exit.then K (fun _ _ _ => False)) { tmps := a.tmps.setIfInBounds p (.string x), defers := [] } W)
    (hbody : ∀ (l : Nat) (pre : List ByteArray) (x : ByteArray) (W : World), w.heap.size ≤ l → I pre W → T0 pre x → body.wpIn (Fence.wide.inRound l) (n - 1 - 1) Tryz.prog (roundEnd w.heap.size Kp I Ix (pre ++ [x]) W) { tmps := T x, defers := [] } W)
    (hdone : ∀ (D : Nat) (xs : List ByteArray) (W : World), w.heap.size ≤ D → S xs → I xs W → W.heap[D]? = some (.deferred (some [])) → Q .normal { a with defers := { target := .collected D, args := #[] } :: a.defers } W)
    (hstop : ∀ (D : Nat) (pre : List ByteArray) (W : World), w.heap.size ≤ D → Sp pre → Ix pre W → W.heap[D]? = some (.deferred (some [])) → Code.ret.wpIn Fence.wide n Tryz.prog Q { a with defers := { target := .collected D, args := #[] } :: a.defers } W) :
    (Code.rangeFunc g #[p] assign body).wpIn Fence.wide n Tryz.prog Q a w := by
  refine wpIn_rangeFunc fun fn hfn => ?_
  have hlp : ∃ R : LoopState → Option Code → Loop, ∀ st pe, R st pe = { state := st, pending := pe, fn := fn, tmps := a.tmps, params := #[p], assign := assign, body := body, defers := w.heap.size } := ⟨_, fun _ _ => rfl⟩
  obtain ⟨R, hR⟩ := hlp
  -- the loop's two blocks: D for deferred calls, L for its record
  have hS1 : ((w.alloc (.deferred (some []))).alloc (.loop (R .ready none))).heap.size = w.heap.size + 2 := by simp
  have hD1 : ((w.alloc (.deferred (some []))).alloc (.loop (R .ready none))).heap[w.heap.size]? = some (.deferred (some [])) :=
    (heap_alloc_old _ _ (by simp)).trans (heap_alloc_new w _)
  have hL1 : ((w.alloc (.deferred (some []))).alloc (.loop (R .ready none))).heap[w.heap.size + 1]? = some (.loop (R .ready none)) := by
    have h := heap_alloc_new (w.alloc (.deferred (some []))) (.loop (R .ready none))
    have e : (w.alloc (.deferred (some []))).heap.size = w.heap.size + 1 := by simp
    rwa [e] at h
  have hI1 : I [] ((w.alloc (.deferred (some []))).alloc (.loop (R .ready none))) := hI.1 _ _ _ (hI.1 _ _ _ h0 (Nat.le_refl _)) (by simp)
  have hB1 : Below w.heap.size w ((w.alloc (.deferred (some []))).alloc (.loop (R .ready none))) := ((Below.refl _ w).alloc (Nat.le_refl _) _).alloc (by simp) _
  generalize hW1 : (w.alloc (.deferred (some []))).alloc (.loop (R .ready none)) = W1 at hS1 hD1 hL1 hI1 hB1
  refine ⟨w.heap.size + 1, [{ target := .collected w.heap.size, args := #[] }], W1, { target := .fn (.func gf) lb, args := #[.func (.yield (w.heap.size + 1)) #[] #[]] }, W1, gf, #[.func (.yield (w.heap.size + 1)) #[] #[]] ++ lb, W1, ?_, ?_, ?_, ?_, fun _ => h1, ?_⟩
  · rw [← hW1, hR]
    exact run_enterLoop_outer _ _ _ _ _
  · simp only [resolve, hg]
    simp [go_sem]
  · intro f' _
    exact trivial
  · simp [invoke, go_sem, eg]
  · -- the two blocks lie where a round's caller left them
    have hcall := hiter (w.heap.size + 1)
      (fun pre W => I pre W ∧ W.heap[w.heap.size + 1]? = some (.loop (R .ready none)) ∧ W.heap[w.heap.size]? = some (.deferred (some [])))
      (fun pre W => Ix pre W ∧ W.heap[w.heap.size + 1]? = some (.loop (R .done (some .ret))) ∧ W.heap[w.heap.size]? = some (.deferred (some []))) W1 hB1
      (fun s W W' h hb => ⟨hIb s W W' h.1 (by have := blk_lt h.2.1; omega) hb, (hb.block _ (blk_lt h.2.1)).trans h.2.1, (hb.block _ (blk_lt h.2.2)).trans h.2.2⟩)
      (fun pre x W hJ hT => ?_) ⟨hI1, hL1, hD1⟩
    · refine hcall.mono ?_
      rintro e W2 ⟨⟨v, rfl⟩, ⟨xs, hxs, hi, hl, hd⟩ | ⟨pre, hpre, hi, hl, hd⟩⟩
      · have hrun := run_endLoop (P := Tryz.prog) hl (by rw [hR]; simp)
        rw [show (R .ready none).pending = none by rw [hR]] at hrun
        exact ⟨none, _, hrun, hdone _ xs _ (Nat.le_refl _) hxs (hI.2 _ _ _ _ _ hi (by omega) hl rfl) ((World.putObj_heap_other (by omega)).trans hd)⟩
      · have hrun := run_endLoop (P := Tryz.prog) hl (by rw [hR]; simp)
        rw [show (R .done (some .ret)).pending = some .ret by rw [hR]] at hrun
        exact ⟨some .ret, _, hrun, hstop _ pre _ (Nat.le_refl _) hpre (hIx.2 _ _ _ _ _ hi (by omega) hl rfl) ((World.putObj_heap_other (by omega)).trans hd)⟩
    · obtain ⟨hi, hl, hd⟩ := hJ
      have hy := run_yield (P := Tryz.prog) (args := #[.string x]) hl (by rw [hR]; rfl)
      rw [hR] at hy
      have hz : ∀ (f : Array Value → Tmp × Value → Array Value), (#[p].zip #[Value.string x]).foldl f a.tmps = f a.tmps (p, .string x) := fun f => by simp
      dsimp only at hy
      rw [hz] at hy
      refine ⟨fn, _, assign, body, hy, roundIn_of_wpIn hfn ?_⟩
      have hbeg := run_beginRound (P := Tryz.prog) hl (by rw [hR])
      have hll : w.heap.size + 1 < W.heap.size := blk_lt hl
      refine hassign (w.heap.size + 1) x W _ ?_
      refine ⟨_, hbeg, ?_⟩
      have hl2 : (W.putObj (w.heap.size + 1) (.loop { R .ready none with state := .busy })).heap[w.heap.size + 1]? = some (.loop { R .ready none with state := .busy }) := World.putObj_heap_same hll
      have hd2 : (W.putObj (w.heap.size + 1) (.loop { R .ready none with state := .busy })).heap[w.heap.size]? = some (.deferred (some [])) := (World.putObj_heap_other (by omega)).trans hd
      refine wpIn_mono (hbody (w.heap.size + 1) pre x _ (by omega) (hI.2 _ _ _ _ _ hi (by omega) hl rfl) hT) fun e a3 W3 hp => ?_
      cases e with
      | normal =>
        obtain ⟨hk, hkp, hi3⟩ := hp
        have hl3 := hk.same _ _ (by omega) hl2 rfl
        have hd3 := hk.same _ _ (Nat.le_refl _) hd2 rfl
        have hend := run_endRound (P := Tryz.prog) none hl3
        refine ⟨_, _, hend, .inl ⟨rfl, ⟨hI.2 _ _ _ _ _ hi3 (by omega) hl3 rfl, ?_, (World.putObj_heap_other (by omega)).trans hd3⟩, hKt (hKt (hKb _ _ _ (by omega)) hkp) (hKb _ _ _ (by omega))⟩⟩
        rw [World.putObj_heap_same (blk_lt hl3)]
        simp only [hR]
        rfl
      | ret =>
        obtain ⟨hk, hi3⟩ := hp
        have hl3 := hk.same _ _ (by omega) hl2 rfl
        have hd3 := hk.same _ _ (Nat.le_refl _) hd2 rfl
        have hend := run_endRound (P := Tryz.prog) (some .ret) hl3
        refine ⟨_, _, hend, .inr ⟨rfl, hIx.2 _ _ _ _ _ hi3 (by omega) hl3 rfl, ?_, (World.putObj_heap_other (by omega)).trans hd3⟩⟩
        rw [World.putObj_heap_same (blk_lt hl3)]
        simp only [hR]
        rfl
      | exit id => exact hp.elim
      | goto t => exact hp.elim
      | panic ch => exact hp.elim
      | outgrown => exact hp.elim

/-- an asking's lines -/
def linesA (a : Ask) : List ByteArray := lineT inW a.args :: (a.regs.map (lineT withW) ++ [askedT a.k a.st a.fu])
theorem own_one {W : World} {b0 : Nat} (hb : b0 ≤ W.heap.size) (t : ByteArray) : (W.alloc (.cells #[.string t] 9)).ownsRow b0 9 1 (.slice (some ⟨W.heap.size, 0, none⟩) 1 1) 1 (sCells [t]) :=
  ⟨rfl, .inr ⟨W.heap.size, 1, #[.string t], rfl, hb, heap_alloc_new W _, Nat.le_refl _, by simp [maxLen], rfl, rfl⟩⟩

/-- a slice of texts, in a row of texts -/
def Row9 (w : World) (A : Option Addr) : Prop := ∀ g off, A = some ⟨g, off, none⟩ → ∃ cs fr, w.heap[g]? = some (.cells cs 9 fr)
theorem Row9.below {w w' : World} {A : Option Addr} (h : Row9 w A) (hb : Below w.heap.size w w') : Row9 w' A := fun g off e => by
  obtain ⟨cs, fr, hc⟩ := h g off e
  exact ⟨cs, fr, (hb.block g (blk_lt hc)).trans hc⟩
theorem own_row9 {w : World} {b0 n m c : Nat} {A : Option Addr} {xs : List Value} (h : w.ownsRow b0 9 1 (.slice A m c) n xs) : Row9 w A := by
  intro g off e
  rcases h.2 with ⟨hv, _⟩ | ⟨g', cap, cur, hv, _, hh, _⟩
  · cases hv; cases e
  · cases hv; cases e; exact ⟨_, _, hh⟩
def SlPost9 (ss : List ByteArray) (w : World) (e : Ending) (w' : World) : Prop := ∃ A c, e = .returned (.slice A ss.length c) ∧ SAt w' A ss ∧ Below w.heap.size w w' ∧ Row9 w' A
set_option maxRecDepth 100000 in
set_option maxHeartbeats 4000000 in
theorem refLines9_any (a : Ask) (A1 A2 : Option Addr) (c1 c2 : Nat) (w : World) (hA : AskOK w a A1 A2) (hl1 : a.args.length ≤ 10000) (hl2 : a.regs.length ≤ 10000) (hl3 : ∀ ws ∈ a.regs, ws.length ≤ 10000) (hT : Tab w) (hst : 0 ≤ a.st ∧ a.st ≤ 18446744073709551615) (hfu : 0 ≤ a.fu ∧ a.fu ≤ 1000000) :
    Calls Tryz.prog 37 #[askVal a A1 c1 A2 c2] w (SlPost9 (linesA a) w) := by
  obtain ⟨k, args, regs, st, fu⟩ := a
  dsimp only at hl1 hl2 hl3 hst hfu
  unfold askVal linesA
  dsimp only
  obtain ⟨hW, hR, _, _⟩ := hA
  dsimp only at hW hR
  obtain ⟨n, hn⟩ : ∃ n, regs.length = n := ⟨_, rfl⟩
  rw [hn] at hl2 ⊢
  obtain ⟨i0, hi, hz0, hz1, hz2⟩ := info_parts info9
  have hi' := Lib.hid (And.intro hi (And.intro hz0 (And.intro hz1 hz2)))
  have hb0 := Lib.hid ((Below.refl w.heap.size w).alloc (Nat.le_refl _) (.cells #[.int .i64 k, .slice A1 args.length c1, .slice A2 n c2, .int .u64 st, .int .i64 fu] 42))
  have hbox := Lib.hid (heap_alloc_new w (.cells #[.int .i64 k, .slice A1 args.length c1, .slice A2 n c2, .int .u64 st, .int .i64 fu] 42))
  obtain ⟨g0, g1, g2, g3, g4, gf⟩ := box5 hbox.out
  have hlt := blk_lt hbox.out
  have kW := Lib.hid (show Calls Tryz.prog 17 #[.string ⟨#[105, 110]⟩, .slice A1 args.length c1] (w.alloc (.cells #[.int .i64 k, .slice A1 args.length c1, .slice A2 n c2, .int .u64 st, .int .i64 fu] 42)) (StrPost (lineT inW args) (w.alloc (.cells #[.int .i64 k, .slice A1 args.length c1, .slice A2 n c2, .int .u64 st, .int .i64 fu] 42))) from
    refWords_any inW A1 args.length c1 args _ rfl (hW.below hb0.out) (hT.below hb0.out) (by decide) (by omega))
  have kL := Lib.hid fun W (hb : Below w.heap.size w W) => refLine_any k A1 A2 args.length c1 n c2 st fu W (hT.below hb) hst.1 hst.2 hfu.1 hfu.2
  have kR := Lib.hid fun W (hb : Below w.heap.size w W) B cb ws (hB : WAt W B ws) (hl : ws.length ≤ 10000) => (show Calls Tryz.prog 17 #[.string ⟨#[119, 105, 116, 104]⟩, .slice B ws.length cb] W (StrPost (lineT withW ws) W) from refWords_any withW B ws.length cb ws W rfl hB (hT.below hb) (by decide) (by omega))
  have hR' := Lib.hid hR
  have hl3' := Lib.hid hl3
  have hn' := Lib.hid hn
  obtain ⟨T0, hT0⟩ : ∃ T0, lineT inW args = T0 := ⟨_, rfl⟩
  obtain ⟨Tl, hTl⟩ : ∃ Tl, askedT k st fu = Tl := ⟨_, rfl⟩
  rw [hT0] at kW ⊢
  rw [hTl] at kL ⊢
  clear hi hz0 hz1 hz2 hW hR hT hst hl3 hn hT0 hTl hfu
  go_enter Tryz.func37, Tryz.ntmps37
  go_wp2_with fail
  refine kW.out.mono ?_
  rintro e w1 ⟨rfl, hb1⟩
  have b1 := Lib.hid (Below.next hb0.out hb1)
  have hbx1 := Lib.hid ((hb1.block _ hlt).trans hbox.out)
  have hown0 := Lib.hid (own_one (W := w1) (b0 := w.heap.size + 1) (by have := blk_lt hbx1.out; omega) T0)
  have ba := Lib.hid (b1.out.alloc b1.out.size (.cells #[.string T0] 9))
  have hbx2 := Lib.hid ((heap_alloc_old w1 (.cells #[.string T0] 9) (blk_lt hbx1.out)).trans hbx1.out)
  clear hb1 g0 g1 g2 g3 g4 gf
  go_wp2_with fail
  go_loopg [3, 4] n (fun g s3 s4 wr => ∃ i : Nat, i + g = n ∧ s4 = .int .i64 i ∧ wr.ownsRow (w.heap.size + 1) 9 1 s3 (i + 1) (sCells (T0 :: (regs.take i).map (lineT withW))) ∧ wr.heap[w.heap.size]? = some (.cells #[.int .i64 k, .slice A1 args.length c1, .slice A2 n c2, .int .u64 st, .int .i64 fu] 42 (0, 0)) ∧ Below w.heap.size w wr)
  case atStart => exact ⟨0, by omega, rfl, hown0.out, hbx2.out, ba.out⟩
  case round =>
    obtain ⟨i, hig, rfl, ho, hbx, hb⟩ := hrel
    have ho := Lib.hid ho
    have hb := Lib.hid hb
    have hbx := Lib.hid hbx
    obtain ⟨g0, g1, g2, g3, g4, gf⟩ := box5 hbx.out
    have hsz := hb.out.size
    cases gk with
    | zero =>
      have e0 : ¬ ((i : Int) < (n : Int)) := by omega
      have htk : regs.take i = regs := List.take_of_length_le (by rw [hn'.out]; omega)
      have hot := ho.out
      rw [htk] at hot
      have ho := Lib.hid hot
      clear hot htk
      go_wp2_with fail
      refine (kL.out _ hb.out).mono ?_
      rintro e w4 ⟨rfl, hb4⟩
      have ho4 := ho.out.kept (row := none) ⟨hb4.os, hb4.tape, hb4.output, hb4.size, fun j hj _ => hb4.block j hj⟩ (Classical.em _)
      have b4 := Lib.hid (Below.next hb.out hb4)
      have hown := Lib.hid (ho4.alloc (.cells #[.string Tl] 9))
      have hnew := Lib.hid (cell_one_new w4 (.string Tl) 9)
      have hbA := Lib.hid (b4.out.alloc b4.out.size (.cells #[.string Tl] 9))
      have hone := Lib.hid (show ∀ v ∈ [Value.string Tl], v.oneCell' = true by simp [Value.oneCell'])
      have hk1 := Lib.hid (show i + 1 + 1 ≤ maxLen by unfold maxLen; omega)
      have hk2 := Lib.hid (show (i + 1 + 1) * 16 ≤ 140737488355328 by omega)
      have hbs0 := Lib.hid hbA.out.size
      have hbs := Lib.hid (show w.heap.size + 1 ≤ (w4.alloc (.cells #[.string Tl] 9)).heap.size by simp; have := b4.out.size; omega)
      have hin : i = n := by omega
      have hin := Lib.hid hin
      obtain ⟨hj1, hj2, hj3, hj4⟩ := hi'.out
      clear hb4 ho4
      go_wp2_with ((at_builtin; refine wpList_append_own_at _ rfl _ _ 67 rfl (w.heap.size + 1) 9 i0 _ 1 16 und67 hj1 hj2 hj3 hj4 rfl (by decide) u3 (i + 1) (sCells (T0 :: regs.map (lineT withW))) rfl hown.out ⟨w4.heap.size, 0, none⟩ 1 1 [.string Tl] rfl rfl hnew.out hone.out hk1.out hk2.out hbs.out ?_; intro v' w5 hown5 hg5 hnil5 hat5))
      have hB5 := Lib.hid (hbA.out.grown hg5 hbs0.out (fun g' e => by have := (hown.out.lt g' e).1; omega))
      obtain ⟨A, c, rfl, hS⟩ := own_SAt (ss := T0 :: (regs.map (lineT withW) ++ [Tl])) (by simpa [sCells] using hown5) (by simp [hn'.out]; have := hin.out; omega)
      have hS := Lib.hid hS
      have h9 := Lib.hid (own_row9 hown5)
      clear hown5 hg5 hnil5 hat5
      go_wp2
      go_ret
      refine ⟨A, c, ?_, hS.out, hB5.out, h9.out⟩
      have e6 : (T0 :: (regs.map (lineT withW) ++ [Tl])).length = i + 1 + 1 := by simp [hn'.out]; have := hin.out; omega
      rw [e6]; rfl
    | succ g =>
      have e0 : (i : Int) < (n : Int) := by omega
      obtain ⟨blk, off, ws, B, cb, rfl, hws, v1, v2, v3⟩ := (hR'.out.below hb.out).at_ (k := i) (by rw [hn'.out]; omega)
      have hws' := Lib.hid hws
      have hcall := Lib.hid (kR.out wr hb.out B cb ws v3 (hl3'.out ws (List.mem_of_getElem? hws)))
      clear hws v3
      go_wp2_with fail
      refine hcall.out.mono ?_
      rintro e w4 ⟨rfl, hb4⟩
      have ho4 := ho.out.kept (row := none) ⟨hb4.os, hb4.tape, hb4.output, hb4.size, fun j hj _ => hb4.block j hj⟩ (Classical.em _)
      have b4 := Lib.hid (Below.next hb.out hb4)
      have hlt4 := blk_lt hbx.out
      have hbx4 := Lib.hid ((heap_alloc_old w4 (.cells #[.string (lineT withW ws)] 9) (Nat.lt_of_lt_of_le hlt4 hb4.size)).trans ((hb4.block _ hlt4).trans hbx.out))
      have hown := Lib.hid (ho4.alloc (.cells #[.string (lineT withW ws)] 9))
      have hnew := Lib.hid (cell_one_new w4 (.string (lineT withW ws)) 9)
      have hbA := Lib.hid (b4.out.alloc b4.out.size (.cells #[.string (lineT withW ws)] 9))
      have hone := Lib.hid (show ∀ v ∈ [Value.string (lineT withW ws)], v.oneCell' = true by simp [Value.oneCell'])
      have hk1 := Lib.hid (show i + 1 + 1 ≤ maxLen by unfold maxLen; omega)
      have hk2 := Lib.hid (show (i + 1 + 1) * 16 ≤ 140737488355328 by omega)
      have hbs0 := Lib.hid hbA.out.size
      have hbs := Lib.hid (show w.heap.size + 1 ≤ (w4.alloc (.cells #[.string (lineT withW ws)] 9)).heap.size by simp; have := b4.out.size; omega)
      have hlt5 := Lib.hid (show w.heap.size < (w4.alloc (.cells #[.string (lineT withW ws)] 9)).heap.size by simp; have := hb4.size; omega)
      obtain ⟨hj1, hj2, hj3, hj4⟩ := hi'.out
      clear hb4 ho4 g0 g1 g2 g3 g4 gf v1 v2
      generalize hTw : lineT withW ws = Tw at *
      go_wp2_with ((at_builtin; refine wpList_append_own_at _ rfl _ _ 67 rfl (w.heap.size + 1) 9 i0 _ 1 16 und67 hj1 hj2 hj3 hj4 rfl (by decide) u3 (i + 1) (sCells (T0 :: (regs.take i).map (lineT withW))) rfl hown.out ⟨w4.heap.size, 0, none⟩ 1 1 [.string Tw] rfl rfl hnew.out hone.out hk1.out hk2.out hbs.out ?_; intro v' w5 hown5 hg5 hnil5 hat5))
      have hB5 := Lib.hid (hbA.out.grown hg5 hbs0.out (fun g' e => by have := (hown.out.lt g' e).1; omega))
      have hbx5 := Lib.hid (hg5.block _ hlt5.out (fun e => by
        have := (hown.out.lt _ e.symm).1; omega))
      have hown5' := Lib.hid hown5
      clear hown5 hg5 hnil5 hat5
      go_wp2
      go_roundg g
      case measure => omega
      case rel =>
        refine ⟨i + 1, by omega, by go_num, ?_, hbx5.out.trans hbx4.out, hB5.out⟩
        have e5 : (regs.take (i + 1)).map (lineT withW) = (regs.take i).map (lineT withW) ++ [Tw] := by
          rw [List.take_add_one, hws'.out, List.map_append, ← hTw]
          rfl
        rw [e5]
        simpa [sCells] using hown5'.out
theorem refLines_any (a : Ask) (A1 A2 : Option Addr) (c1 c2 : Nat) (w : World) (hA : AskOK w a A1 A2) (hl1 : a.args.length ≤ 10000) (hl2 : a.regs.length ≤ 10000) (hl3 : ∀ ws ∈ a.regs, ws.length ≤ 10000) (hT : Tab w) (hst : 0 ≤ a.st ∧ a.st ≤ 18446744073709551615) (hfu : 0 ≤ a.fu ∧ a.fu ≤ 1000000) :
    Calls Tryz.prog 37 #[askVal a A1 c1 A2 c2] w (SlPost (linesA a) w) :=
  (refLines9_any a A1 A2 c1 c2 w hA hl1 hl2 hl3 hT hst hfu).mono fun e w' ⟨A, c, h1, h2, h3, _⟩ => ⟨A, c, h1, h2, h3⟩
end Go.Proofs.YtkbmckmlnphpmaaGreatDoor
namespace Go.Proofs.YtkbmckmlnphpmaaGreatDoor
open Go.RowKit Go.Lib Go.Shelf

attribute [local go_sem] Oper.semAt_some

theorem tab_block {w w' : World} (h : Tab w) (h0 : w'.heap[0]? = w.heap[0]?) : Tab w' := by
  unfold Tab TabIs World.var? at *
  have g : Tryz.prog.globalNamed "internal/strconv.uint64pow10" = some 0 := by kernel_rfl
  rw [g] at h ⊢
  simp only [Option.bind_some] at h ⊢
  rw [h0]
  exact h
theorem tab_lt {w : World} (h : Tab w) : 0 < w.heap.size := by
  unfold Tab TabIs World.var? at h
  have g : Tryz.prog.globalNamed "internal/strconv.uint64pow10" = some 0 := by kernel_rfl
  rw [g] at h
  simp only [Option.bind_some] at h
  rcases Nat.eq_zero_or_pos w.heap.size with h0 | h0
  · rw [Array.getElem?_eq_none (by omega)] at h; cases h
  · exact h0
theorem Agree.lt {F : Nat → Prop} {w w' : World} (h : Agree F w w') (hF : ∀ x, F x → x < w.heap.size) : ∀ x, F x → x < w'.heap.size := fun x hx => by
  have h1 := h x hx
  rw [Array.getElem?_eq_getElem (hF x hx)] at h1
  exact blk_lt h1
theorem Agree.trans {F : Nat → Prop} {a b c : World} (h : Agree F a b) (k : Agree F b c) : Agree F a c := fun x hx => (k x hx).trans (h x hx)
theorem agree_below {F : Nat → Prop} {w w' : World} (hF : ∀ x, F x → x < w.heap.size) (hb : Below w.heap.size w w') : Agree F w w' := fun x hx => hb.block x (hF x hx)
def intOf : Value → Int
  | .int _ i => i
  | _ => 0
/-- an asking lies in a box, and its words in blocks of F -/
structure LinI (F : Nat → Prop) (W : World) (b : Nat) (a : Ask) (A1 : Option Addr) (c1 : Nat) (A2 : Option Addr) (c2 : Nat) : Prop where
  lt : ∀ x, F x → x < W.heap.size
  f0 : F 0
  fb : F b
  tab : Tab W
  blk : W.heap[b]? = some (.cells #[.int .i64 a.k, .slice A1 a.args.length c1, .slice A2 a.regs.length c2, .int .u64 a.st, .int .i64 a.fu] 42 (0, 0))
  wargs : WF F W A1 a.args
  wregs : WsF F W A2 a.regs
theorem LinI.go {F : Nat → Prop} {W W' : World} {b : Nat} {a : Ask} {A1 A2 : Option Addr} {c1 c2 : Nat} (h : LinI F W b a A1 c1 A2 c2) (hk : Agree F W W') : LinI F W' b a A1 c1 A2 c2 :=
  ⟨hk.lt h.lt, h.f0, h.fb, tab_block h.tab (hk 0 h.f0), (hk b h.fb).trans h.blk, h.wargs.go (fun _ x => x) hk, h.wregs.go (fun _ x => x) hk⟩
/-- sizes of an asking that is told -/
structure AskSm (a : Ask) : Prop where
  l1 : a.args.length ≤ 10000
  l2 : a.regs.length ≤ 10000
  l3 : ∀ ws ∈ a.regs, ws.length ≤ 10000
  st : 0 ≤ a.st ∧ a.st ≤ 18446744073709551615
def mayA (a : Ask) : Bool := mayV a.k a.args.length a.regs.length a.st a.fu (shortB a.regs)
def linesM (a : Ask) : List ByteArray := if mayA a then linesA a else []
theorem mayA_fu {a : Ask} (h : mayA a = true) : 0 ≤ a.fu ∧ a.fu ≤ 1000000 := by
  simp only [mayA, mayV, Bool.and_eq_true, decide_eq_true_eq] at h
  exact ⟨h.1.1.2, h.1.2⟩
theorem lines_at0 (a : Ask) (h : mayA a = true) : (linesM a)[([] : List ByteArray).length]? = some (lineT inW a.args) := by unfold linesM; rw [if_pos h]; rfl
theorem lines_atk {a : Ask} (h : mayA a = true) {i : Nat} {ws : List Int} (hw : a.regs[i]? = some ws) : (linesM a)[(lineT inW a.args :: (a.regs.take i).map (lineT withW)).length]? = some (lineT withW ws) := by
  have hl := (List.getElem?_eq_some_iff.1 hw).1
  unfold linesM linesA
  rw [if_pos h, List.length_cons, List.length_map, List.length_take, Nat.min_eq_left (by omega), List.getElem?_cons_succ, List.getElem?_append_left (by rw [List.length_map]; exact hl), List.getElem?_map, hw]
  rfl
theorem lines_atl (a : Ask) (h : mayA a = true) : (linesM a)[(lineT inW a.args :: a.regs.map (lineT withW)).length]? = some (askedT a.k a.st a.fu) := by
  unfold linesM linesA
  rw [if_pos h, List.length_cons, List.getElem?_cons_succ, List.getElem?_append_right (Nat.le_refl _), Nat.sub_self]
  rfl
theorem lines_all (a : Ask) (h : mayA a = true) : (lineT inW a.args :: a.regs.map (lineT withW)) ++ [askedT a.k a.st a.fu] = linesM a := by
  unfold linesM linesA
  rw [if_pos h]
  rfl

set_option maxRecDepth 100000 in
set_option maxHeartbeats 1000000 in
theorem lines44_any (a : Ask) (A1 A2 : Option Addr) (c1 c2 : Nat) (w : World) :
    Calls Tryz.prog 44 #[askVal a A1 c1 A2 c2] w fun e w' => e = .returned (.func (.func 73) #[] #[.pointer (some ⟨w.heap.size, 0, none⟩)]) ∧ w' = w.alloc (.cells #[.int .i64 a.k, .slice A1 a.args.length c1, .slice A2 a.regs.length c2, .int .u64 a.st, .int .i64 a.fu] 42) := by
  unfold askVal
  go_enter Tryz.func44, Tryz.ntmps44
  go_wp2
  go_ret
  exact ⟨rfl, rfl⟩

set_option maxRecDepth 100000 in
set_option maxHeartbeats 8000000 in
theorem lines73_in (n : Nat) (hn : 1 ≤ n) (l b : Nat) (a : Ask) (A1 A2 : Option Addr) (c1 c2 : Nat) (F : Nat → Prop) (J Jx : List ByteArray → World → Prop) (W : World) (hL : LinI F W b a A1 c1 A2 c2) (hs : AskSm a)
    (hJ : ∀ s W W', J s W → Below W.heap.size W W' → J s W')
    (hY : ∀ pre x W1, J pre W1 → (linesM a)[pre.length]? = some x → YieldAt Fence.wide (n - 1) Tryz.prog l #[.string x] W1 fun e W' => (e = .returned (.bool true) ∧ J (pre ++ [x]) W' ∧ Agree F W1 W') ∨ (e = .returned (.bool false) ∧ Jx (pre ++ [x]) W'))
    (hJ0 : J [] W) :
    CallsIn Fence.wide n Tryz.prog 73 #[.func (.yield l) #[] #[], .pointer (some ⟨b, 0, none⟩)] W fun e W' => (∃ v, e = .returned v) ∧
      ((∃ xs, xs = linesM a ∧ J xs W') ∨ (∃ pre, True ∧ Jx pre W')) := by
  have hY' := Lib.hid hY
  have hJ' := Lib.hid hJ
  have hL' := Lib.hid hL
  have hJ0' := Lib.hid hJ0
  have hs' := Lib.hid hs
  obtain ⟨g0, g1, g2, g3, g4, gf⟩ := box5 hL.blk
  have hmay := Lib.hid (show Calls Tryz.prog 34 #[.agg #[.int .i64 a.k, .slice A1 a.args.length c1, .slice A2 a.regs.length c2, .int .u64 a.st, .int .i64 a.fu]] W (BoolPost (mayA a) W) from may_any a.k A1 A2 a.args.length c1 a.regs.length c2 a.regs a.st a.fu W rfl hL.wregs.wsat (by have := hs.l2; omega) (by have := hs.l1; omega))
  obtain ⟨t, ht⟩ : ∃ t, mayA a = t := ⟨_, rfl⟩
  rw [ht] at hmay
  have ht' := Lib.hid ht
  clear hY hJ hL hJ0 hs ht
  refine callsIn_of_wp Tryz.func73 rfl trivial ?_ rfl
  simp only [Tryz.ntmps73, List.size_toArray, List.length_cons, List.length_nil, Nat.reduceAdd, Nat.reduceSub, Array.replicate_succ, Array.replicate_zero, List.push_toArray, List.append_toArray, List.nil_append, List.cons_append]
  gi_wp2_with fail
  refine ⟨trivial, ?_⟩
  refine (callsIn_wide.2 hmay.out).mono ?_
  rintro e w1 ⟨rfl, hb1⟩
  have L1 := Lib.hid (hL'.out.go (agree_below hL'.out.lt hb1))
  have J1 := Lib.hid (hJ'.out _ _ _ hJ0'.out hb1)
  clear hb1 g0 g1 g2 g3 g4 gf hmay
  obtain ⟨g0, g1, g2, g3, g4, gf⟩ := box5 L1.out.blk
  cases t
  · gi_wp2_with fail
    repeat ((with_reducible (refine And.intro ?_ ?_)); (first | trivial | exact (fun f e => by cases e)); try gi_wp2_with fail)
    refine bodyPost_ret (results_none rfl _ _ _) rfl ?_
    exact ⟨⟨_, rfl⟩, .inl ⟨[], by unfold linesM; rw [ht'.out]; rfl, J1.out⟩⟩
  · have hfu := Lib.hid (mayA_fu ht'.out)
    have hline := Lib.hid (show Calls Tryz.prog 50 #[.string ⟨#[105, 110]⟩, .slice A1 a.args.length c1] w1 (StrPost (lineT inW a.args) w1) from line_any inW A1 a.args.length c1 a.args w1 rfl L1.out.wargs.wat L1.out.tab (by decide) (by have := hs'.out.l1; omega))
    gi_wp2_with fail
    refine ⟨trivial, ?_⟩
    refine (callsIn_wide.2 hline.out).mono ?_
    rintro e w2 ⟨rfl, hb2⟩
    have L2 := Lib.hid (L1.out.go (agree_below L1.out.lt hb2))
    have J2 := Lib.hid (hJ'.out _ _ _ J1.out hb2)
    obtain ⟨fn, tmps, assign, body, hy, hRo⟩ := hY'.out [] (lineT inW a.args) w2 J2.out (lines_at0 a ht'.out)
    have hRo' := Lib.hid hRo
    clear hRo hb2 g0 g1 g2 g3 g4 gf hline
    gi_wp2_with fail
    refine hRo'.out.mono ?_
    rintro e W3 (⟨rfl, hJ3, hk3⟩ | ⟨rfl, hJx3⟩)
    · have L3 := Lib.hid (L2.out.go hk3)
      have J3 := Lib.hid hJ3
      obtain ⟨g0, g1, g2, g3, g4, gf⟩ := box5 L3.out.blk
      clear hJ3 hk3 hRo' hy
      gi_wp2_with fail
      gi_loopw [21] (fun s21 wr => ∃ i : Nat, i ≤ a.regs.length ∧ s21 = .int .i64 i ∧ J (lineT inW a.args :: (a.regs.take i).map (lineT withW)) wr ∧ LinI F wr b a A1 c1 A2 c2) (fun s21 wr => a.regs.length - (intOf s21).toNat)
      case atStart => exact ⟨0, Nat.zero_le _, rfl, J3.out, L3.out⟩
      case round =>
        obtain ⟨i, hi, rfl, hJs, hLs⟩ := hrel
        have hJs := Lib.hid hJs
        have hLs := Lib.hid hLs
        clear g0 g1 g2 g3 g4 gf
        by_cases hlt : i < a.regs.length
        · have e0 : (i : Int) < (a.regs.length : Int) := by omega
          obtain ⟨blk, off, ws, B, cb, rfl, hws, v1, v2, v3⟩ := hLs.out.wregs.wsat.at_ (k := i) hlt
          have hws' := Lib.hid hws
          have hrl := hs'.out.l2
          have hln := Lib.hid (show Calls Tryz.prog 50 #[.string ⟨#[119, 105, 116, 104]⟩, .slice B ws.length cb] wr (StrPost (lineT withW ws) wr) from line_any withW B ws.length cb ws wr rfl v3 hLs.out.tab (by decide) (by have := hs'.out.l3 ws (List.mem_of_getElem? hws); omega))
          have hlk := Lib.hid (lines_atk ht'.out hws)
          clear hws v3
          gi_wp2_with fail
          refine ⟨trivial, ?_⟩
          refine (callsIn_wide.2 hln.out).mono ?_
          rintro e w4 ⟨rfl, hb4⟩
          have L4 := Lib.hid (hLs.out.go (agree_below hLs.out.lt hb4))
          have J4 := Lib.hid (hJ'.out _ _ _ hJs.out hb4)
          obtain ⟨fn, tmps, assign, body, hy, hRo⟩ := hY'.out _ (lineT withW ws) w4 J4.out hlk.out
          have hRo' := Lib.hid hRo
          clear hRo hb4 v1 hln
          gi_wp2_with fail
          refine hRo'.out.mono ?_
          rintro e W5 (⟨rfl, hJ5, hk5⟩ | ⟨rfl, hJx5⟩)
          · have L5 := Lib.hid (L4.out.go hk5)
            have J5 := Lib.hid hJ5
            clear hJ5 hk5
            gi_wp2
            go_roundw
            case rel =>
              refine ⟨i + 1, by omega, by go_num, ?_, L5.out⟩
              have e5 : lineT inW a.args :: (a.regs.take (i + 1)).map (lineT withW) = (lineT inW a.args :: (a.regs.take i).map (lineT withW)) ++ [lineT withW ws] := by
                rw [List.take_add_one, hws'.out, List.map_append]
                rfl
              rw [e5]
              exact J5.out
            case measure => simp [intOf]; omega
          · have hJx5' := Lib.hid hJx5
            clear hJx5
            gi_wp2
            refine bodyPost_ret (results_none rfl _ _ _) rfl ?_
            exact ⟨⟨_, rfl⟩, .inr ⟨_, trivial, hJx5'.out⟩⟩
        · obtain rfl : i = a.regs.length := by omega
          obtain ⟨g0, g1, g2, g3, g4, gf⟩ := box5 hLs.out.blk
          have has := Lib.hid (asked_any a.k A1 A2 a.args.length c1 a.regs.length c2 a.st a.fu wr hLs.out.tab hs'.out.st.1 hs'.out.st.2 hfu.out.1 hfu.out.2)
          have hJt := hJs.out
          rw [List.take_length] at hJt
          have hJt := Lib.hid hJt
          gi_wp2_with fail
          refine ⟨trivial, ?_⟩
          refine (callsIn_wide.2 has.out).mono ?_
          rintro e w4 ⟨rfl, hb4⟩
          have J4 := Lib.hid (hJ'.out _ _ _ hJt.out hb4)
          obtain ⟨fn, tmps, assign, body, hy, hRo⟩ := hY'.out _ (askedT a.k a.st a.fu) w4 J4.out (lines_atl a ht'.out)
          have hRo' := Lib.hid hRo
          clear hRo hb4 has g0 g1 g2 g3 g4 gf
          gi_wp2_with fail
          refine hRo'.out.mono ?_
          rintro e W5 (⟨rfl, hJ5, hk5⟩ | ⟨rfl, hJx5⟩)
          · have J5 := Lib.hid hJ5
            clear hJ5 hk5
            gi_wp2
            go_end0
            exact ⟨⟨_, rfl⟩, .inl ⟨_, lines_all a ht'.out, J5.out⟩⟩
          · have hJx5' := Lib.hid hJx5
            clear hJx5
            gi_wp2
            go_end0
            exact ⟨⟨_, rfl⟩, .inr ⟨_, trivial, hJx5'.out⟩⟩
    · have hJx3' := Lib.hid hJx3
      clear hJx3
      gi_wp2
      refine bodyPost_ret (results_none rfl _ _ _) rfl ?_
      exact ⟨⟨_, rfl⟩, .inr ⟨_, trivial, hJx3'.out⟩⟩
end Go.Proofs.YtkbmckmlnphpmaaGreatDoor
namespace Go.Proofs.YtkbmckmlnphpmaaGreatDoor
open Go.RowKit Go.Lib Go.Shelf

attribute [local go_sem] Oper.semAt_some

theorem WAt.wf {w : World} {A : Option Addr} {ws : List Int} (h : WAt w A ws) {F : Nat → Prop} (hF : ∀ x, x < w.heap.size → F x) : WF F w A ws := by
  refine ⟨h.1, fun hn => ?_⟩
  obtain ⟨blk, off, e, hc⟩ := h.2 hn
  exact ⟨blk, off, e, hF _ (cell_some_lt (hc 0 ws[0] (by simp))), hc⟩
theorem WsAt.wsf {w : World} {A : Option Addr} {W : List (List Int)} (h : WsAt w A W) {F : Nat → Prop} (hF : ∀ x, x < w.heap.size → F x) : WsF F w A W := by
  intro hn
  obtain ⟨blk, off, e, hc⟩ := h hn
  refine ⟨blk, off, e, ?_, fun i ws hi => ?_⟩
  · obtain ⟨A', c, h1, _⟩ := hc 0 W[0] (by simp)
    exact hF _ (cell_some_lt h1)
  · obtain ⟨A', c, h1, h2, h3⟩ := hc i ws hi
    exact ⟨A', c, h1, h2, h3.wf hF⟩
theorem lines73_said (n : Nat) (hn : 1 ≤ n) (b : Nat) (a : Ask) (A1 A2 : Option Addr) (c1 c2 : Nat) (F : Nat → Prop) (w : World) (hL : LinI F w b a A1 c1 A2 c2) (hs : AskSm a) :
    IterGrow n 73 #[.pointer (some ⟨b, 0, none⟩)] (Agree F) (fun pre x => (linesM a)[pre.length]? = some x) (fun xs => xs = linesM a) (fun _ => True) w :=
  fun l J Jx W hW hJ hY h0 => lines73_in n hn l b a A1 A2 c1 c2 F J Jx W (hL.go (agree_below hL.lt hW)) hs hJ hY h0
theorem run_it_nil (p : Addr) (w : World) : (binOp BinOp.eql 76 (.func (.func 73) #[] #[.pointer (some p)]) .nilFunc).run Tryz.prog w = .ok (.bool false) w := by kernel_rfl
/-- between two rounds -/
structure OnI (w : World) (B : Option Addr) (LN cw : Nat) (m : Int) (pre : List ByteArray) (W : World) : Prop where
  b4 : Box1 W (w.heap.size + 1) 67 (.slice B LN cw)
  b5 : Box1 W (w.heap.size + 1 + 1) 3 (.int .i64 m)
  b6 : Box1 W (w.heap.size + 1 + 1 + 1) 4 (.bool false)
  b7 : Box1 W (w.heap.size + 1 + 1 + 1 + 1) 3 (.int .i64 (pre.length : Int))
  bel : Below w.heap.size w W
  sz : w.heap.size + 6 ≤ W.heap.size
structure OnX (w : World) (pre : List ByteArray) (W : World) : Prop where
  b6 : Box1 W (w.heap.size + 1 + 1 + 1) 4 (.bool true)
  bel : Below w.heap.size w W
theorem onI_calm {w : World} {B : Option Addr} {LN cw : Nat} {m : Int} : Calm (w.heap.size + 1 + 1 + 1 + 1 + 1 + 1) (OnI w B LN cw m) :=
  ⟨fun s W o h hB => ⟨h.b4.alloc o, h.b5.alloc o, h.b6.alloc o, h.b7.alloc o, h.bel.alloc h.bel.size o, by have := h.sz; simp; omega⟩,
   fun s W l o o' h hB hl ho => ⟨h.b4.put hl ho o', h.b5.put hl ho o', h.b6.put hl ho o', h.b7.put hl ho o', below_put h.bel (by omega) o', by have := h.sz; simpa using this⟩⟩
theorem onX_calm {w : World} : Calm (w.heap.size + 1 + 1 + 1 + 1 + 1 + 1) (OnX w) :=
  ⟨fun s W o h hB => ⟨h.b6.alloc o, h.bel.alloc h.bel.size o⟩, fun s W l o o' h hB hl ho => ⟨h.b6.put hl ho o', below_put h.bel (by omega) o'⟩⟩
theorem Box1.go {W W' : World} {b : Nat} {t : TypeId} {v : Value} (h : Box1 W b t v) (hb : Below W.heap.size W W') : Box1 W' b t v := (hb.block _ (blk_lt h)).trans h
theorem onI_grow {w : World} {B : Option Addr} {LN cw : Nat} {m : Int} : ∀ s W W', OnI w B LN cw m s W → Below W.heap.size W W' → OnI w B LN cw m s W' :=
  fun s W W' h hb => ⟨h.b4.go hb, h.b5.go hb, h.b6.go hb, h.b7.go hb, Below.next h.bel hb, Nat.le_trans h.sz hb.size⟩

set_option maxRecDepth 100000 in
set_option maxHeartbeats 8000000 in
theorem once_in (a : Ask) (A1 A2 : Option Addr) (c1 c2 : Nat) (B : Option Addr) (LN cw : Nat) (m : Int) (w : World) (hA : AskOK w a A1 A2) (hs : AskSm a) (hT : Tab w) (hLN : (linesM a).length = LN) (hB : SAt w B (linesM a)) (hLNle : LN ≤ 100000) :
    CallsIn Fence.wide 5 Tryz.prog 36 #[askVal a A1 c1 A2 c2, .slice B LN cw, .int .i64 m] w (BoolPost true w) := by
  have hLN' := Lib.hid hLN
  have hB' := Lib.hid hB
  have hs' := Lib.hid hs
  unfold askVal
  refine callsIn_of_wp_marks Tryz.func36 rfl trivial ?_ rfl
  simp only [Tryz.ntmps36, List.size_toArray, List.length_cons, List.length_nil, Nat.reduceAdd, Nat.reduceSub, Array.replicate_succ, Array.replicate_zero, List.push_toArray, List.append_toArray, List.nil_append, List.cons_append]
  have s1 : (w.alloc (.cells #[.int .i64 a.k, .slice A1 a.args.length c1, .slice A2 a.regs.length c2, .int .u64 a.st, .int .i64 a.fu] 42)).heap.size = w.heap.size + 1 := by simp
  have s2 : ((w.alloc (.cells #[.int .i64 a.k, .slice A1 a.args.length c1, .slice A2 a.regs.length c2, .int .u64 a.st, .int .i64 a.fu] 42)).alloc (.cells #[.slice B LN cw] 67)).heap.size = w.heap.size + 2 := by simp
  have s3 : (((w.alloc (.cells #[.int .i64 a.k, .slice A1 a.args.length c1, .slice A2 a.regs.length c2, .int .u64 a.st, .int .i64 a.fu] 42)).alloc (.cells #[.slice B LN cw] 67)).alloc (.cells #[.int .i64 m] 3)).heap.size = w.heap.size + 3 := by simp
  have s4 : ((((w.alloc (.cells #[.int .i64 a.k, .slice A1 a.args.length c1, .slice A2 a.regs.length c2, .int .u64 a.st, .int .i64 a.fu] 42)).alloc (.cells #[.slice B LN cw] 67)).alloc (.cells #[.int .i64 m] 3)).alloc (.cells #[.bool false] 4)).heap.size = w.heap.size + 4 := by simp
  have k3 : (((((w.alloc (.cells #[.int .i64 a.k, .slice A1 a.args.length c1, .slice A2 a.regs.length c2, .int .u64 a.st, .int .i64 a.fu] 42)).alloc (.cells #[.slice B LN cw] 67)).alloc (.cells #[.int .i64 m] 3)).alloc (.cells #[.bool false] 4)).alloc (.cells #[.int .i64 0] 3)).heap[w.heap.size]? = some (.cells #[.int .i64 a.k, .slice A1 a.args.length c1, .slice A2 a.regs.length c2, .int .u64 a.st, .int .i64 a.fu] 42 (0, 0)) := by
    rw [heap_alloc_old _ _ (by rw [s4]; omega), heap_alloc_old _ _ (by rw [s3]; omega), heap_alloc_old _ _ (by rw [s2]; omega), heap_alloc_old _ _ (by rw [s1]; omega)]
    exact heap_alloc_new w _
  have k4 : Box1 (((((w.alloc (.cells #[.int .i64 a.k, .slice A1 a.args.length c1, .slice A2 a.regs.length c2, .int .u64 a.st, .int .i64 a.fu] 42)).alloc (.cells #[.slice B LN cw] 67)).alloc (.cells #[.int .i64 m] 3)).alloc (.cells #[.bool false] 4)).alloc (.cells #[.int .i64 0] 3)) (w.heap.size + 1) 67 (.slice B LN cw) := by
    have h := heap_alloc_new (w.alloc (.cells #[.int .i64 a.k, .slice A1 a.args.length c1, .slice A2 a.regs.length c2, .int .u64 a.st, .int .i64 a.fu] 42)) (.cells #[.slice B LN cw] 67)
    rw [s1] at h
    exact ((Box1.alloc (Box1.alloc (Box1.alloc h _) _) _))
  have k5 : Box1 (((((w.alloc (.cells #[.int .i64 a.k, .slice A1 a.args.length c1, .slice A2 a.regs.length c2, .int .u64 a.st, .int .i64 a.fu] 42)).alloc (.cells #[.slice B LN cw] 67)).alloc (.cells #[.int .i64 m] 3)).alloc (.cells #[.bool false] 4)).alloc (.cells #[.int .i64 0] 3)) (w.heap.size + 1 + 1) 3 (.int .i64 m) := by
    have h := heap_alloc_new ((w.alloc (.cells #[.int .i64 a.k, .slice A1 a.args.length c1, .slice A2 a.regs.length c2, .int .u64 a.st, .int .i64 a.fu] 42)).alloc (.cells #[.slice B LN cw] 67)) (.cells #[.int .i64 m] 3)
    rw [s2] at h
    exact ((Box1.alloc (Box1.alloc h _) _))
  have k6 : Box1 (((((w.alloc (.cells #[.int .i64 a.k, .slice A1 a.args.length c1, .slice A2 a.regs.length c2, .int .u64 a.st, .int .i64 a.fu] 42)).alloc (.cells #[.slice B LN cw] 67)).alloc (.cells #[.int .i64 m] 3)).alloc (.cells #[.bool false] 4)).alloc (.cells #[.int .i64 0] 3)) (w.heap.size + 1 + 1 + 1) 4 (.bool false) := by
    have h := heap_alloc_new (((w.alloc (.cells #[.int .i64 a.k, .slice A1 a.args.length c1, .slice A2 a.regs.length c2, .int .u64 a.st, .int .i64 a.fu] 42)).alloc (.cells #[.slice B LN cw] 67)).alloc (.cells #[.int .i64 m] 3)) (.cells #[.bool false] 4)
    rw [s3] at h
    exact (Box1.alloc h _)
  have k7 : Box1 (((((w.alloc (.cells #[.int .i64 a.k, .slice A1 a.args.length c1, .slice A2 a.regs.length c2, .int .u64 a.st, .int .i64 a.fu] 42)).alloc (.cells #[.slice B LN cw] 67)).alloc (.cells #[.int .i64 m] 3)).alloc (.cells #[.bool false] 4)).alloc (.cells #[.int .i64 0] 3)) (w.heap.size + 1 + 1 + 1 + 1) 3 (.int .i64 0) := by
    have h := heap_alloc_new ((((w.alloc (.cells #[.int .i64 a.k, .slice A1 a.args.length c1, .slice A2 a.regs.length c2, .int .u64 a.st, .int .i64 a.fu] 42)).alloc (.cells #[.slice B LN cw] 67)).alloc (.cells #[.int .i64 m] 3)).alloc (.cells #[.bool false] 4)) (.cells #[.int .i64 0] 3)
    rw [s4] at h
    exact h
  have s5 : (((((w.alloc (.cells #[.int .i64 a.k, .slice A1 a.args.length c1, .slice A2 a.regs.length c2, .int .u64 a.st, .int .i64 a.fu] 42)).alloc (.cells #[.slice B LN cw] 67)).alloc (.cells #[.int .i64 m] 3)).alloc (.cells #[.bool false] 4)).alloc (.cells #[.int .i64 0] 3)).heap.size = w.heap.size + 5 := by simp
  have kb : Below w.heap.size w (((((w.alloc (.cells #[.int .i64 a.k, .slice A1 a.args.length c1, .slice A2 a.regs.length c2, .int .u64 a.st, .int .i64 a.fu] 42)).alloc (.cells #[.slice B LN cw] 67)).alloc (.cells #[.int .i64 m] 3)).alloc (.cells #[.bool false] 4)).alloc (.cells #[.int .i64 0] 3)) := (((((Below.refl w.heap.size w).alloc (Nat.le_refl _) _).alloc (by omega) _).alloc (by omega) _).alloc (by omega) _).alloc (by omega) _
  obtain ⟨W5, hW5⟩ : ∃ W5, W5 = (((((w.alloc (.cells #[.int .i64 a.k, .slice A1 a.args.length c1, .slice A2 a.regs.length c2, .int .u64 a.st, .int .i64 a.fu] 42)).alloc (.cells #[.slice B LN cw] 67)).alloc (.cells #[.int .i64 m] 3)).alloc (.cells #[.bool false] 4)).alloc (.cells #[.int .i64 0] 3)) := ⟨_, rfl⟩
  rw [← hW5] at k3 k4 k5 k6 k7 s5 kb
  have hW5' := Lib.hid hW5
  obtain ⟨g0, g1, g2, g3, g4, gf⟩ := box5 k3
  have hL0 : LinI (fun x => x < w.heap.size ∨ x = w.heap.size + 1 + 1 + 1 + 1 + 1) (W5.alloc (.cells #[.int .i64 a.k, .slice A1 a.args.length c1, .slice A2 a.regs.length c2, .int .u64 a.st, .int .i64 a.fu] 42)) (w.heap.size + 1 + 1 + 1 + 1 + 1) a A1 c1 A2 c2 := by
    have hkb : Below w.heap.size w (W5.alloc (.cells #[.int .i64 a.k, .slice A1 a.args.length c1, .slice A2 a.regs.length c2, .int .u64 a.st, .int .i64 a.fu] 42)) := kb.alloc (by omega) _
    have hag : Agree (fun x => x < w.heap.size) w (W5.alloc (.cells #[.int .i64 a.k, .slice A1 a.args.length c1, .slice A2 a.regs.length c2, .int .u64 a.st, .int .i64 a.fu] 42)) := fun x hx => hkb.block x hx
    refine ⟨fun x hx => by simp; omega, .inl (tab_lt hT), .inr rfl, hT.below hkb, ?_, (hA.1.wf (F := fun x => x < w.heap.size) (fun x hx => hx)).go (fun x hx => .inl hx) hag, (hA.2.1.wsf (F := fun x => x < w.heap.size) (fun x hx => hx)).go (fun x hx => .inl hx) hag⟩
    have := heap_alloc_new W5 (.cells #[.int .i64 a.k, .slice A1 a.args.length c1, .slice A2 a.regs.length c2, .int .u64 a.st, .int .i64 a.fu] 42)
    rw [s5] at this
    exact this
  have hL0' := Lib.hid hL0
  have i4 := Lib.hid (k4.alloc (.cells #[.int .i64 a.k, .slice A1 a.args.length c1, .slice A2 a.regs.length c2, .int .u64 a.st, .int .i64 a.fu] 42))
  have i5 := Lib.hid (k5.alloc (.cells #[.int .i64 a.k, .slice A1 a.args.length c1, .slice A2 a.regs.length c2, .int .u64 a.st, .int .i64 a.fu] 42))
  have i6 := Lib.hid (k6.alloc (.cells #[.int .i64 a.k, .slice A1 a.args.length c1, .slice A2 a.regs.length c2, .int .u64 a.st, .int .i64 a.fu] 42))
  have i7 := Lib.hid (k7.alloc (.cells #[.int .i64 a.k, .slice A1 a.args.length c1, .slice A2 a.regs.length c2, .int .u64 a.st, .int .i64 a.fu] 42))
  have kb' := Lib.hid (kb.alloc (by omega) (.cells #[.int .i64 a.k, .slice A1 a.args.length c1, .slice A2 a.regs.length c2, .int .u64 a.st, .int .i64 a.fu] 42))
  have s6 : (W5.alloc (.cells #[.int .i64 a.k, .slice A1 a.args.length c1, .slice A2 a.regs.length c2, .int .u64 a.st, .int .i64 a.fu] 42)).heap.size = w.heap.size + 6 := by simp [s5]
  have k44 := Lib.hid (lines44_any a A1 A2 c1 c2 W5)
  rw [s5] at k44
  have hrn := run_it_nil
  clear hA hT hLN hB s1 s2 s3 s4 k3 k4 k5 k6 k7 kb hL0 hs
  gi_wp2_with fail
  rw [← hW5'.out]
  refine ⟨trivial, ?_⟩
  refine (callsIn_wide.2 k44.out).mono ?_
  rintro e W0 ⟨rfl, rfl⟩
  gi_wp2_with fail
  rw [← hW5'.out]
  obtain ⟨W0, hW0⟩ : ∃ W0, W0 = W5.alloc (.cells #[.int .i64 a.k, .slice A1 a.args.length c1, .slice A2 a.regs.length c2, .int .u64 a.st, .int .i64 a.fu] 42) := ⟨_, rfl⟩
  rw [← hW0] at hL0' i4 i5 i6 i7 kb' s6 ⊢
  clear hW0 k44
  refine wpIn_range_grow (n := 5) (by omega) rfl (enters_of Tryz.func73 (by kernel_rfl) rfl) (Kp := Agree (fun x => x < w.heap.size ∨ x = w.heap.size + 1 + 1 + 1 + 1 + 1)) Agree.trans ?kb
    (lines73_said 4 (by omega) (w.heap.size + 1 + 1 + 1 + 1 + 1) a A1 A2 c1 c2 _ W0 hL0'.out hs'.out) (OnI w B LN cw m) (OnX w) (by rw [s6]; exact onI_calm) (by rw [s6]; exact onX_calm) (fun s W W' h _ hb => onI_grow s W W' h hb)
    ⟨i4.out, i5.out, i6.out, i7.out, kb'.out, by rw [s6]; exact Nat.le_refl _⟩
    (fun x => #[.agg #[.int .i64 a.k, .slice A1 a.args.length c1, .slice A2 a.regs.length c2, .int .u64 a.st, .int .i64 a.fu], .slice B LN cw, .int .i64 m, .pointer (some ⟨w.heap.size, 0, none⟩), .pointer (some ⟨w.heap.size + 1, 0, none⟩), .pointer (some ⟨w.heap.size + 1 + 1, 0, none⟩), .pointer (some ⟨w.heap.size + 1 + 1 + 1, 0, none⟩), .pointer (some ⟨w.heap.size + 1 + 1 + 1 + 1, 0, none⟩),
      .func (.func 73) #[] #[.pointer (some ⟨w.heap.size + 1 + 1 + 1 + 1 + 1, 0, none⟩)], .string x, .agg #[.int .i64 a.k, .slice A1 a.args.length c1, .slice A2 a.regs.length c2, .int .u64 a.st, .int .i64 a.fu], .func (.func 73) #[] #[.pointer (some ⟨w.heap.size + 1 + 1 + 1 + 1 + 1, 0, none⟩)], .func (.func 73) #[] #[.pointer (some ⟨w.heap.size + 1 + 1 + 1 + 1 + 1, 0, none⟩)], .bool false,
      .func (.func 73) #[] #[.pointer (some ⟨w.heap.size + 1 + 1 + 1 + 1 + 1, 0, none⟩)], .string x, undef, undef, undef, undef, undef, undef, undef, undef, undef, undef, undef, undef, undef, undef, undef, undef, undef, undef, undef, undef, undef])
    ?assign ?body ?done ?stop
  case kb => exact fun W l o' hl x hx => World.putObj_heap_other (by omega)
  case assign =>
    intro l x W K hK
    have hK' := Lib.hid hK
    clear hK
    gi_wp2
    exact hK'.out
  case body =>
    rintro l pre x W hl hI hx
    have hx' := Lib.hid hx
    have hpl := (List.getElem?_eq_some_iff.1 hx).1
    have hLNe := hLN'.out
    have hpl2 : pre.length < LN := by omega
    obtain ⟨blk, off, x2, rfl, hx2, cx⟩ := hB'.out.at_ (k := pre.length) hpl
    rw [hx] at hx2
    cases hx2
    have cx := (hI.bel.cell (p := ⟨blk, off + pre.length, none⟩) (cell_some_lt cx)).trans cx
    have hI' := Lib.hid hI
    have y4 := hI.b4.c
    have y5 := hI.b5.c
    have y6 := hI.b6.c
    have y7 := hI.b7.c
    have f6 := hI.b6.f
    have f7 := hI.b7.f
    have hlt7 := blk_lt hI.b7
    have hlt6 := blk_lt hI.b6
    have heq : (x.toList == x.toList) = true := by simp
    obtain ⟨pl, hple⟩ : ∃ pl, pre.length = pl := ⟨_, rfl⟩
    rw [hple] at y7 cx hpl2 hpl
    have hple' := Lib.hid hple
    have e0 : ¬ ((LN : Int) ≤ (pl : Int)) := by omega
    have hw1 : IntKind.i64.wrap ((pl : Int) + 1) = (pl : Int) + 1 := by rw [IntKind.wrap_i64]; omega
    have hnext : OnI w (some ⟨blk, off, none⟩) LN cw m (pre ++ [x]) (W.setCell ⟨w.heap.size + 1 + 1 + 1 + 1, 0, none⟩ (.int .i64 ((pl : Int) + 1))) := by
      refine ⟨hI.b4.other (by omega) _, hI.b5.other (by omega) _, hI.b6.other (by omega) _, ?_, hI.bel.setCell (p := ⟨w.heap.size + 1 + 1 + 1 + 1, 0, none⟩) (by simp; omega) _, by rw [set_size]; exact hI.sz⟩
      have := hI.b7.set (u := .int .i64 ((pl : Int) + 1))
      rw [List.length_append, hple]
      exact this
    have hnext := Lib.hid hnext
    have hkp : ∀ (W : World) (b : Nat) (v : Value), w.heap.size ≤ b → b < w.heap.size + 1 + 1 + 1 + 1 + 1 → KeepsFrom (w.heap.size + 6) W (W.setCell ⟨b, 0, none⟩ v) := fun W b v h1 h2 => ⟨by rw [set_size]; exact Nat.le_refl _, fun k o hk ho _ => (set_other (by omega)).trans ho⟩
    have hkp := Lib.hid hkp
    clear hI hx hple hLNe
    by_cases hm : (pl : Int) + 1 = m
    · have em : ((pl : Int) + 1 == m) = true := by simpa using hm
      subst hm
      gi_wp2
      refine ⟨(hkp.out _ _ _ (by omega) (by omega)).trans (hkp.out _ _ _ (by omega) (by omega)), ?_, ?_⟩
      · exact (hnext.out.b6.set)
      · exact hnext.out.bel.setCell (p := ⟨w.heap.size + 1 + 1 + 1, 0, none⟩) (by simp; omega) _
    · have em : ((pl : Int) + 1 == m) = false := by simpa using hm
      gi_wp2
      exact ⟨hkp.out _ _ _ (by omega) (by omega), fun y hy => set_other (by omega), hnext.out⟩
  case done =>
    rintro D xs W hD hxs hI hK
    have hK' := Lib.hid hK
    have hI' := Lib.hid hI
    have y4 := hI.b4.c
    have y7 := hI.b7.c
    have y6 := hI.b6.c
    have f6 := hI.b6.f
    have hlt6 := blk_lt hI.b6
    rw [hxs, hLN'.out] at y7
    clear hI hK hxs
    gi_wp2
    have hKd : (W.setCell ⟨w.heap.size + 1 + 1 + 1, 0, none⟩ (.bool true)).heap[D]? = some (.deferred (some [])) := by
      rw [set_other (by omega)]; exact hK'.out
    refine ⟨by simp, .inl ⟨_, _, rfl, run_takeDeferred hKd, ?_⟩⟩
    have g6 : Box1 ((W.setCell ⟨w.heap.size + 1 + 1 + 1, 0, none⟩ (.bool true)).putObj D (.deferred none)) (w.heap.size + 1 + 1 + 1) 4 (.bool true) := Box1.put hI'.out.b6.set hKd rfl _
    have c6 := g6.c
    refine ⟨.bool true, by simp [results, Tryz.f36, go_sem, c6], rfl, ?_⟩
    exact below_put (hI'.out.bel.setCell (p := ⟨w.heap.size + 1 + 1 + 1, 0, none⟩) (by simp; omega) _) (by omega) _
  case stop =>
    rintro D pre W hD _ hX hK
    have hX' := Lib.hid hX
    have hK' := Lib.hid hK
    clear hX hK
    gi_wp2
    refine ⟨by simp, .inl ⟨_, _, rfl, run_takeDeferred hK'.out, ?_⟩⟩
    have c6 := (hX'.out.b6.put hK'.out rfl (.deferred none)).c
    refine ⟨.bool true, by simp [results, Tryz.f36, go_sem, c6], rfl, ?_⟩
    exact below_put hX'.out.bel (by omega) _
end Go.Proofs.YtkbmckmlnphpmaaGreatDoor
