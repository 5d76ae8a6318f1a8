/- Askings compared: the program's Same. -/
import Derived.Test.YtkbmckmlnphpmaaGreatDoorCF
set_option linter.unusedSimpArgs false
set_option linter.unusedVariables false
namespace Go.Proofs.YtkbmckmlnphpmaaGreatDoor
open Go.RowKit Go.Lib Go.Shelf

set_option maxRecDepth 100000 in
set_option maxHeartbeats 2000000 in
theorem equalW_any (A A' : Option Addr) (n c n' c' : Nat) (V W : List Int) (w : World) (hV : V.length = n) (hW : W.length = n') (hv : WAt w A V) (hw : WAt w A' W) (hn : n ≤ 4000000) (hn' : n' ≤ 4000000) :
    Calls Tryz.prog 75 #[.slice A n c, .slice A' n' c'] w (BoolPost (decide (V = W)) w) := by
  have hV' := Lib.hid hV
  have hW' := Lib.hid hW
  have hv' := Lib.hid hv
  have hw' := Lib.hid hw
  clear hV hW hv hw
  by_cases hnn : n = n'
  · subst hnn
    go_enter Tryz.func75, Tryz.ntmps75
    go_wp2_with fail
    go_loopg [13] n (fun g s4 wr => ∃ k : Nat, k + g = n ∧ s4 = .int .i64 k ∧ (∀ i, i < k → V[i]? = W[i]?) ∧ Below w.heap.size w wr)
    case atStart => exact ⟨0, by omega, rfl, fun i h => absurd h (by omega), Below.refl _ _⟩
    case round =>
      obtain ⟨k, hkg, rfl, hall, hb⟩ := hrel
      have hall' := Lib.hid hall
      have hb' := Lib.hid hb
      clear hall hb
      cases gk with
      | zero =>
        have e0 : ¬ ((k : Int) < (n : Int)) := by omega
        have hfin := Lib.hid (show V = W from list_eq_all hV'.out hW'.out fun i hi => hall'.out i (by omega))
        go_wp2
        go_ret
        exact ⟨ret_bool (by simp [hfin.out]), hb'.out⟩
      | succ g =>
        have e1 : (k : Int) < (n : Int) := by omega
        obtain ⟨b1, o1, x, rfl, hx, x1, x2, x3⟩ := (hv'.out.below hb'.out).at_ (k := k) (by rw [hV'.out]; omega)
        obtain ⟨b2, o2, y, rfl, hy, y1, y2, y3⟩ := (hw'.out.below hb'.out).at_ (k := k) (by rw [hW'.out]; omega)
        have hx' := Lib.hid hx
        have hy' := Lib.hid hy
        clear hx hy
        by_cases hxy : x = y
        · have hd2 : (x != y) = false := by simp [hxy]
          go_wp2
          go_quiet (fail)
          go_wp2
          go_roundg g
          case measure => omega
          case rel =>
            refine ⟨k + 1, by omega, by go_num, fun i hi => ?_, below_drewN hb'.out _⟩
            rcases Nat.lt_or_ge i k with h | h
            · exact hall'.out i h
            · obtain rfl : i = k := by omega
              rw [hx'.out, hy'.out, hxy]
        · have hd2 : (x != y) = true := by simp [hxy]
          have hfin := Lib.hid (show V ≠ W from list_ne_at hx'.out hy'.out hxy)
          clear hxy
          go_wp2
          go_quiet (fail)
          go_wp2
          go_ret
          exact ⟨ret_bool (by simp [hfin.out]), below_drewN hb'.out _⟩
  · have hd : ((n : Int) != (n' : Int)) = true := by simp; omega
    have hfin := Lib.hid (show V ≠ W from fun e => hnn (by rw [← hV'.out, ← hW'.out, e]))
    clear hnn
    go_enter Tryz.func75, Tryz.ntmps75
    go_wp2
    go_ret
    exact ⟨ret_bool (by simp [hfin.out]), Below.refl _ _⟩
set_option maxRecDepth 100000 in
set_option maxHeartbeats 1000000 in
theorem equalF_any (A A' : Option Addr) (n c n' c' : Nat) (V W : List Int) (w : World) (hV : V.length = n) (hW : W.length = n') (hv : WAt w A V) (hw : WAt w A' W) (hn : n ≤ 4000000) (hn' : n' ≤ 4000000) :
    Calls Tryz.prog 74 #[.slice A n c, .slice A' n' c'] w (BoolPost (decide (V = W)) w) := by
  have hk := Lib.hid (equalW_any A A' n c n' c' V W w hV hW hv hw hn hn')
  generalize decide (V = W) = t at hk ⊢
  clear hV hW hv hw
  go_enter Tryz.func74, Tryz.ntmps74
  go_wp2_with fail
  refine hk.out.mono ?_
  rintro e w1 ⟨rfl, hb1⟩
  have hb1 := Lib.hid hb1
  go_wp2
  go_ret
  exact ⟨rfl, hb1.out⟩
set_option maxRecDepth 100000 in
set_option maxHeartbeats 2000000 in
theorem equalR_any (A A' : Option Addr) (n c n' c' : Nat) (V W : List (List Int)) (w : World) (hV : V.length = n) (hW : W.length = n') (hv : WsAt w A V) (hw : WsAt w A' W) (hn : n ≤ 4000000) (hn' : n' ≤ 4000000) :
    Calls Tryz.prog 76 #[.slice A n c, .slice A' n' c', .func (.func 74) #[] #[]] w (BoolPost (decide (V = W)) w) := by
  have hV' := Lib.hid hV
  have hW' := Lib.hid hW
  have hv' := Lib.hid hv
  have hw' := Lib.hid hw
  clear hV hW hv hw
  by_cases hnn : n = n'
  · subst hnn
    go_enter Tryz.func76, Tryz.ntmps76
    go_wp2_with fail
    go_loopg [17] n (fun g s4 wr => ∃ k : Nat, k + g = n ∧ s4 = .int .i64 k ∧ (∀ i, i < k → V[i]? = W[i]?) ∧ Below w.heap.size w wr)
    case atStart => exact ⟨0, by omega, rfl, fun i h => absurd h (by omega), Below.refl _ _⟩
    case round =>
      obtain ⟨k, hkg, rfl, hall, hb⟩ := hrel
      have hall' := Lib.hid hall
      have hb' := Lib.hid hb
      clear hall hb
      cases gk with
      | zero =>
        have e0 : ¬ ((k : Int) < (n : Int)) := by omega
        have hfin := Lib.hid (show V = W from list_eq_all hV'.out hW'.out fun i hi => hall'.out i (by omega))
        go_wp2
        go_ret
        exact ⟨ret_bool (by simp [hfin.out]), hb'.out⟩
      | succ g =>
        have e1 : (k : Int) < (n : Int) := by omega
        obtain ⟨blk, off, vs, Ai, ci, rfl, hvs, v1, v2, v4⟩ := (hv'.out.below hb'.out).at_ (k := k) (by rw [hV'.out]; omega)
        obtain ⟨blk', off', ws, Ai', ci', rfl, hws, w1, w2, w4⟩ := (hw'.out.below hb'.out).at_ (k := k) (by rw [hW'.out]; omega)
        have hk := equalF_any Ai Ai' vs.length ci ws.length ci' vs ws wr rfl rfl v4 w4 (by omega) (by omega)
        obtain ⟨t, ht⟩ : ∃ t, decide (vs = ws) = t := ⟨_, rfl⟩
        rw [ht] at hk
        have hk := Lib.hid hk
        have ht := Lib.hid ht
        have hvs' := Lib.hid hvs
        have hws' := Lib.hid hws
        clear hvs hws v4 w4
        go_wp2_with fail
        refine hk.out.mono ?_
        rintro e w3 ⟨rfl, hb3⟩
        have hb3 := Lib.hid (Below.next hb'.out hb3)
        cases t
        · have hfin := Lib.hid (show V ≠ W from list_ne_at hvs'.out hws'.out (of_decide_eq_false ht.out))
          go_wp2
          go_ret
          exact ⟨ret_bool (by simp [hfin.out]), hb3.out⟩
        · have he := of_decide_eq_true ht.out
          have he := Lib.hid he
          go_wp2
          go_roundg g
          case measure => omega
          case rel =>
            refine ⟨k + 1, by omega, by go_num, fun i hi => ?_, hb3.out⟩
            rcases Nat.lt_or_ge i k with h | h
            · exact hall'.out i h
            · obtain rfl : i = k := by omega
              rw [hvs'.out, hws'.out, he.out]
  · have hd : ((n : Int) != (n' : Int)) = true := by simp; omega
    have hfin := Lib.hid (show V ≠ W from fun e => hnn (by rw [← hV'.out, ← hW'.out, e]))
    clear hnn
    go_enter Tryz.func76, Tryz.ntmps76
    go_wp2
    go_ret
    exact ⟨ret_bool (by simp [hfin.out]), Below.refl _ _⟩
set_option maxRecDepth 100000 in
set_option maxHeartbeats 4000000 in
theorem same_walk (k k' st st' fu fu' : Int) (A1 A2 B1 B2 : Option Addr) (n1 c1 n2 c2 m1 d1 m2 d2 : Nat) (t1 t2 : Bool) (w : World)
    (h1 : ∀ W, Below w.heap.size w W → Calls Tryz.prog 74 #[.slice A1 n1 c1, .slice B1 m1 d1] W (BoolPost t1 W))
    (h2 : ∀ W, Below w.heap.size w W → Calls Tryz.prog 76 #[.slice A2 n2 c2, .slice B2 m2 d2, .func (.func 74) #[] #[]] W (BoolPost t2 W)) :
    Calls Tryz.prog 45 #[.agg #[.int .i64 k, .slice A1 n1 c1, .slice A2 n2 c2, .int .u64 st, .int .i64 fu], .agg #[.int .i64 k', .slice B1 m1 d1, .slice B2 m2 d2, .int .u64 st', .int .i64 fu']] w
      (BoolPost (decide (k = k' ∧ st = st' ∧ fu = fu') && (t1 && t2)) w) := by
  have hb0 := Lib.hid (below_two w (.cells #[.int .i64 k, .slice A1 n1 c1, .slice A2 n2 c2, .int .u64 st, .int .i64 fu] 42) (.cells #[.int .i64 k', .slice B1 m1 d1, .slice B2 m2 d2, .int .u64 st', .int .i64 fu'] 42))
  have q1 := Lib.hid (h1 _ hb0.out)
  have q2 := Lib.hid h2
  clear h1 h2
  by_cases e1 : k = k'
  · subst e1
    by_cases e2 : st = st'
    · subst e2
      by_cases e3 : fu = fu'
      · subst e3
        have hl := Lib.hid (heap_alloc_old (w.alloc (.cells #[.int .i64 k, .slice A1 n1 c1, .slice A2 n2 c2, .int .u64 st, .int .i64 fu] 42)) (.cells #[.int .i64 k, .slice B1 m1 d1, .slice B2 m2 d2, .int .u64 st, .int .i64 fu] 42) (r := w.heap.size) (by simp))
        have hl2 := Lib.hid (heap_alloc_new w (.cells #[.int .i64 k, .slice A1 n1 c1, .slice A2 n2 c2, .int .u64 st, .int .i64 fu] 42))
        have hl3 := Lib.hid (show ((w.alloc (.cells #[.int .i64 k, .slice A1 n1 c1, .slice A2 n2 c2, .int .u64 st, .int .i64 fu] 42)).alloc (.cells #[.int .i64 k, .slice B1 m1 d1, .slice B2 m2 d2, .int .u64 st, .int .i64 fu] 42)).heap[w.heap.size + 1]? = some (.cells #[.int .i64 k, .slice B1 m1 d1, .slice B2 m2 d2, .int .u64 st, .int .i64 fu] 42 (0, 0)) from by
          have := heap_alloc_new (w.alloc (.cells #[.int .i64 k, .slice A1 n1 c1, .slice A2 n2 c2, .int .u64 st, .int .i64 fu] 42)) (.cells #[.int .i64 k, .slice B1 m1 d1, .slice B2 m2 d2, .int .u64 st, .int .i64 fu] 42)
          simpa using this)
        cases t1
        · go_enter Tryz.func45, Tryz.ntmps45
          go_wp2_with fail
          refine q1.out.mono ?_
          rintro e w1 ⟨rfl, hb1⟩
          have b1 := Lib.hid (hb0.out.trans (hb1.mono hb0.out.size))
          clear hb1
          go_wp2_with fail
          go_ret
          exact ⟨by simp, b1.out⟩
        · go_enter Tryz.func45, Tryz.ntmps45
          go_wp2_with fail
          refine q1.out.mono ?_
          rintro e w1 ⟨rfl, hb1⟩
          have b1 := Lib.hid (hb0.out.trans (hb1.mono hb0.out.size))
          obtain ⟨g0, g1, g2, g3, g4, gf⟩ := box5 (((hb1.block w.heap.size (by simp; omega)).trans hl.out).trans hl2.out)
          obtain ⟨y0, y1, y2, y3, y4, yf⟩ := box5 ((hb1.block (w.heap.size + 1) (by simp)).trans hl3.out)
          clear hb1
          go_wp2_with fail
          refine (q2.out _ b1.out).mono ?_
          rintro e w2 ⟨rfl, hb2⟩
          have b2 := Lib.hid (Below.next b1.out hb2)
          clear hb2
          cases t2
          all_goals
            go_wp2_with fail
            go_ret
            exact ⟨by simp, b2.out⟩
      · have d3 : (fu == fu') = false := by simpa using e3
        have e3' := Lib.hid e3
        clear e3
        go_enter Tryz.func45, Tryz.ntmps45
        go_wp2_with fail
        go_ret
        exact ⟨by simp [e3'.out], hb0.out⟩
    · have d2 : (st == st') = false := by simpa using e2
      have e2' := Lib.hid e2
      clear e2
      go_enter Tryz.func45, Tryz.ntmps45
      go_wp2_with fail
      go_ret
      exact ⟨by simp [e2'.out], hb0.out⟩
  · have d1 : (k == k') = false := by simpa using e1
    have e1' := Lib.hid e1
    clear e1
    go_enter Tryz.func45, Tryz.ntmps45
    go_wp2_with fail
    go_ret
    exact ⟨by simp [e1'.out], hb0.out⟩
theorem same_any (a b : Ask) (A1 A2 B1 B2 : Option Addr) (c1 c2 d1 d2 : Nat) (w : World) (ha : AskOK w a A1 A2) (hb : AskOK w b B1 B2) :
    Calls Tryz.prog 45 #[askVal a A1 c1 A2 c2, askVal b B1 d1 B2 d2] w (BoolPost (decide (a = b)) w) := by
  have h := same_walk a.k b.k a.st b.st a.fu b.fu A1 A2 B1 B2 a.args.length c1 a.regs.length c2 b.args.length d1 b.regs.length d2 (decide (a.args = b.args)) (decide (a.regs = b.regs)) w
    (fun W hW => equalF_any A1 B1 a.args.length c1 b.args.length d1 a.args b.args W rfl rfl (ha.1.below hW) (hb.1.below hW) ha.2.2.1 hb.2.2.1)
    (fun W hW => equalR_any A2 B2 a.regs.length c2 b.regs.length d2 a.regs b.regs W rfl rfl (ha.2.1.below hW) (hb.2.1.below hW) (by have := ha.2.2.2; omega) (by have := hb.2.2.2; omega))
  have e : (decide (a.k = b.k ∧ a.st = b.st ∧ a.fu = b.fu) && (decide (a.args = b.args) && decide (a.regs = b.regs))) = decide (a = b) := by
    obtain ⟨k, args, regs, st, fu⟩ := a
    obtain ⟨k', args', regs', st', fu'⟩ := b
    simp only [Ask.mk.injEq]
    rw [Bool.eq_iff_iff]
    simp only [Bool.and_eq_true, decide_eq_true_eq]
    constructor
    · rintro ⟨⟨h1, h2, h3⟩, h4, h5⟩; exact ⟨h1, h4, h5, h2, h3⟩
    · rintro ⟨h1, h4, h5, h2, h3⟩; exact ⟨⟨h1, h2, h3⟩, h4, h5⟩
  rw [e] at h
  exact h
end Go.Proofs.YtkbmckmlnphpmaaGreatDoor
