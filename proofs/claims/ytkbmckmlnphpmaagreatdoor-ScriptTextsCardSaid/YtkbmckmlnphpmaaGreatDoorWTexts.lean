/- ScriptTexts: the walk. -/
import Derived.Test.YtkbmckmlnphpmaaGreatDoorCF
import Derived.Test.YtkbmckmlnphpmaaGreatDoorAJ
set_option linter.unusedSimpArgs false
set_option linter.unusedVariables false
namespace Go.Proofs.YtkbmckmlnphpmaaGreatDoor
open Go.RowKit Go.Lib Go.Shelf

set_option maxRecDepth 100000 in
set_option maxHeartbeats 8000000 in
theorem scriptTexts_any (L : List Ask) (A : Option Addr) (n c : Nat) (w : World) (hL : L.length = n) (hO : AsksO w A L) (hZ : ∀ a ∈ L, AskLe a) (hn : n ≤ 17592186044416) (hE : Env w) : Calls Tryz.prog 8 #[.slice A n c] w (BoolPost true w) := by
  have kM := Lib.hid (many_any L A n c w hL hO hZ hn)
  have kK := Lib.hid fun W (hb : Below w.heap.size w W) => known_any W (hE.below hb)
  have hnn := Lib.hid fun e w => num_any e w
  have hL' := Lib.hid hL
  have hO' := Lib.hid hO
  have hZ' := Lib.hid hZ
  have hE' := Lib.hid hE
  clear hL hO hZ hE
  go_enter Tryz.func8, Tryz.ntmps8
  go_wp2_with fail
  refine kM.out.mono ?_
  rintro e w1 ⟨b, rfl, hbm, hb1⟩
  have b1 := Lib.hid hb1
  clear hb1 kM
  cases b
  · obtain ⟨h80, hsm⟩ := hbm rfl
    rw [hL'.out] at h80
    have hA := hO'.out.small fun a ha => ⟨by have := (hsm a ha).1; omega, fun ws hws => by have := (hsm a ha).2 ws hws; omega⟩
    have hA' := Lib.hid hA
    have hst := Lib.hid (show ∀ a ∈ L, 0 ≤ a.st ∧ a.st ≤ 18446744073709551615 from fun a ha => by
      obtain ⟨k, hk⟩ := List.getElem?_of_mem ha
      have hlk := (List.getElem?_eq_some_iff.1 hk).1
      obtain ⟨_, _, q', B1, _, B2, _, _, hq', hokq, _⟩ := hO'.out.at_ (k := k) hlk
      rw [hk] at hq'
      cases hq'
      exact hokq.st)
    have kT := text_any L A n c w1 hL'.out (hA.below b1.out) (by omega) hst.out (hE'.out.below b1.out).tab
    unfold TextPost at kT
    have kR := Lib.hid fun W (hb : Below w.heap.size w W) (hm : ∀ a ∈ L, mayA a = true) => refText_any L A n c W hL'.out (hA'.out.below hb) (by omega) hm hst.out (hE'.out.below hb).tab
    have kN := Lib.hid fun W (hb : Below w.heap.size w W) a (ha : a ∈ L) A1 A2 c1 c2 (hok : AskO W a A1 A2) => (show Calls Tryz.prog 35 #[.agg #[.int .i64 a.k, .slice A1 a.args.length c1, .slice A2 a.regs.length c2, .int .u64 a.st, .int .i64 a.fu]] W (BoolPost (mayA a) W) from refMay_any a.k A1 A2 a.args.length c1 a.regs.length c2 a.regs a.st a.fu W rfl hok.regs (hZ'.out a ha).1 (hZ'.out a ha).2.1)
    have hsz20 := Lib.hid (show ∀ h : (∀ a ∈ L, mayA a = true), (scrT L).size ≤ 20000000 from fun h => text_whole (by rw [hL'.out]; omega) fun q hq => ⟨h q hq, by
      obtain ⟨k, hk⟩ := List.getElem?_of_mem hq
      have hlk := (List.getElem?_eq_some_iff.1 hk).1
      obtain ⟨_, _, q', B1, _, B2, _, _, hq', hokq, _⟩ := hA'.out.at_ (k := k) hlk
      rw [hk] at hq'
      cases hq'
      exact askOK_w hokq (hst.out q hq)⟩)
    obtain ⟨t, ht⟩ : ∃ t, L.all mayA = t := ⟨_, rfl⟩
    obtain ⟨⟨tt, te⟩, hte⟩ : ∃ x, textM L = x := ⟨_, rfl⟩
    rw [hte] at kT
    have kT := Lib.hid kT
    have hte := Lib.hid hte
    have ht := Lib.hid ht
    clear hbm hsm hA
    have hloop : ∀ k, k < n → True := fun _ _ => trivial
    cases t
    · have hx := hte.out
      unfold textM at hx
      rw [ht.out] at hx
      cases hx
      go_wp2_with fail
      refine kT.out.mono ?_
      rintro e w2 ⟨rfl, hb2⟩
      have b2 := Lib.hid (Below.next b1.out hb2)
      clear hb2 kT hloop
      go_wp2_with fail
      go_loopg [5] n (fun g s5 wr => ∃ k : Nat, k + g = n ∧ s5 = .int .i64 k ∧ (∀ (i : Nat) (a : Ask), i < k → L[i]? = some a → mayA a = true) ∧ Below w.heap.size w wr)
      case atStart => exact ⟨0, by omega, rfl, fun i a h => absurd h (by omega), b2.out⟩
      case round =>
        obtain ⟨k, hkg, rfl, hall, hb⟩ := hrel
        have hall := Lib.hid hall
        have hb := Lib.hid hb
        cases gk with
        | zero =>
          exfalso
          have : L.all mayA = true := by
            rw [List.all_eq_true]
            intro x hx
            obtain ⟨i, hi⟩ := List.getElem?_of_mem hx
            exact hall.out i x (by have := (List.getElem?_eq_some_iff.1 hi).1; have := hL'.out; omega) hi
          rw [ht.out] at this
          cases this
        | succ g =>
          have e0 : (k : Int) < (n : Int) := by omega
          obtain ⟨blk, off, a, A1, c1, A2, c2, rfl, ha, hok, v0, v1, v2, v3, v4⟩ := (hO'.out.below hb.out).at_ (k := k) (by rw [hL'.out]; omega)
          have hc := kN.out wr hb.out a (List.mem_of_getElem? ha) A1 A2 c1 c2 hok
          obtain ⟨u, hu⟩ : ∃ u, mayA a = u := ⟨_, rfl⟩
          rw [hu] at hc
          have hc := Lib.hid hc
          have hu := Lib.hid hu
          have ha := Lib.hid ha
          clear hok
          go_wp2_with fail
          refine hc.out.mono ?_
          rintro e w3 ⟨rfl, hb3⟩
          have b3 := Lib.hid (Below.next hb.out hb3)
          clear hb3 hc v0 v1 v2 v3 v4
          cases u
          · go_wp2_with (first | (go_at_call 16; refine (hnn.out _ _).mono ?_; rintro e wA ⟨rfl, rfl⟩) | (go_at_call 13; refine (kK.out _ b3.out).mono ?_; rintro e w4 ⟨rfl, hb4⟩; have b4 := Lib.hid (Below.next b3.out hb4); clear hb4))
            go_ret
            exact ⟨rfl, b4.out⟩
          · go_wp2
            go_roundg g
            case measure => omega
            case rel =>
              refine ⟨k + 1, by omega, by go_num, fun i x hi hx => ?_, b3.out⟩
              rcases Nat.lt_or_ge i k with h | h
              · exact hall.out i x h hx
              · obtain rfl : i = k := by omega
                rw [ha.out] at hx
                cases hx
                exact hu.out
    · have hmall := Lib.hid (show ∀ a ∈ L, mayA a = true from fun a ha => List.all_eq_true.1 ht.out a ha)
      go_wp2_with fail
      refine kT.out.mono ?_
      rintro e w2 ⟨rfl, hb2⟩
      have b2 := Lib.hid (Below.next b1.out hb2)
      clear hb2 kT hloop
      go_wp2_with fail
      go_loopg [5] n (fun g s5 wr => ∃ k : Nat, k + g = n ∧ s5 = .int .i64 k ∧ Below w.heap.size w wr)
      case atStart => exact ⟨0, by omega, rfl, b2.out⟩
      case round =>
        obtain ⟨k, hkg, rfl, hb⟩ := hrel
        have hb := Lib.hid hb
        cases gk with
        | zero =>
          have e0 : ¬ ((k : Int) < (n : Int)) := by omega
          have hR := Lib.hid (kR.out wr hb.out hmall.out)
          have hx := hte.out
          unfold textM at hx
          rw [ht.out, if_pos rfl, hL'.out] at hx
          obtain ⟨m, hm⟩ : ∃ m, (scrT L).size = m := ⟨_, rfl⟩
          have hm2 : m ≤ 20000000 := by rw [← hm]; exact hsz20.out hmall.out
          rw [hm] at hx
          have hm := Lib.hid hm
          by_cases h64 : 64 < n
          · have e1 : (64 : Int) < (n : Int) := by omega
            rw [if_pos h64] at hx
            cases hx
            go_wp2_with fail
            refine hR.out.mono ?_
            rintro e w3 ⟨rfl, hb3⟩
            have b3 := Lib.hid (Below.next hb.out hb3)
            clear hb3 hR
            go_wp2_with (first | (go_at_call 16; refine (hnn.out _ _).mono ?_; rintro e wA ⟨rfl, rfl⟩) | (go_at_call 13; refine (kK.out _ b3.out).mono ?_; rintro e w4 ⟨rfl, hb4⟩; have b4 := Lib.hid (Below.next b3.out hb4); clear hb4))
            go_ret
            exact ⟨rfl, b4.out⟩
          · have e1 : ¬ (64 : Int) < (n : Int) := by omega
            rw [if_neg h64] at hx
            by_cases hbig : 1048576 < m
            · have e2 : (1048576 : Int) < ((scrT L).size : Int) := by rw [hm.out]; omega
              rw [if_pos hbig] at hx
              cases hx
              go_wp2_with fail
              refine hR.out.mono ?_
              rintro e w3 ⟨rfl, hb3⟩
              have b3 := Lib.hid (Below.next hb.out hb3)
              clear hb3 hR
              go_wp2_with (first | (go_at_call 16; refine (hnn.out _ _).mono ?_; rintro e wA ⟨rfl, rfl⟩) | (go_at_call 13; refine (kK.out _ b3.out).mono ?_; rintro e w4 ⟨rfl, hb4⟩; have b4 := Lib.hid (Below.next b3.out hb4); clear hb4))
              go_ret
              exact ⟨rfl, b4.out⟩
            · have e2 : ¬ (1048576 : Int) < ((scrT L).size : Int) := by rw [hm.out]; omega
              rw [if_neg hbig] at hx
              cases hx
              go_wp2_with fail
              refine hR.out.mono ?_
              rintro e w3 ⟨rfl, hb3⟩
              have b3 := Lib.hid (Below.next hb.out hb3)
              clear hb3 hR
              go_wp2_with (first | (go_at_call 16; refine (hnn.out _ _).mono ?_; rintro e wA ⟨rfl, rfl⟩) | (go_at_call 13; refine (kK.out _ b3.out).mono ?_; rintro e w4 ⟨rfl, hb4⟩; have b4 := Lib.hid (Below.next b3.out hb4); clear hb4))
              go_ret
              exact ⟨rfl, b4.out⟩
        | succ g =>
          have e0 : (k : Int) < (n : Int) := by omega
          obtain ⟨blk, off, a, A1, c1, A2, c2, rfl, ha, hok, v0, v1, v2, v3, v4⟩ := (hO'.out.below hb.out).at_ (k := k) (by rw [hL'.out]; omega)
          have hc := kN.out wr hb.out a (List.mem_of_getElem? ha) A1 A2 c1 c2 hok
          rw [hmall.out a (List.mem_of_getElem? ha)] at hc
          have hc := Lib.hid hc
          clear hok ha
          go_wp2_with fail
          refine hc.out.mono ?_
          rintro e w3 ⟨rfl, hb3⟩
          have b3 := Lib.hid (Below.next hb.out hb3)
          clear hb3 hc v0 v1 v2 v3 v4
          go_wp2
          go_roundg g
          case measure => omega
          case rel => exact ⟨k + 1, by omega, by go_num, b3.out⟩
  · clear hbm
    go_wp2_with fail
    refine (kK.out _ b1.out).mono ?_
    rintro e w2 ⟨rfl, hb2⟩
    have b2 := Lib.hid (Below.next b1.out hb2)
    clear hb2
    go_wp2
    go_ret
    exact ⟨rfl, b2.out⟩
end Go.Proofs.YtkbmckmlnphpmaaGreatDoor
