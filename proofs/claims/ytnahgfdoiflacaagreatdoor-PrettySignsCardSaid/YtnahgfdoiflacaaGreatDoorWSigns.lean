/- The walk of PrettySigns. -/
import Derived.Test.YtnahgfdoiflacaaGreatDoorY
import Derived.Test.YtnahgfdoiflacaaGreatDoorBA
set_option linter.unusedSimpArgs false
set_option linter.unusedVariables false
namespace Go.Proofs.YtnahgfdoiflacaaGreatDoor
open Go.RowKit Go.Lib Go.Shelf

theorem sgnT_ne {op : Int} : (sgnT op).toList.isEmpty = !sgnB op := by
  cases h : sgnB op with
  | false => unfold sgnT; rw [h, if_neg (by decide), ByteArray.toList_eq]; rfl
  | true =>
    have hg := sgnT_get h
    have hm := List.mem_of_getElem? hg
    have hall : ∀ x ∈ signS, x.toList.isEmpty = false := by decide +kernel
    exact hall _ hm
theorem sgnT_k (k : Nat) (hk : k < 15) : signS[k]? = some (sgnT (6 + (k : Int))) := by
  have h : sgnB (6 + (k : Int)) = true := by unfold sgnB; rw [decide_eq_true (by omega), decide_eq_true (by omega)]; rfl
  have := sgnT_get h
  rwa [show (6 + (k : Int) - 6).toNat = k by omega] at this
theorem opIs_hit {s : ByteArray} {v : Int} {b : Bool} (h : OpIs s v b) {k : Nat} (hk : signS[k]? = some s) : b = true ∧ v = 6 + (k : Int) := by
  rcases h with ⟨rfl, i, hi, rfl⟩ | ⟨_, _, hn⟩
  · have := (List.getElem?_inj (List.getElem?_eq_some_iff.1 hi).1 sign_nodup).1 (hi.trans hk.symm)
    exact ⟨rfl, by rw [this]⟩
  · exact absurd (List.mem_of_getElem? hk) hn
theorem opIs_miss {s : ByteArray} {v : Int} {b : Bool} (h : OpIs s v b) (hk : ∀ k, k < 15 → signS[k]? ≠ some s) : b = false ∧ v = 0 := by
  rcases h with ⟨_, i, hi, _⟩ | ⟨h1, h2, _⟩
  · exact absurd hi (hk i (by have := (List.getElem?_eq_some_iff.1 hi).1; rwa [sign_len] at this))
  · exact ⟨h1, h2⟩
set_option maxRecDepth 100000 in
set_option maxHeartbeats 8000000 in
theorem prettySigns_any (op : Int) (s : ByteArray) (W : World) (hE : Env W) : Calls Tryz.prog 8 #[.int .i64 op, .string s] W (BoolPost true W) := by
  have hk := Lib.hid (fun (W2 : World) (hb : Below W.heap.size W W2) => known_any W2 (hE.below hb))
  by_cases hlen : 9000 < s.size
  · have e0 : (9000 : Int) < (s.size : Int) := by omega
    clear hlen
    go_enter Tryz.func8, Tryz.ntmps8
    go_wp2_with fail
    refine (hk.out _ (Below.refl _ _)).mono ?_
    rintro e w3 ⟨rfl, hb3⟩
    go_wp2
    go_ret
    exact ⟨rfl, hb3⟩
  · have e0 : ¬ (9000 : Int) < (s.size : Int) := by omega
    have hsg := Lib.hid (sign_any op W hE)
    have hrs := Lib.hid (fun (o : Int) (W2 : World) => refSign_any o W2)
    have hop := Lib.hid (fun (W2 : World) (hb : Below W.heap.size W W2) => op33_any s W2 (hE.below hb))
    have hne := @sgnT_ne op
    obtain ⟨st, hst⟩ : ∃ st, sgnT op = st := ⟨_, rfl⟩
    obtain ⟨sb, hsb⟩ : ∃ sb, sgnB op = sb := ⟨_, rfl⟩
    have hrs0 := Lib.hid (fun W2 => refSign_any op W2)
    rw [hst, hsb] at hne hsg
    rw [hst] at hrs0
    clear hlen hst hsb
    cases sb
    all_goals
      go_enter Tryz.func8, Tryz.ntmps8
      go_wp2_with fail
      refine hsg.out.mono ?_
      rintro e w2 ⟨rfl, hb2⟩
      have hb2 := Lib.hid hb2
      go_wp2_with fail
      refine (hrs0.out _).mono ?_
      rintro e w3 ⟨rfl, hb3⟩
      have hb3 := Lib.hid (Below.next hb2.out hb3)
      go_wp2_with fail
      refine (hop.out _ hb3.out).mono ?_
      rintro e w4 ⟨v, b, hv, rfl, hb4⟩
      have hb4 := Lib.hid (Below.next hb3.out hb4)
      have hv := Lib.hid hv
      go_wp2_with fail
      go_loopg [10] 15 (fun g s10 wr => ∃ k : Nat, k + g = 15 ∧ s10 = .int .i64 (6 + (k : Int)) ∧ (∀ i, i < k → signS[i]? ≠ some s) ∧ Below W.heap.size W wr)
      case atStart => exact ⟨0, by omega, rfl, fun i h => absurd h (by omega), hb4.out⟩
      case round =>
        obtain ⟨k, hkg, rfl, hno, hbr⟩ := hrel
        have hno := Lib.hid hno
        have hbr := Lib.hid hbr
        cases gk with
        | zero =>
          have e1 : ¬ (6 + (k : Int)) ≤ 20 := by omega
          obtain ⟨rfl, rfl⟩ := opIs_miss hv.out (fun i hi => hno.out i (by omega))
          go_wp2_with fail
          refine (hk.out _ hbr.out).mono ?_
          rintro e w5 ⟨rfl, hb5⟩
          have hb5 := Lib.hid (Below.next hbr.out hb5)
          go_wp2
          go_ret
          exact ⟨rfl, hb5.out⟩
        | succ g2 =>
          have e1 : (6 + (k : Int)) ≤ 20 := by omega
          have hkk := Lib.hid (sgnT_k k (by omega))
          have hr := hrs.out (6 + (k : Int)) wr
          obtain ⟨x, hx⟩ : ∃ x, sgnT (6 + (k : Int)) = x := ⟨_, rfl⟩
          rw [hx] at hr
          have hkx := hkk.out
          rw [hx] at hkx
          have hkx := Lib.hid hkx
          have hr := Lib.hid hr
          have hsb := @str_beq x s
          clear hkk hx
          by_cases hxs : x = s
          · rw [decide_eq_true hxs] at hsb
            subst hxs
            obtain ⟨rfl, rfl⟩ := opIs_hit hv.out hkx.out
            go_wp2_with fail
            refine hr.out.mono ?_
            rintro e w5 ⟨rfl, hb5⟩
            have hb5 := Lib.hid (Below.next hbr.out hb5)
            go_wp2_with fail
            refine (hk.out _ hb5.out).mono ?_
            rintro e w6 ⟨rfl, hb6⟩
            have hb6 := Lib.hid (Below.next hb5.out hb6)
            go_wp2
            go_ret
            exact ⟨rfl, hb6.out⟩
          · rw [decide_eq_false hxs] at hsb
            have hxs := Lib.hid hxs
            go_wp2_with fail
            refine hr.out.mono ?_
            rintro e w5 ⟨rfl, hb5⟩
            have hb5 := Lib.hid (Below.next hbr.out hb5)
            have hwr : IntKind.i64.wrap (6 + (k : Int) + 1) = 6 + ((k + 1 : Nat) : Int) := by rw [IntKind.wrap_i64]; omega
            go_wp2
            go_roundg g2
            case measure => omega
            case rel =>
              refine ⟨k + 1, by omega, by go_num, fun i hi => ?_, hb5.out⟩
              rcases Nat.lt_or_ge i k with h | h
              · exact hno.out i h
              · obtain rfl : i = k := by omega
                rw [hkx.out]
                intro e
                exact hxs.out (Option.some.inj e)
end Go.Proofs.YtnahgfdoiflacaaGreatDoor
