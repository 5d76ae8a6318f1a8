/- MemSame answers true. -/
import Derived.Test.YtageahpgcjnkpaaO2
set_option linter.unusedSimpArgs false
set_option linter.unusedVariables false
namespace Go.Proofs.Ytageahpgcjnkpaa
open Go.RowKit

theorem long_any' {A : Option Addr} {n cap : Nat} {L : List Reg} {w W : World} {t : Bool} (h : RegsIn w A n cap L) (hb : Below w.heap.size w W) (ht : longB L = t) : Calls Try.prog 11 #[.slice A n cap] W (BoolPost t W) := by
  subst ht
  exact (long_any A n cap L W ((h.hr.below hb).more hb.size) (Nat.le_trans h.hc h.hcm)).mono fun e w' ⟨h1, h2⟩ => ⟨h1, by subst h2; exact Below.refl _ _⟩
theorem may_any' {A : Option Addr} {n cap : Nat} {L : List Reg} {w W : World} {t : Bool} (h : RegsIn w A n cap L) (hb : Below w.heap.size w W) (ht : mayL L = t) : Calls Try.prog 12 #[.slice A n cap] W (BoolPost t W) := by
  subst ht
  exact refMay_call A n cap L W ((h.hr.below hb).more hb.size) h.hc h.hcm
theorem fits_any' {A A' : Option Addr} {n cap n' cap' : Nat} {L : List Reg} {V : List (List Int)} {w W : World} {t : Bool} (h : RegsIn w A n cap L) (h2 : RowsIn w A' n' cap' V) (hb : Below w.heap.size w W) (ht : fitsB L V = t) : Calls Try.prog 31 #[.slice A n cap, .slice A' n' cap'] W (BoolPost t W) := by
  subst ht
  exact fits_any A A' n cap n' cap' L V W ((h.hr.below hb).more hb.size) h2.hl (h2.hw.below hb) (Nat.le_trans h.hc h.hcm) (Nat.le_trans h2.hc h2.hcm)
theorem play_any' {A A' A'' : Option Addr} {n cap n' cap' m cap'' : Nat} {L : List Reg} {V : List (List Int)} {S : List Stp} {w W : World} (h : RegsIn w A n cap L) (h2 : RowsIn w A' n' cap' V) (h3 : StepsIn w A'' m cap'' S) (hb : Below w.heap.size w W) (hL : mayL L = true) (hf : fitsB L V = true) :
    Calls Try.prog 32 #[.slice A n cap, .slice A' n' cap', .slice A'' m cap''] W (PlayPost n L (playN L V n S m) W) :=
  play_any A A' A'' n cap n' cap' m cap'' L V S W ((h.hr.below hb).more hb.size) h.hc h.hcm hL h2.hl (h2.hw.below hb) (Nat.le_trans h2.hc h2.hcm) hf (h3.hs.below hb) (Nat.le_trans h3.hc h3.hcm)

set_option maxRecDepth 100000 in
set_option maxHeartbeats 4000000 in
theorem memSame_any (A : Option Addr) (n cap : Nat) (L : List Reg) (A2 : Option Addr) (n2 cap2 : Nat) (K : List Reg) (A3 : Option Addr) (n3 cap3 : Nat) (V : List (List Int)) (A4 : Option Addr) (n4 cap4 : Nat) (U : List (List Int)) (A5 : Option Addr) (n5 cap5 : Nat) (S : List Stp) (A6 : Option Addr) (n6 cap6 : Nat) (T : List Stp) (w : World) (h1 : RegsIn w A n cap L) (h2 : RegsIn w A2 n2 cap2 K) (h3 : RowsIn w A3 n3 cap3 V) (h4 : RowsIn w A4 n4 cap4 U) (h5 : StepsIn w A5 n5 cap5 S) (h6 : StepsIn w A6 n6 cap6 T) :
    Calls Try.prog 7 #[.slice A n cap, .slice A2 n2 cap2, .slice A3 n3 cap3, .slice A4 n4 cap4, .slice A5 n5 cap5, .slice A6 n6 cap6] w (Yes w) := by
  obtain ⟨c1, e1⟩ : ∃ c, longB L = c := ⟨_, rfl⟩
  obtain ⟨c2, e2⟩ : ∃ c, longB K = c := ⟨_, rfl⟩
  obtain ⟨c3, e3⟩ : ∃ c, mayL L = c := ⟨_, rfl⟩
  obtain ⟨c4, e4⟩ : ∃ c, mayL K = c := ⟨_, rfl⟩
  obtain ⟨c5, e5⟩ : ∃ c, fitsB L V = c := ⟨_, rfl⟩
  obtain ⟨c6, e6⟩ : ∃ c, fitsB K U = c := ⟨_, rfl⟩
  have k1 := Lib.hid fun W hb => long_any' h1 (W := W) hb e1
  have k2 := Lib.hid fun W hb => long_any' h2 (W := W) hb e2
  have k3 := Lib.hid fun W hb => may_any' h1 (W := W) hb e3
  have k4 := Lib.hid fun W hb => may_any' h2 (W := W) hb e4
  have k5 := Lib.hid fun W hb => fits_any' h1 h3 (W := W) hb e5
  have k6 := Lib.hid fun W hb => fits_any' h2 h4 (W := W) hb e6
  have kp := Lib.hid fun W hb (g3 : c3 = true) (g5 : c5 = true) => play_any' h1 h3 h5 (W := W) hb (e3.trans g3) (e5.trans g5)
  have kq := Lib.hid fun W hb (g3 : c4 = true) (g5 : c6 = true) => play_any' h2 h4 h6 (W := W) hb (e4.trans g3) (e6.trans g5)
  have hn5 := Nat.le_trans h5.hc h5.hcm
  have hn6 := Nat.le_trans h6.hc h6.hcm
  have hb' := Lib.hid (Below.refl w.heap.size w)
  clear h1 h2 h3 h4 h5 h6 e1 e2 e3 e4 e5 e6
  go_enter Try.func7, Try.ntmps7
  go_wp2_with fail
  refine (k1.out _ hb'.out).mono ?_
  rintro e w1 ⟨rfl, b1⟩
  have hb' := Lib.hid (Below.next hb'.out b1)
  clear b1
  cases c1
  · go_wp2_with fail
    refine (k2.out _ hb'.out).mono ?_
    rintro e w1 ⟨rfl, b1⟩
    have hb' := Lib.hid (Below.next hb'.out b1)
    clear b1
    cases c2
    · go_wp2_with fail
      refine (k3.out _ hb'.out).mono ?_
      rintro e w1 ⟨rfl, b1⟩
      have hb' := Lib.hid (Below.next hb'.out b1)
      clear b1
      cases c3
      · go_wp2_with fail
        refine (known_any _).mono ?_
        rintro e w3 ⟨rfl, b3⟩
        have b3' := Lib.hid (Below.next hb'.out b3)
        clear b3
        go_wp2
        go_ret
        exact ⟨rfl, b3'.out⟩
      · go_wp2_with fail
        refine (k4.out _ hb'.out).mono ?_
        rintro e w1 ⟨rfl, b1⟩
        have hb' := Lib.hid (Below.next hb'.out b1)
        clear b1
        cases c4
        · go_wp2_with fail
          refine (known_any _).mono ?_
          rintro e w3 ⟨rfl, b3⟩
          have b3' := Lib.hid (Below.next hb'.out b3)
          clear b3
          go_wp2
          go_ret
          exact ⟨rfl, b3'.out⟩
        · go_wp2_with fail
          refine (k5.out _ hb'.out).mono ?_
          rintro e w1 ⟨rfl, b1⟩
          have hb' := Lib.hid (Below.next hb'.out b1)
          clear b1
          cases c5
          · go_wp2_with fail
            refine (known_any _).mono ?_
            rintro e w3 ⟨rfl, b3⟩
            have b3' := Lib.hid (Below.next hb'.out b3)
            clear b3
            go_wp2
            go_ret
            exact ⟨rfl, b3'.out⟩
          · go_wp2_with fail
            refine (k6.out _ hb'.out).mono ?_
            rintro e w1 ⟨rfl, b1⟩
            have hb' := Lib.hid (Below.next hb'.out b1)
            clear b1
            cases c6
            · go_wp2_with fail
              refine (known_any _).mono ?_
              rintro e w3 ⟨rfl, b3⟩
              have b3' := Lib.hid (Below.next hb'.out b3)
              clear b3
              go_wp2
              go_ret
              exact ⟨rfl, b3'.out⟩
            · by_cases g7 : 60 < n5
              · have d7 : decide ((60 : Int) < (n5 : Int)) = true := by simp; omega
                go_wp2_with fail
                refine (known_any _).mono ?_
                rintro e w3 ⟨rfl, b3⟩
                have b3' := Lib.hid (Below.next hb'.out b3)
                clear b3
                go_wp2
                go_ret
                exact ⟨rfl, b3'.out⟩
              · have d7 : decide ((60 : Int) < (n5 : Int)) = false := by simp; omega
                by_cases g8 : 60 < n6
                · have d8 : decide ((60 : Int) < (n6 : Int)) = true := by simp; omega
                  go_wp2_with fail
                  refine (known_any _).mono ?_
                  rintro e w3 ⟨rfl, b3⟩
                  have b3' := Lib.hid (Below.next hb'.out b3)
                  clear b3
                  go_wp2
                  go_ret
                  exact ⟨rfl, b3'.out⟩
                · have d8 : decide ((60 : Int) < (n6 : Int)) = false := by simp; omega
                  go_wp2_with fail
                  refine (kp.out _ hb'.out (by trivial) (by trivial)).mono ?_
                  rintro e w2 ⟨p, q, p', q', B1, bc1, B2, bc2, rfl, hM, hR, u1, u2, u3, hb2⟩
                  have hM' := Lib.hid hM
                  have hR' := Lib.hid hR
                  have hb' := Lib.hid (Below.next hb'.out hb2)
                  clear hM hR hb2 u3
                  go_wp2_with fail
                  refine (kq.out _ hb'.out (by trivial) (by trivial)).mono ?_
                  rintro e w3 ⟨p2, q2, p2', q2', B3, bc3, B4, bc4, rfl, hM2, hR2, v1, v2, v3, hb3⟩
                  have hM' := Lib.hid (hM'.out.below hb3)
                  have hR' := Lib.hid (hR'.out.below hb3)
                  have hM2' := Lib.hid hM2
                  have hR2' := Lib.hid hR2
                  have hb' := Lib.hid (Below.next hb'.out hb3)
                  clear hM2 hR2 hb3 v3
                  go_wp2_with fail
                  refine (same_any _ hM'.out hM2'.out).mono ?_
                  rintro e w4 ⟨rfl, b1⟩
                  have hM' := Lib.hid (hM'.out.below b1)
                  have hR' := Lib.hid (hR'.out.below b1)
                  have hR2' := Lib.hid (hR2'.out.below b1)
                  have hb' := Lib.hid (Below.next hb'.out b1)
                  clear b1
                  go_wp2_with fail
                  refine (refSame_any _ hR'.out hR2'.out).mono ?_
                  rintro e w5 ⟨rfl, b1⟩
                  have hM' := Lib.hid (hM'.out.below b1)
                  have hb' := Lib.hid (Below.next hb'.out b1)
                  clear b1
                  obtain ⟨t, ht⟩ : ∃ t, (decide (L = K) && eqF (playN L V n S n5) (playN K U n2 T n6)) = t := ⟨_, rfl⟩
                  rw [ht]
                  clear ht
                  cases t
                  all_goals
                    go_wp2_with fail
                    refine (same_any _ hM'.out hM'.out).mono ?_
                    rintro e w6 ⟨rfl, b1⟩
                    rw [eqF_refl, show decide (L = L) = true by simp]
                    have hb' := Lib.hid (Below.next hb'.out b1)
                    clear b1
                    go_wp2_with fail
                    refine (known_any _).mono ?_
                    rintro e w3 ⟨rfl, b3⟩
                    have b3' := Lib.hid (Below.next hb'.out b3)
                    clear b3
                    go_wp2
                    go_ret
                    exact ⟨rfl, b3'.out⟩
    · go_wp2_with fail
      refine (known_any _).mono ?_
      rintro e w3 ⟨rfl, b3⟩
      have b3' := Lib.hid (Below.next hb'.out b3)
      clear b3
      go_wp2
      go_ret
      exact ⟨rfl, b3'.out⟩
  · go_wp2_with fail
    refine (known_any _).mono ?_
    rintro e w3 ⟨rfl, b3⟩
    have b3' := Lib.hid (Below.next hb'.out b3)
    clear b3
    go_wp2
    go_ret
    exact ⟨rfl, b3'.out⟩
end Go.Proofs.Ytageahpgcjnkpaa
