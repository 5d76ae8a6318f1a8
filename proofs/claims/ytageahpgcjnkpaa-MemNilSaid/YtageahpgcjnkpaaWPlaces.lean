/- MemPlaces answers true. -/
import Derived.Test.YtageahpgcjnkpaaM1
import Derived.Test.YtageahpgcjnkpaaM2
import Derived.Test.YtageahpgcjnkpaaN
set_option linter.unusedSimpArgs false
set_option linter.unusedVariables false
namespace Go.Proofs.Ytageahpgcjnkpaa
open Go.RowKit

theorem refMay_call (A : Option Addr) (n cap : Nat) (L : List Reg) (w : World) (hr : RegsAt w w.heap.size A n L) (hc : n ≤ cap) (hcm : cap ≤ 9223372036854775807) : Calls Try.prog 12 #[.slice A n cap] w (Flag (mayL L) w) := by
  by_cases hn : n ≤ 16
  · exact refMay_few A n cap L w hr hn hc hcm
  · exact refMay_many A n cap L w hr.1 (by omega) (by omega)

/-- regions that came in -/
structure RegsIn (w : World) (A : Option Addr) (n cap : Nat) (L : List Reg) : Prop where
  hr : RegsAt w w.heap.size A n L
  hc : n ≤ cap
  hcm : cap ≤ 9223372036854775807
theorem RegsIn.below {w w' : World} {A : Option Addr} {n cap : Nat} {L : List Reg} (h : RegsIn w A n cap L) (hb : Below w.heap.size w w') : RegsIn w' A n cap L := ⟨(h.hr.below hb).more hb.size, h.hc, h.hcm⟩

set_option maxRecDepth 100000 in
set_option maxHeartbeats 1000000 in
theorem memPlaces_no (A : Option Addr) (n cap : Nat) (L : List Reg) (nm : ByteArray) (i : Int) (w : World) (h : RegsIn w A n cap L) (hs : nm.size ≤ 9223372036854775807) (c1 c2 c3 : Bool) (h1 : longB L = c1) (h2 : decide ((900 : Int) < (nm.size : Int)) = c2) (h3 : mayL L = c3) (hno : (c1 || c2 || !c3) = true) :
    Calls Try.prog 3 #[.slice A n cap, .string nm, .int .i64 i] w (Yes w) := by
  have k1 := Lib.hid (long_any A n cap L w h.hr (Nat.le_trans h.hc h.hcm))
  have k2 := Lib.hid (refMay_call A n cap L w h.hr h.hc h.hcm)
  rw [h1] at k1
  rw [h3] at k2
  clear h1 h3 h
  cases c1
  · cases c2
    · cases c3
      · go_enter Try.func3, Try.ntmps3
        go_wp2_with fail
        refine k1.out.mono ?_
        rintro e w1 ⟨rfl, rfl⟩
        go_wp2_with fail
        refine k2.out.mono ?_
        rintro e w1 ⟨rfl, b1⟩
        have b1' := Lib.hid b1
        clear b1
        go_wp2_with fail
        refine (known_any _).mono ?_
        rintro e w2 ⟨rfl, b2⟩
        have b2' := Lib.hid (Below.next b1'.out b2)
        clear b2
        go_wp2
        go_ret
        exact ⟨rfl, b2'.out⟩
      · simp at hno
    · go_enter Try.func3, Try.ntmps3
      go_wp2_with fail
      refine k1.out.mono ?_
      rintro e w1 ⟨rfl, rfl⟩
      go_wp2_with fail
      refine (known_any _).mono ?_
      rintro e w2 ⟨rfl, b2⟩
      have b2' := Lib.hid b2
      clear b2
      go_wp2
      go_ret
      exact ⟨rfl, b2'.out⟩
  · go_enter Try.func3, Try.ntmps3
    go_wp2_with fail
    refine k1.out.mono ?_
    rintro e w1 ⟨rfl, rfl⟩
    go_wp2_with fail
    refine (known_any _).mono ?_
    rintro e w2 ⟨rfl, b2⟩
    have b2' := Lib.hid b2
    clear b2
    go_wp2
    go_ret
    exact ⟨rfl, b2'.out⟩

/-- what Address answers, as two values -/
def addrX (v : Option Int) : Int := match v with | some a => a | none => 0
def addrY (v : Option Int) : Bool := match v with | some _ => true | none => false
theorem AddrPost.two {v : Option Int} {w : World} {e : Ending} {w' : World} (h : AddrPost v w e w') : e = .returned (.tuple #[.int .u64 (addrX v), .bool (addrY v)]) ∧ Below w.heap.size w w' := by
  cases v <;> exact h

set_option maxRecDepth 100000 in
set_option maxHeartbeats 1000000 in
theorem memPlaces_yes (A : Option Addr) (n cap : Nat) (L : List Reg) (nm : ByteArray) (i : Int) (w : World) (h : RegsIn w A n cap L) (hs : nm.size ≤ 900) (h1 : longB L = false) (h3 : mayL L = true) :
    Calls Try.prog 3 #[.slice A n cap, .string nm, .int .i64 i] w (Yes w) := by
  have hd : decide ((900 : Int) < (nm.size : Int)) = false := by simp; omega
  have k1 := Lib.hid (long_any A n cap L w h.hr (Nat.le_trans h.hc h.hcm))
  have k2 := Lib.hid (refMay_call A n cap L w h.hr h.hc h.hcm)
  rw [h1] at k1
  rw [h3] at k2
  have H := Lib.hid h
  have hm := Lib.hid (mayL_mem h3)
  have hn : n ≤ 16 := by rw [← h.hr.1]; exact mayL_len h3
  have h3' := Lib.hid h3
  clear h1 h3 h
  go_enter Try.func3, Try.ntmps3
  go_wp2_with fail
  refine k1.out.mono ?_
  rintro e w1 ⟨rfl, rfl⟩
  go_wp2_with fail
  refine k2.out.mono ?_
  rintro e w1 ⟨rfl, b1⟩
  have b1' := Lib.hid b1
  clear b1
  go_wp2_with fail
  refine (new_yes A n cap L _ (H.out.below b1'.out).hr H.out.hc H.out.hcm h3'.out).mono ?_
  rintro e w2 ⟨p, q, A2, cap2, rfl, hM, hc, hcm, hp, hq, b2⟩
  have b2' := Lib.hid (Below.next b1'.out b2)
  have hM' := Lib.hid hM
  clear b2 hM hp hq
  go_wp2_with (first | (go_at_call 15; refine (num_any _ _).mono ?_; rintro e w' ⟨rfl, rfl⟩))
  refine (address_any nm i _ hM'.out hc hm.out).mono ?_
  rintro e w3 hpost
  obtain ⟨rfl, b3⟩ := AddrPost.two hpost
  have b3' := Lib.hid (Below.next b2'.out b3)
  clear b3 hpost
  go_wp2_with fail
  refine (refNew_any A n cap L _ (H.out.below b3'.out).hr hn).mono ?_
  rintro e w4 ⟨p2, q2, A3, cap3, rfl, hR, hc3, hcm3, hp3, hq3, b4⟩
  have b4' := Lib.hid (Below.next b3'.out b4)
  have hR' := Lib.hid hR
  clear b4 hR hp3 hq3
  go_wp2_with fail
  refine (refAddress_any nm i _ hR'.out hm.out).mono ?_
  rintro e w5 hpost
  obtain ⟨rfl, b5⟩ := AddrPost.two hpost
  have b5' := Lib.hid (Below.next b4'.out b5)
  clear b5 hpost
  go_wp2_with fail
  refine (known_any _).mono ?_
  rintro e w6 ⟨rfl, b6⟩
  have b6' := Lib.hid (Below.next b5'.out b6)
  clear b6
  go_wp2
  go_ret
  exact ⟨rfl, b6'.out⟩

theorem memPlaces_any (A : Option Addr) (n cap : Nat) (L : List Reg) (nm : ByteArray) (i : Int) (w : World) (h : RegsIn w A n cap L) (hs : nm.size ≤ 9223372036854775807) :
    Calls Try.prog 3 #[.slice A n cap, .string nm, .int .i64 i] w (Yes w) := by
  by_cases hno : (longB L || decide ((900 : Int) < (nm.size : Int)) || !mayL L) = true
  · exact memPlaces_no A n cap L nm i w h hs _ _ _ rfl rfl rfl hno
  · have : longB L = false ∧ nm.size ≤ 900 ∧ mayL L = true := by
      simp only [Bool.or_eq_true, Bool.not_eq_true', decide_eq_true_eq, not_or] at hno
      exact ⟨by simpa using hno.1.1, by omega, by simpa using hno.2⟩
    exact memPlaces_yes A n cap L nm i w h this.2.1 this.1 this.2.2
end Go.Proofs.Ytageahpgcjnkpaa
