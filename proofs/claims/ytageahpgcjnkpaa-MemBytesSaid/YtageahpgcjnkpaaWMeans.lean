/- MemMeans answers true. -/
import Derived.Test.YtageahpgcjnkpaaWPlaces
import Derived.Test.YtageahpgcjnkpaaQ
set_option linter.unusedSimpArgs false
set_option linter.unusedVariables false
namespace Go.Proofs.Ytageahpgcjnkpaa
open Go.RowKit

set_option maxRecDepth 100000 in
set_option maxHeartbeats 1000000 in
theorem memMeans_no (A : Option Addr) (n cap : Nat) (L : List Reg) (a b x : Int) (w : World) (h : RegsIn w A n cap L) (c1 c3 : Bool) (h1 : longB L = c1) (h3 : mayL L = c3) (hno : (c1 || !c3) = true) :
    Calls Try.prog 4 #[.slice A n cap, .int .u64 a, .int .u64 b, .int .u64 x] w (Yes w) := by
  have H := Lib.hid h
  have h1' := Lib.hid h1
  have h3' := Lib.hid h3
  have k1 := Lib.hid (fun W (hb : Below w.heap.size w W) => long_any A n cap L W (H.out.below hb).hr (Nat.le_trans h.hc h.hcm))
  have k2 := Lib.hid (fun W (hb : Below w.heap.size w W) => refMay_call A n cap L W (H.out.below hb).hr h.hc h.hcm)
  rw [h1] at k1
  rw [h3] at k2
  clear h1 h3 h
  cases c1
  · cases c3
    · go_enter Try.func4, Try.ntmps4
      go_wp2_with fail
      refine (known_any _).mono ?_
      rintro e w1 ⟨rfl, b1⟩
      have b1' := Lib.hid b1
      clear b1
      go_wp2_with fail
      refine (k1.out _ b1'.out).mono ?_
      rintro e w2 ⟨rfl, rfl⟩
      go_wp2_with fail
      refine (k2.out _ b1'.out).mono ?_
      rintro e w2 ⟨rfl, b2⟩
      have b2' := Lib.hid (Below.next b1'.out b2)
      clear b2
      go_wp2
      go_ret
      exact ⟨rfl, b2'.out⟩
    · simp at hno
  · go_enter Try.func4, Try.ntmps4
    go_wp2_with fail
    refine (known_any _).mono ?_
    rintro e w1 ⟨rfl, b1⟩
    have b1' := Lib.hid b1
    clear b1
    go_wp2_with fail
    refine (k1.out _ b1'.out).mono ?_
    rintro e w2 ⟨rfl, rfl⟩
    go_wp2
    go_ret
    exact ⟨rfl, b1'.out⟩

set_option maxRecDepth 100000 in
set_option maxHeartbeats 2000000 in
theorem memMeans_yes (A : Option Addr) (n cap : Nat) (L : List Reg) (a b x : Int) (w : World) (h : RegsIn w A n cap L) (h1 : longB L = false) (h3 : mayL L = true) (ha : 0 ≤ a ∧ a ≤ 18446744073709551615) (hb : 0 ≤ b ∧ b ≤ 18446744073709551615) (hx : 0 ≤ x ∧ x ≤ 18446744073709551615) :
    Calls Try.prog 4 #[.slice A n cap, .int .u64 a, .int .u64 b, .int .u64 x] w (Yes w) := by
  obtain ⟨ha0, ha1⟩ := ha
  obtain ⟨hb0, hb1⟩ := hb
  obtain ⟨hx0, hx1⟩ := hx
  have H := Lib.hid h
  have k1 := Lib.hid (fun W (hb : Below w.heap.size w W) => long_any A n cap L W (H.out.below hb).hr (Nat.le_trans h.hc h.hcm))
  have k2 := Lib.hid (fun W (hb : Below w.heap.size w W) => refMay_call A n cap L W (H.out.below hb).hr h.hc h.hcm)
  rw [h1] at k1
  rw [h3] at k2
  have hm := Lib.hid (mayL_mem h3)
  have h3' := Lib.hid h3
  clear h1 h3 h
  obtain ⟨er, her⟩ : ∃ er, askI L a 8 = er := ⟨_, rfl⟩
  have herr := ask_cases L a 8
  rw [her] at herr
  have her' := Lib.hid her
  clear her
  have hst := Lib.hid (fun W p q A cap (hM : Mem_ W p q A n cap L (fun _ => 0)) => store_any a x W hM hm.out ha0 (by omega) hx0 (by omega))
  rw [her'.out] at hst
  by_cases he : er = 0
  · subst he
    obtain ⟨ha65, ha8, _⟩ := ask_0 her'.out hm.out
    obtain ⟨m, rfl⟩ := Int.eq_ofNat_of_zero_le ha0
    have hF : storeF L (fun _ => 0) (m : Int) x = put8 (fun _ => 0) m x := by unfold storeF; rw [her'.out, if_pos rfl]; rfl
    rw [hF] at hst
    obtain ⟨V, hV⟩ : ∃ V, loadI L (fun _ => 0) b = V := ⟨_, rfl⟩
    obtain ⟨Z, hZ⟩ : ∃ Z, loadI L (put8 (fun _ => 0) m x) b = Z := ⟨_, rfl⟩
    obtain ⟨eb, heb⟩ : ∃ eb, askI L b 8 = eb := ⟨_, rfl⟩
    have hVZ : (m : Int) ≠ b → Z = V := by
      intro hne
      rw [← hV, ← hZ]
      unfold loadI
      by_cases h0 : askI L b 8 = 0
      · rw [if_pos h0, if_pos h0]
        obtain ⟨hb65, hb8, _⟩ := ask_0 h0 hm.out
        exact get_far _ _ _ _ (by omega)
      · rw [if_neg h0, if_neg h0]
    have hY : loadI L (put8 (fun _ => 0) m x) (m : Int) = x := by
      unfold loadI
      rw [her'.out, if_pos rfl]
      exact get_put _ _ _ hx0 (by omega)
    have hfb : ByteFn (put8 (fun _ => 0) m x) := putN_byte (fun i => ⟨Int.le_refl 0, (by decide : (0 : Int) < 256)⟩) _ _ _
    have hl1 := Lib.hid (fun W p q A cap (hM : Mem_ W p q A n cap L (fun _ => 0)) => load_any b W hM hm.out hb0 (by omega))
    have hl2 := Lib.hid (fun W p q A cap (hM : Mem_ W p q A n cap L (put8 (fun _ => 0) m x)) => load_any (m : Int) W hM hm.out (by omega) (by omega))
    have hl3 := Lib.hid (fun W p q A cap (hM : Mem_ W p q A n cap L (put8 (fun _ => 0) m x)) => load_any b W hM hm.out hb0 (by omega))
    have hlb := Lib.hid (fun W p q A cap (hM : Mem_ W p q A n cap L (put8 (fun _ => 0) m x)) (k : Nat) (hk : k < 8) => (show Calls Try.prog 21 #[.pointer (some ⟨p, 0, none⟩), .int .u64 ((m : Int) + (k : Int))] W (LoadPost .u8 (x / 2 ^ (8 * k) % 256) 0 W) from by
      have h1 := loadByte_any ((m : Int) + (k : Int)) W hM hm.out (by omega) (by omega)
      have h2 := ask_bytes hm.out her'.out (k : Int) (by omega) (by omega)
      have h3 : loadB L (put8 (fun _ => 0) m x) ((m : Int) + (k : Int)) = x / 2 ^ (8 * k) % 256 := by
        unfold loadB
        rw [if_pos h2, show ((m : Int) + (k : Int)).toNat = m + k from by omega, put_at _ _ _ _ hk, Int.pow_mul]
        rfl
      rw [h3, h2] at h1
      exact h1))
    rw [hV, heb] at hl1
    rw [hY, her'.out] at hl2
    rw [hZ, heb] at hl3
    have hfb' := Lib.hid hfb
    have hVZ' := Lib.hid hVZ
    have hmm : (m : Int) ≤ 70000 := by omega
    clear hF hV hZ heb hVZ hY hfb ha8 ha65 ha0 ha1
    have hab : (((m : Int) == b) = true ∧ True) ∨ (((m : Int) == b) = false ∧ Z = V) := by
      by_cases h : (m : Int) = b
      · exact .inl ⟨by simpa using h, trivial⟩
      · exact .inr ⟨by simpa using h, hVZ'.out h⟩
    rcases hab with ⟨hab, _⟩ | ⟨hab, rfl⟩
    all_goals
      have hab' := Lib.hid hab
      clear hab
      go_enter Try.func4, Try.ntmps4
      go_wp2_with fail
      refine (known_any _).mono ?_
      rintro e w1 ⟨rfl, b1⟩
      have b1' := Lib.hid b1
      clear b1
      go_wp2_with fail
      refine (k1.out _ b1'.out).mono ?_
      rintro e w2 ⟨rfl, rfl⟩
      go_wp2_with fail
      refine (k2.out _ b1'.out).mono ?_
      rintro e w2 ⟨rfl, b2⟩
      have b2' := Lib.hid (Below.next b1'.out b2)
      clear b2
      go_wp2_with fail
      refine (new_yes A n cap L _ (H.out.below b2'.out).hr H.out.hc H.out.hcm h3'.out).mono ?_
      rintro e w3 ⟨p, q, A2, cap2, rfl, hM, hc, hcm, hp, hq, b3⟩
      have b3' := Lib.hid (Below.next b2'.out b3)
      have hM3 := Lib.hid hM
      have hq' := Nat.le_trans b2'.out.size hq
      clear b3 hM hp hq
      go_wp2_with fail
      refine (hl1.out _ p q A2 cap2 hM3.out).mono ?_
      rintro e w4 ⟨rfl, b4⟩
      have b4' := Lib.hid (Below.next b3'.out b4)
      have hM4 := Lib.hid (hM3.out.below b4)
      clear b4
      go_wp2_with fail
      refine (hst.out _ p q A2 cap2 hM4.out).mono ?_
      rintro e w5 ⟨rfl, hq5, hg5⟩
      have b5' := Lib.hid (b4'.out.grown hg5 b4'.out.size (fun k e => by cases e; exact hq'))
      have hM5 := Lib.hid (hM4.out.turn hg5 hq5 hfb'.out)
      clear hq5 hg5
      go_wp2_with (first | (go_at_call 15; refine (num_any _ _).mono ?_; rintro e w' ⟨rfl, rfl⟩))
      refine (hl2.out _ p q A2 cap2 hM5.out).mono ?_
      rintro e w6 ⟨rfl, b6⟩
      have b6' := Lib.hid (Below.next b5'.out b6)
      have hM6 := Lib.hid (hM5.out.below b6)
      clear b6
      go_wp2_with fail
      refine (hl3.out _ p q A2 cap2 hM6.out).mono ?_
      rintro e w7 ⟨rfl, b7⟩
      have b7' := Lib.hid (Below.next b6'.out b7)
      have hM7 := Lib.hid (hM6.out.below b7)
      clear b7
      go_wp2_with fail
      go_loopw [18] (fun i wr => ∃ k : Nat, k ≤ 8 ∧ i = .int .u64 k ∧ Below w.heap.size w wr ∧ Mem_ wr p q A2 n cap2 L (put8 (fun _ => 0) m x)) (fun i _ => 8 - (intOf i).toNat)
      case atStart => exact ⟨0, by omega, rfl, b7'.out, hM7.out⟩
      case round =>
        obtain ⟨k, hk, rfl, br, hMr⟩ := hrel
        have br' := Lib.hid br
        have hMr' := Lib.hid hMr
        clear br hMr
        by_cases hlt : k < 8
        · go_wp2_with fail
          refine (hlb.out _ p q A2 cap2 hMr'.out k hlt).mono ?_
          rintro e w8 ⟨rfl, b8⟩
          have b8' := Lib.hid (Below.next br'.out b8)
          have hM8 := Lib.hid (hMr'.out.below b8)
          clear b8
          go_wp2_with (first | (go_at_call 15; refine (num_any _ _).mono ?_; rintro e w' ⟨rfl, rfl⟩))
          go_roundw
          case rel => exact ⟨k + 1, by omega, by go_num, b8'.out, hM8.out⟩
          case measure => simp [intOf]; omega
        · obtain rfl : k = 8 := by omega
          have hab := hab'.out
          go_wp2_with (first | (go_at_call 15; refine (num_any _ _).mono ?_; rintro e w' ⟨rfl, rfl⟩))
          go_ret
          exact ⟨rfl, br'.out⟩
  · have hd : (er != 0) = true := by simpa using he
    have hF : storeF L (fun _ => 0) a x = (fun _ => 0) := by unfold storeF; rw [her'.out, if_neg he]
    rw [hF] at hst
    clear he hF
    have h214 : (er == 2 || er == 14) = true := by
      rcases herr with h | h | h <;> rw [h] at hd ⊢ <;> simp at hd ⊢
    cases h2 : (er == 2)
    all_goals
      rw [h2] at h214
      go_enter Try.func4, Try.ntmps4
      go_wp2_with fail
      refine (known_any _).mono ?_
      rintro e w1 ⟨rfl, b1⟩
      have b1' := Lib.hid b1
      clear b1
      go_wp2_with fail
      refine (k1.out _ b1'.out).mono ?_
      rintro e w2 ⟨rfl, rfl⟩
      go_wp2_with fail
      refine (k2.out _ b1'.out).mono ?_
      rintro e w2 ⟨rfl, b2⟩
      have b2' := Lib.hid (Below.next b1'.out b2)
      clear b2
      go_wp2_with fail
      refine (new_yes A n cap L _ (H.out.below b2'.out).hr H.out.hc H.out.hcm h3'.out).mono ?_
      rintro e w3 ⟨p, q, A2, cap2, rfl, hM, hc, hcm, hp, hq, b3⟩
      have b3' := Lib.hid (Below.next b2'.out b3)
      have hM3 := Lib.hid hM
      have hq' := Nat.le_trans b2'.out.size hq
      clear b3 hM hp hq
      go_wp2_with fail
      refine (load_any b _ hM3.out hm.out hb0 (by omega)).mono ?_
      rintro e w4 ⟨rfl, b4⟩
      have b4' := Lib.hid (Below.next b3'.out b4)
      have hM4 := Lib.hid (hM3.out.below b4)
      clear b4
      go_wp2_with fail
      refine (hst.out _ p q A2 cap2 hM4.out).mono ?_
      rintro e w5 ⟨rfl, hq5, hg5⟩
      have b5' := Lib.hid (b4'.out.grown hg5 b4'.out.size (fun k e => by cases e; exact hq'))
      clear hq5 hg5
      go_wp2_with (first | (go_at_call 15; refine (num_any _ _).mono ?_; rintro e w' ⟨rfl, rfl⟩))
      go_ret
      exact ⟨ret_bool (by first | rfl | simpa using h214), b5'.out⟩

theorem memMeans_any (A : Option Addr) (n cap : Nat) (L : List Reg) (a b x : Int) (w : World) (h : RegsIn w A n cap L) (ha : 0 ≤ a ∧ a ≤ 18446744073709551615) (hb : 0 ≤ b ∧ b ≤ 18446744073709551615) (hx : 0 ≤ x ∧ x ≤ 18446744073709551615) :
    Calls Try.prog 4 #[.slice A n cap, .int .u64 a, .int .u64 b, .int .u64 x] w (Yes w) := by
  by_cases hno : (longB L || !mayL L) = true
  · exact memMeans_no A n cap L a b x w h _ _ rfl rfl hno
  · have h2 : longB L = false ∧ mayL L = true := by
      simp only [Bool.or_eq_true, Bool.not_eq_true', not_or] at hno
      exact ⟨by simpa using hno.1, by simpa using hno.2⟩
    exact memMeans_yes A n cap L a b x w h h2.1 h2.2 ha hb hx
end Go.Proofs.Ytageahpgcjnkpaa
