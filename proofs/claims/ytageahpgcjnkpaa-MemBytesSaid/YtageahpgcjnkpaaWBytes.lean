/- MemBytes answers true. -/
import Derived.Test.YtageahpgcjnkpaaWMeans
set_option linter.unusedSimpArgs false
set_option linter.unusedVariables false
namespace Go.Proofs.Ytageahpgcjnkpaa
open Go.RowKit

set_option maxRecDepth 100000 in
set_option maxHeartbeats 1000000 in
theorem memBytes_no (A : Option Addr) (n cap : Nat) (L : List Reg) (a x : Int) (w : World) (h : RegsIn w A n cap L) (c1 c3 : Bool) (h1 : longB L = c1) (h3 : mayL L = c3) (hno : (c1 || !c3) = true) :
    Calls Try.prog 5 #[.slice A n cap, .int .u64 a, .int .u64 x] w (Yes w) := by
  have k1 := Lib.hid (long_any A n cap L w h.hr (Nat.le_trans h.hc h.hcm))
  have k2 := Lib.hid (refMay_call A n cap L w h.hr h.hc h.hcm)
  rw [h1] at k1
  rw [h3] at k2
  clear h1 h3 h
  cases c1
  · cases c3
    · go_enter Try.func5, Try.ntmps5
      go_wp2_with fail
      refine k1.out.mono ?_
      rintro e w2 ⟨rfl, rfl⟩
      go_wp2_with fail
      refine k2.out.mono ?_
      rintro e w2 ⟨rfl, b2⟩
      have b2' := Lib.hid b2
      clear b2
      go_wp2_with fail
      refine (known_any _).mono ?_
      rintro e w3 ⟨rfl, b3⟩
      have b3' := Lib.hid (Below.next b2'.out b3)
      clear b3
      go_wp2
      go_ret
      exact ⟨rfl, b3'.out⟩
    · simp at hno
  · go_enter Try.func5, Try.ntmps5
    go_wp2_with fail
    refine k1.out.mono ?_
    rintro e w2 ⟨rfl, rfl⟩
    go_wp2_with fail
    refine (known_any _).mono ?_
    rintro e w3 ⟨rfl, b3⟩
    have b3' := Lib.hid b3
    clear b3
    go_wp2
    go_ret
    exact ⟨rfl, b3'.out⟩

/-- the bytes behind i stores of one byte each, the upper half first -/
def stB (m : Nat) (x : Int) : Nat → (Nat → Int)
  | 0 => fun _ => 0
  | i + 1 => upd (stB m x i) (m + (i + 4) % 8) (x / 2 ^ (8 * ((i + 4) % 8)) % 256)
theorem stB_byte (m : Nat) (x : Int) : ∀ i, ByteFn (stB m x i)
  | 0 => fun i => ⟨Int.le_refl 0, (by decide : (0 : Int) < 256)⟩
  | i + 1 => by
    intro k
    show 0 ≤ upd _ _ _ k ∧ upd _ _ _ k < 256
    unfold upd
    split
    · exact ⟨Int.emod_nonneg _ (by omega), Int.emod_lt_of_pos _ (by omega)⟩
    · exact stB_byte m x i k
theorem stB_all (m : Nat) (x : Int) (j : Nat) (hj : j < 8) : stB m x 8 (m + j) = x / 256 ^ j % 256 := by
  have e : ∀ k : Nat, (2 : Int) ^ (8 * k) = 256 ^ k := fun k => by rw [Int.pow_mul]; rfl
  have hj' : j = 0 ∨ j = 1 ∨ j = 2 ∨ j = 3 ∨ j = 4 ∨ j = 5 ∨ j = 6 ∨ j = 7 := by omega
  rcases hj' with rfl | rfl | rfl | rfl | rfl | rfl | rfl | rfl <;> simp [stB, upd, e]

def StAny (w : World) (q : Nat) (e : Ending) (w' : World) : Prop := ∃ er g, ByteFn g ∧ StorePost q g er w e w'

set_option maxRecDepth 100000 in
set_option maxHeartbeats 2000000 in
theorem memBytes_yes (A : Option Addr) (n cap : Nat) (L : List Reg) (a x : Int) (w : World) (h : RegsIn w A n cap L) (h1 : longB L = false) (h3 : mayL L = true) (ha : 0 ≤ a ∧ a ≤ 18446744073709551615) (hx : 0 ≤ x ∧ x ≤ 18446744073709551615) :
    Calls Try.prog 5 #[.slice A n cap, .int .u64 a, .int .u64 x] w (Yes w) := by
  obtain ⟨ha0, ha1⟩ := ha
  obtain ⟨hx0, hx1⟩ := hx
  have k1 := Lib.hid (long_any A n cap L w h.hr (Nat.le_trans h.hc h.hcm))
  have k2 := Lib.hid (refMay_call A n cap L w h.hr h.hc h.hcm)
  rw [h1] at k1
  rw [h3] at k2
  have hm := Lib.hid (mayL_mem h3)
  have h3' := Lib.hid h3
  have H := Lib.hid h
  clear h1 h3 h
  obtain ⟨er, her⟩ : ∃ er, askI L a 8 = er := ⟨_, rfl⟩
  have her' := Lib.hid her
  have hl1 := Lib.hid (fun W p q A cap g (hM : Mem_ W p q A n cap L g) => load_any a W hM hm.out ha0 (by omega))
  rw [her] at hl1
  clear her
  by_cases he : er = 0
  · subst he
    obtain ⟨ha65, ha8, _⟩ := ask_0 her'.out hm.out
    obtain ⟨m, rfl⟩ := Int.eq_ofNat_of_zero_le ha0
    have hY : loadI L (stB m x 8) (m : Int) = x := by
      unfold loadI
      rw [her'.out, if_pos rfl]
      rw [Int.toNat_natCast]
      unfold get8
      rw [getN_mod _ _ x hx0 8 (fun i hi => stB_all m x i hi)]
      exact Int.emod_eq_of_lt hx0 (by omega)
    have hl2 := Lib.hid (show ∀ W p q A cap (hM : Mem_ W p q A n cap L (stB m x 8)), Calls Try.prog 19 #[.pointer (some ⟨p, 0, none⟩), .int .u64 (m : Int)] W (LoadPost .u64 x 0 W) from fun W p q A cap hM => by
      have := hl1.out W p q A cap _ hM
      rw [hY] at this
      exact this)
    have hsb := Lib.hid (show ∀ W p q A cap (k : Nat) (hM : Mem_ W p q A n cap L (stB m x k)) (j : Nat) (hj : j < 8) (hjk : (k + 4) % 8 = j), Calls Try.prog 22 #[.pointer (some ⟨p, 0, none⟩), .int .u64 ((m : Int) + (j : Int)), .int .u8 (x / 2 ^ (8 * j) % 256)] W (StorePost q (stB m x (k + 1)) 0 W) from fun W p q A cap k hM j hj hjk => by
      have h1 := storeByte_any ((m : Int) + (j : Int)) (x / 2 ^ (8 * j) % 256) W hM hm.out (by omega) (by omega)
      have h2 := ask_bytes hm.out her'.out (j : Int) (by omega) (by omega)
      have h3 : storeG L (stB m x k) ((m : Int) + (j : Int)) (x / 2 ^ (8 * j) % 256) = stB m x (k + 1) := by
        unfold storeG
        rw [if_pos h2, show ((m : Int) + (j : Int)).toNat = m + j from by omega, ← hjk]
        rfl
      rw [h3, h2] at h1
      exact h1)
    have hmm : (m : Int) ≤ 70000 := by omega
    clear ha65 ha8 hY ha0 ha1
    go_enter Try.func5, Try.ntmps5
    go_wp2_with fail
    refine k1.out.mono ?_
    rintro e w2 ⟨rfl, rfl⟩
    go_wp2_with fail
    refine k2.out.mono ?_
    rintro e w2 ⟨rfl, b2⟩
    have b2' := Lib.hid b2
    clear b2
    go_wp2_with fail
    refine (new_yes A n cap L _ (H.out.below b2'.out).hr H.out.hc H.out.hcm h3'.out).mono ?_
    rintro e w3 ⟨p, q, A2, cap2, rfl, hM, hc, hcm, hp, hq, b3⟩
    have b3' := Lib.hid (Below.next b2'.out b3)
    have hM3 := Lib.hid hM
    have hq' := Nat.le_trans b2'.out.size hq
    clear b3 hM hp hq
    go_wp2_with (first | (go_at_call 15; refine (num_any _ _).mono ?_; rintro e w' ⟨rfl, rfl⟩))
    refine (hl1.out _ p q A2 cap2 _ hM3.out).mono ?_
    rintro e w4 ⟨rfl, b4⟩
    have b4' := Lib.hid (Below.next b3'.out b4)
    have hM4 := Lib.hid (hM3.out.below b4)
    clear b4
    go_wp2_with fail
    go_loopw [11] (fun i wr => ∃ k : Nat, k ≤ 8 ∧ i = .int .u64 k ∧ Below w.heap.size w wr ∧ Mem_ wr p q A2 n cap2 L (stB m x k)) (fun i _ => 8 - (intOf i).toNat)
    case atStart => exact ⟨0, by omega, rfl, b4'.out, hM4.out⟩
    case round =>
      obtain ⟨k, hk, rfl, br, hMr⟩ := hrel
      have br' := Lib.hid br
      have hMr' := Lib.hid hMr
      clear br hMr
      by_cases hlt : k < 8
      · obtain ⟨j, hj, hjn, hjk⟩ : ∃ j : Nat, j < 8 ∧ (k + 4) % 8 = j ∧ ((k : Int) + 4) % 8 = (j : Int) := ⟨(k + 4) % 8, by omega, rfl, by omega⟩
        have hjn' := Lib.hid hjn
        clear hjn
        go_wp2_with fail
        refine (hsb.out _ p q A2 cap2 k hMr'.out j hj hjn'.out).mono ?_
        rintro e w5 ⟨rfl, hq5, hg5⟩
        have b5' := Lib.hid (br'.out.grown hg5 br'.out.size (fun k e => by cases e; exact hq'))
        have hM5 := Lib.hid (hMr'.out.turn hg5 hq5 (stB_byte m x (k + 1)))
        clear hq5 hg5 hjk
        go_wp2_with (first | (go_at_call 15; refine (num_any _ _).mono ?_; rintro e w' ⟨rfl, rfl⟩))
        go_roundw
        case rel => exact ⟨k + 1, by omega, by go_num, b5'.out, hM5.out⟩
        case measure => simp [intOf]; omega
      · have hz : ¬ ((k : Int) < 8) := by omega
        have hk8 : k = 8 := by omega
        have hMr8 := Lib.hid (show Mem_ wr p q A2 n cap2 L (stB m x 8) by rw [← hk8]; exact hMr'.out)
        clear hk8
        go_wp2_with fail
        refine (hl2.out _ p q A2 cap2 hMr8.out).mono ?_
        rintro e w6 ⟨rfl, b6⟩
        have b6' := Lib.hid (Below.next br'.out b6)
        clear b6
        go_wp2_with (first | (go_at_call 15; refine (num_any _ _).mono ?_; rintro e w' ⟨rfl, rfl⟩))
        refine (known_any _).mono ?_
        rintro e w7 ⟨rfl, b7⟩
        have b7' := Lib.hid (Below.next b6'.out b7)
        clear b7
        go_wp2
        go_ret
        exact ⟨rfl, b7'.out⟩
  · have hd : (er == 0) = false := by simpa using he
    have hd2 : (er != 0) = true := by simpa using he
    have hl2 := Lib.hid (show ∀ W p q A cap g (hM : Mem_ W p q A n cap L g), Calls Try.prog 19 #[.pointer (some ⟨p, 0, none⟩), .int .u64 a] W (LoadPost .u64 0 er W) from fun W p q A cap g hM => by
      have := hl1.out W p q A cap g hM
      have e0 : loadI L g a = 0 := by unfold loadI; rw [her'.out, if_neg he]
      rw [e0] at this
      exact this)
    have hsb := Lib.hid (show ∀ W p q A cap g (hM : Mem_ W p q A n cap L g) (a' v : Int) (h0 : 0 ≤ a') (h1 : a' < 18446744073709551616) (hv : 0 ≤ v ∧ v < 256), Calls Try.prog 22 #[.pointer (some ⟨p, 0, none⟩), .int .u64 a', .int .u8 v] W (StAny W q) from fun W p q A cap g hM a' v h0 h1 hv =>
      (storeByte_any a' v W hM hm.out h0 h1).mono fun e w' hp => ⟨_, _, by unfold storeG; split; exact (fun i => by unfold upd; split; exact hv; exact hM.hf i); exact hM.hf, hp⟩)
    clear he hl1
    go_enter Try.func5, Try.ntmps5
    go_wp2_with fail
    refine k1.out.mono ?_
    rintro e w2 ⟨rfl, rfl⟩
    go_wp2_with fail
    refine k2.out.mono ?_
    rintro e w2 ⟨rfl, b2⟩
    have b2' := Lib.hid b2
    clear b2
    go_wp2_with fail
    refine (new_yes A n cap L _ (H.out.below b2'.out).hr H.out.hc H.out.hcm h3'.out).mono ?_
    rintro e w3 ⟨p, q, A2, cap2, rfl, hM, hc, hcm, hp, hq, b3⟩
    have b3' := Lib.hid (Below.next b2'.out b3)
    have hM3 := Lib.hid hM
    have hq' := Nat.le_trans b2'.out.size hq
    clear b3 hM hp hq
    go_wp2_with (first | (go_at_call 15; refine (num_any _ _).mono ?_; rintro e w' ⟨rfl, rfl⟩))
    refine (hl2.out _ p q A2 cap2 _ hM3.out).mono ?_
    rintro e w4 ⟨rfl, b4⟩
    have b4' := Lib.hid (Below.next b3'.out b4)
    have hM4 := Lib.hid (hM3.out.below b4)
    clear b4
    go_wp2_with fail
    go_loopw [11] (fun i wr => ∃ k : Nat, k ≤ 8 ∧ i = .int .u64 k ∧ Below w.heap.size w wr ∧ ∃ g, Mem_ wr p q A2 n cap2 L g) (fun i _ => 8 - (intOf i).toNat)
    case atStart => exact ⟨0, by omega, rfl, b4'.out, _, hM4.out⟩
    case round =>
      obtain ⟨k, hk, rfl, br, g, hMr⟩ := hrel
      have br' := Lib.hid br
      have hMr' := Lib.hid hMr
      clear br hMr
      by_cases hlt : k < 8
      · obtain ⟨j, hj, hjk⟩ : ∃ j : Nat, j < 8 ∧ ((k : Int) + 4) % 8 = (j : Int) := ⟨(k + 4) % 8, by omega, by omega⟩
        go_wp2_with fail
        refine (hsb.out _ p q A2 cap2 g hMr'.out _ _ (by rw [IntKind.wrap_u64]; omega) (by rw [IntKind.wrap_u64]; omega) (by omega)).mono ?_
        rintro e w5 ⟨er', g', hg', rfl, hq5, hg5⟩
        have b5' := Lib.hid (br'.out.grown hg5 br'.out.size (fun k e => by cases e; exact hq'))
        have hM5 := Lib.hid (hMr'.out.turn hg5 hq5 hg')
        clear hq5 hg5 hjk
        go_wp2_with (first | (go_at_call 15; refine (num_any _ _).mono ?_; rintro e w' ⟨rfl, rfl⟩))
        go_roundw
        case rel => exact ⟨k + 1, by omega, by go_num, b5'.out, _, hM5.out⟩
        case measure => simp [intOf]; omega
      · have hz : ¬ ((k : Int) < 8) := by omega
        go_wp2_with fail
        refine (hl2.out _ p q A2 cap2 _ hMr'.out).mono ?_
        rintro e w6 ⟨rfl, b6⟩
        have b6' := Lib.hid (Below.next br'.out b6)
        clear b6
        go_wp2_with (first | (go_at_call 15; refine (num_any _ _).mono ?_; rintro e w' ⟨rfl, rfl⟩))
        refine (known_any _).mono ?_
        rintro e w7 ⟨rfl, b7⟩
        have b7' := Lib.hid (Below.next b6'.out b7)
        clear b7
        go_wp2
        go_ret
        exact ⟨rfl, b7'.out⟩

theorem memBytes_any (A : Option Addr) (n cap : Nat) (L : List Reg) (a x : Int) (w : World) (h : RegsIn w A n cap L) (ha : 0 ≤ a ∧ a ≤ 18446744073709551615) (hx : 0 ≤ x ∧ x ≤ 18446744073709551615) :
    Calls Try.prog 5 #[.slice A n cap, .int .u64 a, .int .u64 x] w (Yes w) := by
  by_cases hno : (longB L || !mayL L) = true
  · exact memBytes_no A n cap L a x w h _ _ rfl rfl hno
  · have h2 : longB L = false ∧ mayL L = true := by
      simp only [Bool.or_eq_true, Bool.not_eq_true', not_or] at hno
      exact ⟨by simpa using hno.1, by simpa using hno.2⟩
    exact memBytes_yes A n cap L a x w h h2.1 h2.2 ha hx
end Go.Proofs.Ytageahpgcjnkpaa
