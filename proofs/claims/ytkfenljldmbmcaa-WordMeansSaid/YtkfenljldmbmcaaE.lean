/- The contracts of times, and of the reference's fits. -/
import Derived.Test.YtkfenljldmbmcaaD
import Derived.Test.YtkfenljldmbmcaaM2
set_option linter.unusedSimpArgs false
set_option linter.unusedVariables false
namespace Go.Proofs.Ytkfenljldmbmcaa
open Go.RowKit

theorem mul64_any (x y : Int) (w : World) (hx : U64 x) (hy : U64 y) :
    Calls Try.prog 50 #[.int .u64 x, .int .u64 y] w fun e w' => e = .returned (.tuple #[.int .u64 (x * y / 18446744073709551616), .int .u64 (x * y % 18446744073709551616)]) ∧ w = w' := by
  obtain ⟨hx0, hx1⟩ := hx
  obtain ⟨hy0, hy1⟩ := hy
  obtain ⟨x, rfl⟩ := Int.eq_ofNat_of_zero_le hx0
  obtain ⟨y, rfl⟩ := Int.eq_ofNat_of_zero_le hy0
  refine (Try.bits_Mul64 x y (by omega) (by omega) w).mono fun _ _ ⟨he, hw⟩ => ⟨?_, hw.symm⟩
  rw [he]; simp

set_option maxHeartbeats 400000 in
theorem times_any (wd a b c : Int) (w : World) (hw : MayW wd) (h : U64 a) (hb : U64 b) :
    Calls Try.prog 78 #[.int .i64 wd, .int .u64 a, .int .u64 b, .int .u64 c] w fun e w' =>
      e = .returned (.tuple #[.int .u64 (mulO wd a b), .bool (mulC wd a b), .bool (mulC wd a b)]) ∧ w = w' := by
  have hs1 := sign_u (wd := wd) (a := a) hw
  have hs2 := sign_u (wd := wd) (a := b) hw
  have hl0 := mulO_u (wd := wd) hw a b
  have hP := prod_halves hw a b
  have hk := mul_wide hw a b
  have hsu := sign_u (wd := wd) (a := mulO wd a b) hw
  obtain ⟨H, hH⟩ : ∃ H, H = prodS wd a b / 18446744073709551616 % 18446744073709551616 := ⟨_, rfl⟩
  obtain ⟨L, hL⟩ : ∃ L, L = prodS wd a b % 18446744073709551616 := ⟨_, rfl⟩
  have hLu : U64 L := by rw [hL]; exact ⟨by omega, by omega⟩
  have hlow : lowI wd L = mulO wd a b := by rw [hL]; exact low_mod hw _
  have hwx := wrap_wrap64 (signI wd a) hs1
  have hwy := wrap_wrap64 (signI wd b) hs2
  have hH2 : IntKind.u64.wrap (signI wd a * signI wd b / 18446744073709551616 - IntKind.u64.wrap (bits BinOp.and IntKind.u64 (IntKind.u64.wrap (wrap64 (signI wd a) / 9223372036854775808)) (signI wd b) + bits BinOp.and IntKind.u64 (IntKind.u64.wrap (wrap64 (signI wd b) / 9223372036854775808)) (signI wd a))) = H := by
    have b1 := sgnS_bd hw a
    have b2 := sgnS_bd hw b
    rw [wrap64_sign hw, wrap64_sign hw, and_sign b1.1 b1.2 hs2, and_sign b2.1 b2.2 hs1, IntKind.wrap_u64, IntKind.wrap_u64, hH, ← hP.2]
    omega
  have hL2 : signI wd a * signI wd b % 18446744073709551616 = L := by rw [hP.1, hL]
  rw [← hL, ← hH] at hk
  obtain ⟨o, ho⟩ : ∃ o, o = mulO wd a b := ⟨_, rfl⟩
  rw [← ho] at hl0 hlow hk hsu ⊢
  have hlow' := Lib.hid hlow
  have hk' := Lib.hid hk
  clear hH hL hP ho hlow hk
  obtain ⟨s, hs⟩ : ∃ s, s = signI wd o := ⟨_, rfl⟩
  have hs' := Lib.hid hs
  rw [← hs] at hsu
  clear hs
  obtain ⟨x, hx⟩ : ∃ x, x = signI wd a := ⟨_, rfl⟩
  obtain ⟨y, hy⟩ : ∃ y, y = signI wd b := ⟨_, rfl⟩
  rw [← hx] at hs1 hwx hH2 hL2
  rw [← hy] at hs2 hwy hH2 hL2
  have hx' := Lib.hid hx
  have hy' := Lib.hid hy
  clear hx hy
  go_enter Try.func78, Try.ntmps78
  go_wp2_with fail
  refine (signed_any _ _ _ hw h).mono ?_; rw [← hx'.out]; rintro e w' ⟨rfl, rfl⟩
  go_wp2_with fail
  refine (signed_any _ _ _ hw hb).mono ?_; rw [← hy'.out]; rintro e w' ⟨rfl, rfl⟩
  go_wp2_with fail
  refine (mul64_any _ _ _ hs1 hs2).mono ?_; rintro e w' ⟨rfl, rfl⟩
  go_wp2_with fail
  refine (low_any _ _ _ hw hLu).mono ?_; rw [hlow'.out]; rintro e w' ⟨rfl, rfl⟩
  go_wp2_with fail
  refine (signed_any _ _ _ hw hl0).mono ?_; rw [← hs'.out]; rintro e w' ⟨rfl, rfl⟩
  go_wp2_with fail
  all_goals (go_ret3; refine ⟨?_, rfl⟩; rw [hk'.out, ← hs'.out]; simp [*])

theorem wide_any (x y : Int) (w : World) (hx : U64 x) (hy : U64 y) :
    Calls Try.prog 26 #[.int .u64 x, .int .u64 y] w fun e w' => e = .returned (.tuple #[.int .u64 (x * y / 18446744073709551616), .int .u64 (x * y % 18446744073709551616)]) ∧ w = w' := by
  go_enter Try.func26, Try.ntmps26
  go_wp2_with (go_at_call 50; refine (mul64_any _ _ _ hx hy).mono ?_; rintro e w' ⟨rfl, rfl⟩)
  go_ret2
  exact ⟨rfl, rfl⟩

theorem wide_expand (X1 X0 Y1 Y0 : Int) : (4294967296 * X1 + X0) * (4294967296 * Y1 + Y0) = 18446744073709551616 * (X1 * Y1) + 4294967296 * (X0 * Y1) + 4294967296 * (X1 * Y0) + X0 * Y0 := by
  have h1 : 4294967296 * X1 * (4294967296 * Y1) = 18446744073709551616 * (X1 * Y1) := by
    rw [Int.mul_assoc, Int.mul_left_comm X1, ← Int.mul_assoc]; rfl
  have h2 : 4294967296 * X1 * Y0 = 4294967296 * (X1 * Y0) := Int.mul_assoc _ _ _
  have h3 : X0 * (4294967296 * Y1) = 4294967296 * (X0 * Y1) := Int.mul_left_comm _ _ _
  rw [Int.add_mul, Int.mul_add, Int.mul_add, h1, h2, h3]
  omega
theorem half_bd {X Y : Int} (h0 : 0 ≤ X) (h1 : X ≤ 4294967295) (h2 : 0 ≤ Y) (h3 : Y ≤ 4294967295) : 0 ≤ X * Y ∧ X * Y ≤ 18446744065119617025 :=
  ⟨Int.mul_nonneg h0 h2, Int.le_trans (Int.mul_le_mul h1 h3 h2 (by omega)) (by omega)⟩

set_option maxHeartbeats 400000 in
theorem Wide_any (x y : Int) (w : World) (hx : U64 x) (hy : U64 y) :
    Calls Try.prog 27 #[.int .u64 x, .int .u64 y] w fun e w' => e = .returned (.tuple #[.int .u64 (x * y / 18446744073709551616), .int .u64 (x * y % 18446744073709551616)]) ∧ w = w' := by
  obtain ⟨hx0, hx1⟩ := hx
  obtain ⟨hy0, hy1⟩ := hy
  have hxy : x * y = 18446744073709551616 * (x / 4294967296 * (y / 4294967296)) + 4294967296 * (x % 4294967296 * (y / 4294967296)) + 4294967296 * (x / 4294967296 * (y % 4294967296)) + x % 4294967296 * (y % 4294967296) := by
    rw [← wide_expand, show 4294967296 * (x / 4294967296) + x % 4294967296 = x from by omega, show 4294967296 * (y / 4294967296) + y % 4294967296 = y from by omega]
  have hxy' := Lib.hid hxy
  clear hxy
  obtain ⟨p1, p2⟩ := half_bd (X := x / 4294967296) (Y := y / 4294967296) (by omega) (by omega) (by omega) (by omega)
  obtain ⟨p3, p4⟩ := half_bd (X := x % 4294967296) (Y := y / 4294967296) (by omega) (by omega) (by omega) (by omega)
  obtain ⟨p5, p6⟩ := half_bd (X := x / 4294967296) (Y := y % 4294967296) (by omega) (by omega) (by omega) (by omega)
  obtain ⟨p7, p8⟩ := half_bd (X := x % 4294967296) (Y := y % 4294967296) (by omega) (by omega) (by omega) (by omega)
  go_enter Try.func27, Try.ntmps27
  go_wp2
  go_ret2
  refine ⟨?_, rfl⟩
  rw [hxy'.out]
  simp [IntKind.wrap_u64, ← hxy'.out]
  rw [hxy'.out]
  generalize x / 4294967296 * (y / 4294967296) = A at *
  generalize x % 4294967296 * (y / 4294967296) = B at *
  generalize x / 4294967296 * (y % 4294967296) = C at *
  generalize x % 4294967296 * (y % 4294967296) = D at *
  omega

set_option maxHeartbeats 1600000 in
theorem fits_any (wd a b o : Int) (w : World) (hw : MayW wd) (h : U64 a) (hb : U64 b) (ho : U64 o) :
    Calls Try.prog 45 #[.int .i64 wd, .int .u64 a, .int .u64 b, .int .u64 o] w fun e w' => e = .returned (.bool (decide (sgnS wd o = prodS wd a b))) ∧ w = w' := by
  have hs1 := sign_u (wd := wd) (a := a) hw
  have hs2 := sign_u (wd := wd) (a := b) hw
  have hs3 := sign_u (wd := wd) (a := o) hw
  have ca := signI_cases hw a
  have cb := signI_cases hw b
  have co := signI_cases hw o
  have ba := sgnS_bd hw a
  have bb := sgnS_bd hw b
  have bo := sgnS_bd hw o
  obtain ⟨x, hx⟩ : ∃ x, x = signI wd a := ⟨_, rfl⟩
  obtain ⟨y, hy⟩ : ∃ y, y = signI wd b := ⟨_, rfl⟩
  obtain ⟨s, hs⟩ : ∃ s, s = signI wd o := ⟨_, rfl⟩
  rw [← hx] at hs1 ca
  rw [← hy] at hs2 cb
  rw [← hs] at hs3 co
  have hx' := Lib.hid hx
  have hy' := Lib.hid hy
  have hs' := Lib.hid hs
  clear hx hy hs
  have hP : prodS wd a b = sgnS wd a * sgnS wd b := rfl
  rw [hP]
  clear hP
  generalize sgnS wd a = sa at *
  generalize sgnS wd b = sb at *
  generalize sgnS wd o = so at *
  have hau : U64 (sa.natAbs : Int) := ⟨by omega, by omega⟩
  have hbu : U64 (sb.natAbs : Int) := ⟨by omega, by omega⟩
  obtain ⟨ax, hax⟩ : ∃ ax, ax = (sa.natAbs : Int) := ⟨_, rfl⟩
  obtain ⟨ay, hay⟩ : ∃ ay, ay = (sb.natAbs : Int) := ⟨_, rfl⟩
  rw [← hax] at hau
  rw [← hay] at hbu
  obtain ⟨H, hH⟩ : ∃ H, ax * ay / 18446744073709551616 = H := ⟨_, rfl⟩
  obtain ⟨L, hL⟩ : ∃ L, ax * ay % 18446744073709551616 = L := ⟨_, rfl⟩
  obtain ⟨n, hn⟩ : ∃ n, IntKind.u64.wrap (-s) = n := ⟨_, rfl⟩
  have hn' := Lib.hid hn
  have hpm : sa * sb = if (sa < 0 ↔ sb < 0) then ax * ay else - (ax * ay) := by
    rw [hax, hay]
    rcases ca with ⟨ca, _⟩ | ⟨ca, _⟩ <;> rcases cb with ⟨cb, _⟩ | ⟨cb, _⟩
    · rw [if_pos (by omega), Int.natAbs_of_nonneg ca, Int.natAbs_of_nonneg cb]
    · rw [if_neg (by omega), Int.natAbs_of_nonneg ca, Int.ofNat_natAbs_of_nonpos (by omega), Int.mul_neg, Int.neg_neg]
    · rw [if_neg (by omega), Int.natAbs_of_nonneg cb, Int.ofNat_natAbs_of_nonpos (by omega), Int.neg_mul, Int.neg_neg]
    · rw [if_pos (by omega), Int.ofNat_natAbs_of_nonpos (by omega), Int.ofNat_natAbs_of_nonpos (by omega), Int.neg_mul_neg]
  have hpm' := Lib.hid hpm
  clear hpm
  rcases ca with ⟨ca, ea⟩ | ⟨ca, ea⟩ <;> rcases cb with ⟨cb, eb⟩ | ⟨cb, eb⟩ <;> rcases co with ⟨co, eo⟩ | ⟨co, eo⟩
  · have hx63 : x / 9223372036854775808 = 0 := by omega
    have hy63 : y / 9223372036854775808 = 0 := by omega
    have hs63 : s / 9223372036854775808 = 0 := by omega
    obtain rfl : x = ax := by omega
    obtain rfl : y = ay := by omega
    obtain rfl : s = so := eo
    have fin : ∀ t, (t = (x * y)) → decide (s = sa * sb) = decide (s = t) := by
      rintro t rfl
      rw [hpm'.out, if_pos (by omega)]
    have hnn : 0 ≤ x * y := Int.mul_nonneg hau.1 hbu.1
    have hH' := Lib.hid hH
    have hL' := Lib.hid hL
    have fin' := Lib.hid fin
    clear ea eb ca cb co bb ba bo fin
    try clear eo
    try clear hax
    try clear hay
    go_enter Try.func45, Try.ntmps45
    go_wp2_with fail
    refine (Signed_any _ _ _ hw h).mono ?_; rw [← hx'.out]; rintro e w' ⟨rfl, rfl⟩
    go_wp2_with fail
    refine (Signed_any _ _ _ hw hb).mono ?_; rw [← hy'.out]; rintro e w' ⟨rfl, rfl⟩
    go_wp2_with fail
    refine (Wide_any _ _ _ (by assumption) (by assumption)).mono ?_; rintro e w' ⟨rfl, rfl⟩
    go_wp2_with fail
    refine (Signed_any _ _ _ hw ho).mono ?_; rw [← hs'.out]; rintro e w' ⟨rfl, rfl⟩
    go_wp2_with fail
    all_goals
      go_ret
      refine ⟨ret_bool ?_, rfl⟩
      rw [fin'.out _ rfl, Bool.eq_iff_iff]
      have q1 := hH'.out
      have q2 := hL'.out
      have q3 := hs3.1
      have q4 := hs3.2
      try have q5 := hsn'.out
      simp only [beq_iff_eq, decide_eq_true_eq, true_iff, Bool.false_eq_true, false_iff]
      omega
  · have hx63 : x / 9223372036854775808 = 0 := by omega
    have hy63 : y / 9223372036854775808 = 0 := by omega
    have hs63 : s / 9223372036854775808 = 1 := by omega
    obtain rfl : x = ax := by omega
    obtain rfl : y = ay := by omega
    have hsn : n = -so := by rw [← hn, IntKind.wrap_u64]; omega
    have hsn' := Lib.hid hsn
    have so1 : so < 0 := co
    have so2 : -9223372036854775808 ≤ so := bo.1
    clear hsn
    have fin : ∀ t, (t = (x * y)) → decide (so = sa * sb) = decide (so = t) := by
      rintro t rfl
      rw [hpm'.out, if_pos (by omega)]
    have hnn : 0 ≤ x * y := Int.mul_nonneg hau.1 hbu.1
    have hH' := Lib.hid hH
    have hL' := Lib.hid hL
    have fin' := Lib.hid fin
    clear ea eb ca cb co bb ba bo fin
    try clear eo
    try clear hax
    try clear hay
    go_enter Try.func45, Try.ntmps45
    go_wp2_with fail
    refine (Signed_any _ _ _ hw h).mono ?_; rw [← hx'.out]; rintro e w' ⟨rfl, rfl⟩
    go_wp2_with fail
    refine (Signed_any _ _ _ hw hb).mono ?_; rw [← hy'.out]; rintro e w' ⟨rfl, rfl⟩
    go_wp2_with fail
    refine (Wide_any _ _ _ (by assumption) (by assumption)).mono ?_; rintro e w' ⟨rfl, rfl⟩
    go_wp2_with fail
    refine (Signed_any _ _ _ hw ho).mono ?_; rw [← hs'.out]; rintro e w' ⟨rfl, rfl⟩
    go_wp2_with fail
    all_goals
      go_ret
      refine ⟨ret_bool ?_, rfl⟩
      rw [fin'.out _ rfl, Bool.eq_iff_iff]
      have q1 := hH'.out
      have q2 := hL'.out
      have q3 := hs3.1
      have q4 := hs3.2
      try have q5 := hsn'.out
      simp only [beq_iff_eq, decide_eq_true_eq, true_iff, Bool.false_eq_true, false_iff]
      omega
  · have hx63 : x / 9223372036854775808 = 0 := by omega
    have hy63 : y / 9223372036854775808 = 1 := by omega
    have hs63 : s / 9223372036854775808 = 0 := by omega
    obtain rfl : x = ax := by omega
    have hyn : IntKind.u64.wrap (-y) = ay := by rw [IntKind.wrap_u64]; omega
    obtain rfl : s = so := eo
    have fin : ∀ t, (t = (x * ay)) → decide (s = sa * sb) = decide (s = -t) := by
      rintro t rfl
      rw [hpm'.out, if_neg (by omega)]
    have hnn : 0 ≤ x * ay := Int.mul_nonneg hau.1 hbu.1
    have hH' := Lib.hid hH
    have hL' := Lib.hid hL
    have fin' := Lib.hid fin
    clear ea eb ca cb co bb ba bo fin
    try clear eo
    try clear hax
    try clear hay
    go_enter Try.func45, Try.ntmps45
    go_wp2_with fail
    refine (Signed_any _ _ _ hw h).mono ?_; rw [← hx'.out]; rintro e w' ⟨rfl, rfl⟩
    go_wp2_with fail
    refine (Signed_any _ _ _ hw hb).mono ?_; rw [← hy'.out]; rintro e w' ⟨rfl, rfl⟩
    go_wp2_with fail
    refine (Wide_any _ _ _ (by assumption) (by assumption)).mono ?_; rintro e w' ⟨rfl, rfl⟩
    go_wp2_with fail
    refine (Signed_any _ _ _ hw ho).mono ?_; rw [← hs'.out]; rintro e w' ⟨rfl, rfl⟩
    go_wp2_with fail
    all_goals
      go_ret
      refine ⟨ret_bool ?_, rfl⟩
      rw [fin'.out _ rfl, Bool.eq_iff_iff]
      have q1 := hH'.out
      have q2 := hL'.out
      have q3 := hs3.1
      have q4 := hs3.2
      try have q5 := hsn'.out
      simp only [beq_iff_eq, decide_eq_true_eq, true_iff, Bool.false_eq_true, false_iff]
      omega
  · have hx63 : x / 9223372036854775808 = 0 := by omega
    have hy63 : y / 9223372036854775808 = 1 := by omega
    have hs63 : s / 9223372036854775808 = 1 := by omega
    obtain rfl : x = ax := by omega
    have hyn : IntKind.u64.wrap (-y) = ay := by rw [IntKind.wrap_u64]; omega
    have hsn : n = -so := by rw [← hn, IntKind.wrap_u64]; omega
    have hsn' := Lib.hid hsn
    have so1 : so < 0 := co
    have so2 : -9223372036854775808 ≤ so := bo.1
    clear hsn
    have fin : ∀ t, (t = (x * ay)) → decide (so = sa * sb) = decide (so = -t) := by
      rintro t rfl
      rw [hpm'.out, if_neg (by omega)]
    have hnn : 0 ≤ x * ay := Int.mul_nonneg hau.1 hbu.1
    have hH' := Lib.hid hH
    have hL' := Lib.hid hL
    have fin' := Lib.hid fin
    clear ea eb ca cb co bb ba bo fin
    try clear eo
    try clear hax
    try clear hay
    go_enter Try.func45, Try.ntmps45
    go_wp2_with fail
    refine (Signed_any _ _ _ hw h).mono ?_; rw [← hx'.out]; rintro e w' ⟨rfl, rfl⟩
    go_wp2_with fail
    refine (Signed_any _ _ _ hw hb).mono ?_; rw [← hy'.out]; rintro e w' ⟨rfl, rfl⟩
    go_wp2_with fail
    refine (Wide_any _ _ _ (by assumption) (by assumption)).mono ?_; rintro e w' ⟨rfl, rfl⟩
    go_wp2_with fail
    refine (Signed_any _ _ _ hw ho).mono ?_; rw [← hs'.out]; rintro e w' ⟨rfl, rfl⟩
    go_wp2_with fail
    all_goals
      go_ret
      refine ⟨ret_bool ?_, rfl⟩
      rw [fin'.out _ rfl, Bool.eq_iff_iff]
      have q1 := hH'.out
      have q2 := hL'.out
      have q3 := hs3.1
      have q4 := hs3.2
      try have q5 := hsn'.out
      simp only [beq_iff_eq, decide_eq_true_eq, true_iff, Bool.false_eq_true, false_iff]
      omega
  · have hx63 : x / 9223372036854775808 = 1 := by omega
    have hy63 : y / 9223372036854775808 = 0 := by omega
    have hs63 : s / 9223372036854775808 = 0 := by omega
    have hxn : IntKind.u64.wrap (-x) = ax := by rw [IntKind.wrap_u64]; omega
    obtain rfl : y = ay := by omega
    obtain rfl : s = so := eo
    have fin : ∀ t, (t = (ax * y)) → decide (s = sa * sb) = decide (s = -t) := by
      rintro t rfl
      rw [hpm'.out, if_neg (by omega)]
    have hnn : 0 ≤ ax * y := Int.mul_nonneg hau.1 hbu.1
    have hH' := Lib.hid hH
    have hL' := Lib.hid hL
    have fin' := Lib.hid fin
    clear ea eb ca cb co bb ba bo fin
    try clear eo
    try clear hax
    try clear hay
    go_enter Try.func45, Try.ntmps45
    go_wp2_with fail
    refine (Signed_any _ _ _ hw h).mono ?_; rw [← hx'.out]; rintro e w' ⟨rfl, rfl⟩
    go_wp2_with fail
    refine (Signed_any _ _ _ hw hb).mono ?_; rw [← hy'.out]; rintro e w' ⟨rfl, rfl⟩
    go_wp2_with fail
    refine (Wide_any _ _ _ (by assumption) (by assumption)).mono ?_; rintro e w' ⟨rfl, rfl⟩
    go_wp2_with fail
    refine (Signed_any _ _ _ hw ho).mono ?_; rw [← hs'.out]; rintro e w' ⟨rfl, rfl⟩
    go_wp2_with fail
    all_goals
      go_ret
      refine ⟨ret_bool ?_, rfl⟩
      rw [fin'.out _ rfl, Bool.eq_iff_iff]
      have q1 := hH'.out
      have q2 := hL'.out
      have q3 := hs3.1
      have q4 := hs3.2
      try have q5 := hsn'.out
      simp only [beq_iff_eq, decide_eq_true_eq, true_iff, Bool.false_eq_true, false_iff]
      omega
  · have hx63 : x / 9223372036854775808 = 1 := by omega
    have hy63 : y / 9223372036854775808 = 0 := by omega
    have hs63 : s / 9223372036854775808 = 1 := by omega
    have hxn : IntKind.u64.wrap (-x) = ax := by rw [IntKind.wrap_u64]; omega
    obtain rfl : y = ay := by omega
    have hsn : n = -so := by rw [← hn, IntKind.wrap_u64]; omega
    have hsn' := Lib.hid hsn
    have so1 : so < 0 := co
    have so2 : -9223372036854775808 ≤ so := bo.1
    clear hsn
    have fin : ∀ t, (t = (ax * y)) → decide (so = sa * sb) = decide (so = -t) := by
      rintro t rfl
      rw [hpm'.out, if_neg (by omega)]
    have hnn : 0 ≤ ax * y := Int.mul_nonneg hau.1 hbu.1
    have hH' := Lib.hid hH
    have hL' := Lib.hid hL
    have fin' := Lib.hid fin
    clear ea eb ca cb co bb ba bo fin
    try clear eo
    try clear hax
    try clear hay
    go_enter Try.func45, Try.ntmps45
    go_wp2_with fail
    refine (Signed_any _ _ _ hw h).mono ?_; rw [← hx'.out]; rintro e w' ⟨rfl, rfl⟩
    go_wp2_with fail
    refine (Signed_any _ _ _ hw hb).mono ?_; rw [← hy'.out]; rintro e w' ⟨rfl, rfl⟩
    go_wp2_with fail
    refine (Wide_any _ _ _ (by assumption) (by assumption)).mono ?_; rintro e w' ⟨rfl, rfl⟩
    go_wp2_with fail
    refine (Signed_any _ _ _ hw ho).mono ?_; rw [← hs'.out]; rintro e w' ⟨rfl, rfl⟩
    go_wp2_with fail
    all_goals
      go_ret
      refine ⟨ret_bool ?_, rfl⟩
      rw [fin'.out _ rfl, Bool.eq_iff_iff]
      have q1 := hH'.out
      have q2 := hL'.out
      have q3 := hs3.1
      have q4 := hs3.2
      try have q5 := hsn'.out
      simp only [beq_iff_eq, decide_eq_true_eq, true_iff, Bool.false_eq_true, false_iff]
      omega
  · have hx63 : x / 9223372036854775808 = 1 := by omega
    have hy63 : y / 9223372036854775808 = 1 := by omega
    have hs63 : s / 9223372036854775808 = 0 := by omega
    have hxn : IntKind.u64.wrap (-x) = ax := by rw [IntKind.wrap_u64]; omega
    have hyn : IntKind.u64.wrap (-y) = ay := by rw [IntKind.wrap_u64]; omega
    obtain rfl : s = so := eo
    have fin : ∀ t, (t = (ax * ay)) → decide (s = sa * sb) = decide (s = t) := by
      rintro t rfl
      rw [hpm'.out, if_pos (by omega)]
    have hnn : 0 ≤ ax * ay := Int.mul_nonneg hau.1 hbu.1
    have hH' := Lib.hid hH
    have hL' := Lib.hid hL
    have fin' := Lib.hid fin
    clear ea eb ca cb co bb ba bo fin
    try clear eo
    try clear hax
    try clear hay
    go_enter Try.func45, Try.ntmps45
    go_wp2_with fail
    refine (Signed_any _ _ _ hw h).mono ?_; rw [← hx'.out]; rintro e w' ⟨rfl, rfl⟩
    go_wp2_with fail
    refine (Signed_any _ _ _ hw hb).mono ?_; rw [← hy'.out]; rintro e w' ⟨rfl, rfl⟩
    go_wp2_with fail
    refine (Wide_any _ _ _ (by assumption) (by assumption)).mono ?_; rintro e w' ⟨rfl, rfl⟩
    go_wp2_with fail
    refine (Signed_any _ _ _ hw ho).mono ?_; rw [← hs'.out]; rintro e w' ⟨rfl, rfl⟩
    go_wp2_with fail
    all_goals
      go_ret
      refine ⟨ret_bool ?_, rfl⟩
      rw [fin'.out _ rfl, Bool.eq_iff_iff]
      have q1 := hH'.out
      have q2 := hL'.out
      have q3 := hs3.1
      have q4 := hs3.2
      try have q5 := hsn'.out
      simp only [beq_iff_eq, decide_eq_true_eq, true_iff, Bool.false_eq_true, false_iff]
      omega
  · have hx63 : x / 9223372036854775808 = 1 := by omega
    have hy63 : y / 9223372036854775808 = 1 := by omega
    have hs63 : s / 9223372036854775808 = 1 := by omega
    have hxn : IntKind.u64.wrap (-x) = ax := by rw [IntKind.wrap_u64]; omega
    have hyn : IntKind.u64.wrap (-y) = ay := by rw [IntKind.wrap_u64]; omega
    have hsn : n = -so := by rw [← hn, IntKind.wrap_u64]; omega
    have hsn' := Lib.hid hsn
    have so1 : so < 0 := co
    have so2 : -9223372036854775808 ≤ so := bo.1
    clear hsn
    have fin : ∀ t, (t = (ax * ay)) → decide (so = sa * sb) = decide (so = t) := by
      rintro t rfl
      rw [hpm'.out, if_pos (by omega)]
    have hnn : 0 ≤ ax * ay := Int.mul_nonneg hau.1 hbu.1
    have hH' := Lib.hid hH
    have hL' := Lib.hid hL
    have fin' := Lib.hid fin
    clear ea eb ca cb co bb ba bo fin
    try clear eo
    try clear hax
    try clear hay
    go_enter Try.func45, Try.ntmps45
    go_wp2_with fail
    refine (Signed_any _ _ _ hw h).mono ?_; rw [← hx'.out]; rintro e w' ⟨rfl, rfl⟩
    go_wp2_with fail
    refine (Signed_any _ _ _ hw hb).mono ?_; rw [← hy'.out]; rintro e w' ⟨rfl, rfl⟩
    go_wp2_with fail
    refine (Wide_any _ _ _ (by assumption) (by assumption)).mono ?_; rintro e w' ⟨rfl, rfl⟩
    go_wp2_with fail
    refine (Signed_any _ _ _ hw ho).mono ?_; rw [← hs'.out]; rintro e w' ⟨rfl, rfl⟩
    go_wp2_with fail
    all_goals
      go_ret
      refine ⟨ret_bool ?_, rfl⟩
      rw [fin'.out _ rfl, Bool.eq_iff_iff]
      have q1 := hH'.out
      have q2 := hL'.out
      have q3 := hs3.1
      have q4 := hs3.2
      try have q5 := hsn'.out
      simp only [beq_iff_eq, decide_eq_true_eq, true_iff, Bool.false_eq_true, false_iff]
      omega

end Go.Proofs.Ytkfenljldmbmcaa
