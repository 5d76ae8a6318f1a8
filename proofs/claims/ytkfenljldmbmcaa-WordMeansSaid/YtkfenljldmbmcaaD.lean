/- The contracts of sums, less. -/
import Derived.Test.YtkfenljldmbmcaaC
import Derived.Shelf.Spec.BitsCarry
set_option linter.unusedSimpArgs false
set_option linter.unusedVariables false
namespace Go.Proofs.Ytkfenljldmbmcaa
open Go.RowKit

theorem run_add83 (x y c : Int) (hx : 0 ≤ x) (hy : 0 ≤ y) (hc0 : 0 ≤ c) (hc : c ≤ 1) (w : World) :
    (callFunc 83 #[.int .u64 x, .int .u64 y, .int .u64 c]).run Try.prog w = .ok (.value (.tuple #[.int .u64 ((x + y + c) % 18446744073709551616), .int .u64 ((x + y + c) / 18446744073709551616)])) w := by
  rw [run_callFunc_extern Try.func83 (by kernel_rfl) (by kernel_rfl) (by kernel_rfl) (e := add64Entry) (by kernel_rfl), run_add64 x y c hx hy hc0 hc]
  rfl

theorem run_sub84 (x y c : Int) (hx : 0 ≤ x) (hy : 0 ≤ y) (hy2 : y ≤ 18446744073709551615) (hx2 : x ≤ 18446744073709551615) (hc0 : 0 ≤ c) (hc : c ≤ 1) (w : World) :
    (callFunc 84 #[.int .u64 x, .int .u64 y, .int .u64 c]).run Try.prog w = .ok (.value (.tuple #[.int .u64 ((x - y - c) % 18446744073709551616), .int .u64 (if x < y + c then 1 else 0)])) w := by
  obtain ⟨x, rfl⟩ := Int.eq_ofNat_of_zero_le hx
  obtain ⟨y, rfl⟩ := Int.eq_ofNat_of_zero_le hy
  obtain ⟨c, rfl⟩ := Int.eq_ofNat_of_zero_le hc0
  rw [run_callFunc_extern Try.func84 (by kernel_rfl) (by kernel_rfl) (by kernel_rfl) (e := Go.Proofs.sub64Entry) (by kernel_rfl), Go.Proofs.run_sub64 x y c (by omega)]
  have e1 : (((x + 18446744073709551616 - y - c) % 18446744073709551616 : Nat) : Int) = ((x : Int) - y - c) % 18446744073709551616 := by omega
  have e2 : ((if x < y + c then 1 else 0 : Nat) : Int) = if (x : Int) < y + c then 1 else 0 := by
    by_cases hxy : x < y + c
    · rw [if_pos hxy, if_pos (by omega)]; rfl
    · rw [if_neg hxy, if_neg (by omega)]; rfl
  rw [e1, e2]
  rfl

theorem or_join (b c p : Int) (j : Nat) (hp : p = 2 ^ j) (b0 : 0 ≤ b) (b1 : b * p + p ≤ 18446744073709551616) (hc : c = 0 ∨ c = 1) :
    bits BinOp.or IntKind.u64 (IntKind.u64.wrap (b * p)) ((p - 1 : Int) * c) = b * p + (p - 1 : Int) * c := by
  have hp0 : 0 < p := by rw [hp]; exact two_pow_pos j
  have hbp : 0 ≤ b * p := Int.mul_nonneg b0 (by omega)
  have e1 : IntKind.u64.wrap (b * p) = b * p := by rw [IntKind.wrap_u64, Int.emod_eq_of_lt hbp (by omega)]
  rw [e1, u64_or _ _ hbp (by omega) (by rcases hc with rfl | rfl <;> simp <;> omega) (by rcases hc with rfl | rfl <;> simp <;> omega)]
  rw [nat_join j]
  · rcases hc with rfl | rfl <;> simp <;> omega
  · obtain ⟨B, rfl⟩ := Int.eq_ofNat_of_zero_le b0
    have : (B * p).toNat = B * 2 ^ j := by
      have : ((B * 2 ^ j : Nat) : Int) = B * p := by rw [hp]; simp
      omega
    rw [this]; exact Nat.mul_mod_left _ _
  · have e2 : ((2 ^ j : Nat) : Int) = p := by rw [hp]; simp
    rcases hc with rfl | rfl <;> simp <;> omega

/-- what a sum of low parts leaves -/
def sumO (wd a b c : Int) : Int := (a + b + c) % 2 ^ wd.toNat
def sumC (wd a b c : Int) : Bool := (a + b + c) / 2 ^ wd.toNat == 1
def sumV (wd a b c : Int) : Bool := topB wd a == topB wd b && topB wd (sumO wd a b c) != topB wd a
/-- what a difference of low parts leaves -/
def subO (wd a b c : Int) : Int := (a - b - c) % 2 ^ wd.toNat
def subC (a b c : Int) : Bool := decide (a < b + c)
def subV (wd a b c : Int) : Bool := topB wd a != topB wd b && topB wd (subO wd a b c) == topB wd b

set_option maxHeartbeats 400000 in
theorem sums_8 (a b c : Int) (w : World) (h : U64 a) (hb : U64 b) (hc : c = 0 ∨ c = 1) (ha8 : a < 256) (hb8 : b < 256) :
    Calls Try.prog 76 #[.int .i64 8, .int .u64 a, .int .u64 b, .int .u64 c] w fun e w' =>
      e = .returned (.tuple #[.int .u64 (sumO 8 a b c), .bool (sumC 8 a b c), .bool (sumV 8 a b c)]) ∧ ∃ n, w' = w.drewN n := by
  obtain ⟨o, ho⟩ : ∃ o, o = (a + b + c) % 256 := ⟨_, rfl⟩
  obtain ⟨q, hq⟩ : ∃ q, q = (a + b + c) / 256 := ⟨_, rfl⟩
  have hadd : ∀ w, (callFunc 83 #[.int .u64 (IntKind.u64.wrap (a * 72057594037927936)), .int .u64 (bits BinOp.or IntKind.u64 (IntKind.u64.wrap (b * 72057594037927936)) (72057594037927935 * c)), .int .u64 c]).run Try.prog w = .ok (.value (.tuple #[.int .u64 (o * 72057594037927936), .int .u64 q])) w := by
    intro w
    have ha0 := h.1
    have hb0 := hb.1
    have e1 := or_join b c 72057594037927936 56 (by decide) hb.1 (by omega) hc
    have e2 : IntKind.u64.wrap (a * 72057594037927936) = a * 72057594037927936 := by rw [IntKind.wrap_u64, Int.emod_eq_of_lt (by omega) (by omega)]
    have e3 : bits BinOp.or IntKind.u64 (IntKind.u64.wrap (b * 72057594037927936)) (72057594037927935 * c) = b * 72057594037927936 + 72057594037927935 * c := e1
    rw [e2, e3, run_add83 _ _ _ (by omega) (by omega) (by omega) (by omega)]
    have e4 : a * 72057594037927936 + (b * 72057594037927936 + 72057594037927935 * c) + c = (a + b + c) * 72057594037927936 := by omega
    rw [e4, ho, hq, show (18446744073709551616 : Int) = 256 * 72057594037927936 from rfl, Int.mul_comm 256 72057594037927936, Int.mul_comm (a + b + c) 72057594037927936, Int.mul_emod_mul_of_pos _ _ (by omega), Int.mul_ediv_mul_of_pos _ _ (by omega), Int.mul_comm]
  have ha0 := h.1
  have hb0 := hb.1
  have hu : U64 o := by constructor <;> omega
  have ho' := Lib.hid ho
  have hq' := Lib.hid hq
  clear ho hq ha0 hb0
  go_enter Try.func76, Try.ntmps76
  go_wp2_with fail
  go_quiet (fail)
  clear hadd
  go_wp2_with (go_at_call 47; refine (top_any _ _ _ (by omega) (by omega) (by assumption)).mono ?_; rintro e w' ⟨rfl, rfl⟩)
  all_goals (go_ret3; refine ⟨?_, nq, rfl⟩; simp [sumO, sumC, sumV, ← ho'.out, ← hq'.out, *]; try (cases topB 8 o <;> cases topB 8 b <;> rfl))

set_option maxHeartbeats 400000 in
theorem sums_16 (a b c : Int) (w : World) (h : U64 a) (hb : U64 b) (hc : c = 0 ∨ c = 1) (ha8 : a < 65536) (hb8 : b < 65536) :
    Calls Try.prog 76 #[.int .i64 16, .int .u64 a, .int .u64 b, .int .u64 c] w fun e w' =>
      e = .returned (.tuple #[.int .u64 (sumO 16 a b c), .bool (sumC 16 a b c), .bool (sumV 16 a b c)]) ∧ ∃ n, w' = w.drewN n := by
  obtain ⟨o, ho⟩ : ∃ o, o = (a + b + c) % 65536 := ⟨_, rfl⟩
  obtain ⟨q, hq⟩ : ∃ q, q = (a + b + c) / 65536 := ⟨_, rfl⟩
  have hadd : ∀ w, (callFunc 83 #[.int .u64 (IntKind.u64.wrap (a * 281474976710656)), .int .u64 (bits BinOp.or IntKind.u64 (IntKind.u64.wrap (b * 281474976710656)) (281474976710655 * c)), .int .u64 c]).run Try.prog w = .ok (.value (.tuple #[.int .u64 (o * 281474976710656), .int .u64 q])) w := by
    intro w
    have ha0 := h.1
    have hb0 := hb.1
    have e1 := or_join b c 281474976710656 48 (by decide) hb.1 (by omega) hc
    have e2 : IntKind.u64.wrap (a * 281474976710656) = a * 281474976710656 := by rw [IntKind.wrap_u64, Int.emod_eq_of_lt (by omega) (by omega)]
    have e3 : bits BinOp.or IntKind.u64 (IntKind.u64.wrap (b * 281474976710656)) (281474976710655 * c) = b * 281474976710656 + 281474976710655 * c := e1
    rw [e2, e3, run_add83 _ _ _ (by omega) (by omega) (by omega) (by omega)]
    have e4 : a * 281474976710656 + (b * 281474976710656 + 281474976710655 * c) + c = (a + b + c) * 281474976710656 := by omega
    rw [e4, ho, hq, show (18446744073709551616 : Int) = 65536 * 281474976710656 from rfl, Int.mul_comm 65536 281474976710656, Int.mul_comm (a + b + c) 281474976710656, Int.mul_emod_mul_of_pos _ _ (by omega), Int.mul_ediv_mul_of_pos _ _ (by omega), Int.mul_comm]
  have ha0 := h.1
  have hb0 := hb.1
  have hu : U64 o := by constructor <;> omega
  have ho' := Lib.hid ho
  have hq' := Lib.hid hq
  clear ho hq ha0 hb0
  go_enter Try.func76, Try.ntmps76
  go_wp2_with fail
  go_quiet (fail)
  clear hadd
  go_wp2_with (go_at_call 47; refine (top_any _ _ _ (by omega) (by omega) (by assumption)).mono ?_; rintro e w' ⟨rfl, rfl⟩)
  all_goals (go_ret3; refine ⟨?_, nq, rfl⟩; simp [sumO, sumC, sumV, ← ho'.out, ← hq'.out, *]; try (cases topB 16 o <;> cases topB 16 b <;> rfl))

set_option maxHeartbeats 400000 in
theorem sums_32 (a b c : Int) (w : World) (h : U64 a) (hb : U64 b) (hc : c = 0 ∨ c = 1) (ha8 : a < 4294967296) (hb8 : b < 4294967296) :
    Calls Try.prog 76 #[.int .i64 32, .int .u64 a, .int .u64 b, .int .u64 c] w fun e w' =>
      e = .returned (.tuple #[.int .u64 (sumO 32 a b c), .bool (sumC 32 a b c), .bool (sumV 32 a b c)]) ∧ ∃ n, w' = w.drewN n := by
  obtain ⟨o, ho⟩ : ∃ o, o = (a + b + c) % 4294967296 := ⟨_, rfl⟩
  obtain ⟨q, hq⟩ : ∃ q, q = (a + b + c) / 4294967296 := ⟨_, rfl⟩
  have hadd : ∀ w, (callFunc 83 #[.int .u64 (IntKind.u64.wrap (a * 4294967296)), .int .u64 (bits BinOp.or IntKind.u64 (IntKind.u64.wrap (b * 4294967296)) (4294967295 * c)), .int .u64 c]).run Try.prog w = .ok (.value (.tuple #[.int .u64 (o * 4294967296), .int .u64 q])) w := by
    intro w
    have ha0 := h.1
    have hb0 := hb.1
    have e1 := or_join b c 4294967296 32 (by decide) hb.1 (by omega) hc
    have e2 : IntKind.u64.wrap (a * 4294967296) = a * 4294967296 := by rw [IntKind.wrap_u64, Int.emod_eq_of_lt (by omega) (by omega)]
    have e3 : bits BinOp.or IntKind.u64 (IntKind.u64.wrap (b * 4294967296)) (4294967295 * c) = b * 4294967296 + 4294967295 * c := e1
    rw [e2, e3, run_add83 _ _ _ (by omega) (by omega) (by omega) (by omega)]
    have e4 : a * 4294967296 + (b * 4294967296 + 4294967295 * c) + c = (a + b + c) * 4294967296 := by omega
    rw [e4, ho, hq, show (18446744073709551616 : Int) = 4294967296 * 4294967296 from rfl, Int.mul_comm 4294967296 4294967296, Int.mul_comm (a + b + c) 4294967296, Int.mul_emod_mul_of_pos _ _ (by omega), Int.mul_ediv_mul_of_pos _ _ (by omega), Int.mul_comm]
  have ha0 := h.1
  have hb0 := hb.1
  have hu : U64 o := by constructor <;> omega
  have ho' := Lib.hid ho
  have hq' := Lib.hid hq
  clear ho hq ha0 hb0
  go_enter Try.func76, Try.ntmps76
  go_wp2_with fail
  go_quiet (fail)
  clear hadd
  go_wp2_with (go_at_call 47; refine (top_any _ _ _ (by omega) (by omega) (by assumption)).mono ?_; rintro e w' ⟨rfl, rfl⟩)
  all_goals (go_ret3; refine ⟨?_, nq, rfl⟩; simp [sumO, sumC, sumV, ← ho'.out, ← hq'.out, *]; try (cases topB 32 o <;> cases topB 32 b <;> rfl))

set_option maxHeartbeats 400000 in
theorem sums_64 (a b c : Int) (w : World) (h : U64 a) (hb : U64 b) (hc : c = 0 ∨ c = 1) (ha8 : a < 18446744073709551616) (hb8 : b < 18446744073709551616) :
    Calls Try.prog 76 #[.int .i64 64, .int .u64 a, .int .u64 b, .int .u64 c] w fun e w' =>
      e = .returned (.tuple #[.int .u64 (sumO 64 a b c), .bool (sumC 64 a b c), .bool (sumV 64 a b c)]) ∧ ∃ n, w' = w.drewN n := by
  obtain ⟨o, ho⟩ : ∃ o, o = (a + b + c) % 18446744073709551616 := ⟨_, rfl⟩
  obtain ⟨q, hq⟩ : ∃ q, q = (a + b + c) / 18446744073709551616 := ⟨_, rfl⟩
  have hadd : ∀ w, (callFunc 83 #[.int .u64 (IntKind.u64.wrap a), .int .u64 (bits BinOp.or IntKind.u64 (IntKind.u64.wrap b) 0), .int .u64 c]).run Try.prog w = .ok (.value (.tuple #[.int .u64 o, .int .u64 q])) w := by
    intro w
    have ha0 := h.1
    have hb0 := hb.1
    have e1 : IntKind.u64.wrap a = a := by rw [IntKind.wrap_u64, Int.emod_eq_of_lt (by omega) (by omega)]
    have e2 : IntKind.u64.wrap b = b := by rw [IntKind.wrap_u64, Int.emod_eq_of_lt (by omega) (by omega)]
    have e3 : bits BinOp.or IntKind.u64 b 0 = b := by
      rw [u64_or _ _ (by omega) (by omega) (by omega) (by omega)]; simp; omega
    rw [e1, e2, e3, run_add83 _ _ _ (by omega) (by omega) (by omega) (by omega), ho, hq]
  have ha0 := h.1
  have hb0 := hb.1
  have hu : U64 o := by constructor <;> omega
  have ho' := Lib.hid ho
  have hq' := Lib.hid hq
  clear ho hq ha0 hb0
  go_enter Try.func76, Try.ntmps76
  go_wp2_with fail
  go_quiet (fail)
  clear hadd
  go_wp2_with (go_at_call 47; refine (top_any _ _ _ (by omega) (by omega) (by assumption)).mono ?_; rintro e w' ⟨rfl, rfl⟩)
  all_goals (go_ret3; refine ⟨?_, nq, rfl⟩; simp [sumO, sumC, sumV, ← ho'.out, ← hq'.out, *]; try (cases topB 64 o <;> cases topB 64 b <;> rfl))

theorem sums_any (wd a b c : Int) (w : World) (hw : MayW wd) (h : U64 a) (hb : U64 b) (hc : c = 0 ∨ c = 1) (ha8 : a < 2 ^ wd.toNat) (hb8 : b < 2 ^ wd.toNat) :
    Calls Try.prog 76 #[.int .i64 wd, .int .u64 a, .int .u64 b, .int .u64 c] w fun e w' =>
      e = .returned (.tuple #[.int .u64 (sumO wd a b c), .bool (sumC wd a b c), .bool (sumV wd a b c)]) ∧ ∃ n, w' = w.drewN n := by
  rcases hw with rfl | rfl | rfl | rfl
  · exact sums_8 a b c w h hb hc ha8 hb8
  · exact sums_16 a b c w h hb hc ha8 hb8
  · exact sums_32 a b c w h hb hc ha8 hb8
  · exact sums_64 a b c w h hb hc ha8 hb8

set_option maxHeartbeats 400000 in
theorem less_any (wd a b c : Int) (w : World) (hw : MayW wd) (h : U64 a) (hb : U64 b) (hc : c = 0 ∨ c = 1) :
    Calls Try.prog 77 #[.int .i64 wd, .int .u64 a, .int .u64 b, .int .u64 c] w fun e w' =>
      e = .returned (.tuple #[.int .u64 (subO wd a b c), .bool (subC a b c), .bool (subV wd a b c)]) ∧ w = w' := by
  obtain ⟨d, hd⟩ : ∃ d, d = (a - b - c) % 18446744073709551616 := ⟨_, rfl⟩
  obtain ⟨q, hq⟩ : ∃ q, q = if a < b + c then (1 : Int) else 0 := ⟨_, rfl⟩
  have hsub : ∀ w, (callFunc 84 #[.int .u64 a, .int .u64 b, .int .u64 c]).run Try.prog w = .ok (.value (.tuple #[.int .u64 d, .int .u64 q])) w := by
    intro w
    have ha0 := h.1
    have ha1 := h.2
    have hb0 := hb.1
    have hb1 := hb.2
    rw [run_sub84 _ _ _ ha0 hb0 (by omega) (by omega) (by omega) (by omega), hd, hq]
  have hu : U64 d := by rw [hd]; exact ⟨by omega, by omega⟩
  have hl : lowI wd d = subO wd a b c := by
    rw [hd]; unfold lowI subO
    rcases hw with rfl | rfl | rfl | rfl <;> simp <;> omega
  have hs : U64 (subO wd a b c) := by rw [← hl]; exact low_lt hw
  have hcq : (q == 1) = subC a b c := by rw [hq]; unfold subC; split <;> simp [*]
  have hl' := Lib.hid hl
  have hq' := Lib.hid hcq
  have hp1 : 1 ≤ wd := by rcases hw with rfl | rfl | rfl | rfl <;> omega
  have hp2 : wd ≤ 64 := by rcases hw with rfl | rfl | rfl | rfl <;> omega
  clear hd hq hl hcq
  obtain ⟨s, hsd⟩ : ∃ s, s = subO wd a b c := ⟨_, rfl⟩
  rw [← hsd] at hs hl'
  have hsd' := Lib.hid hsd
  clear hsd
  go_enter Try.func77, Try.ntmps77
  go_wp2_with (first | (go_at_call 47; refine (top_any _ _ _ hp1 hp2 (by assumption)).mono ?_; rintro e w' ⟨rfl, rfl⟩) | (go_at_call 41; refine (low_any _ _ _ hw (by assumption)).mono ?_; rw [hl'.out]; rintro e w' ⟨rfl, rfl⟩))
  all_goals (go_ret3; refine ⟨?_, rfl⟩; simp [subV, bne, ← hsd'.out, ← hq'.out, *])
  
end Go.Proofs.Ytkfenljldmbmcaa
