/- WordTurns answers true. -/
import Derived.Test.YtkfenljldmbmcaaWWidths
set_option linter.unusedSimpArgs false
set_option linter.unusedVariables false
namespace Go.Proofs.Ytkfenljldmbmcaa
open Go.RowKit Go.MapKept

set_option maxHeartbeats 1000000 in
theorem wordTurns_no (wd a n : Int) (w : World) (hw : ¬ MayW wd) : Calls Try.prog 11 #[.int .i64 wd, .int .u64 a, .int .u64 n] w (Yes w) := by
  have hw' := Lib.hid hw
  clear hw
  go_enter Try.func11, Try.ntmps11
  go_wp2_with fail
  refine (LowP_no _ _ _ hw'.out).mono ?_
  rintro e w1 ⟨rfl, rfl⟩
  go_wp2_with (first | (go_at_call 16; refine (num_any _ _).mono ?_; rintro e w' ⟨rfl, rfl⟩))
  refine (known_any _).mono ?_
  rintro e w5 ⟨rfl, h5⟩
  go_wp2_with fail
  go_ret
  exact ⟨rfl, h5⟩

def Two1 (x : Int) (w : World) (e : Ending) (w' : World) : Prop := e = .returned (.tuple #[.int .u64 x, .int .i64 0]) ∧ w = w'
def Three1 (x : Int) (w : World) (e : Ending) (w' : World) : Prop := ∃ C Z S O P : Bool, e = .returned (.tuple #[.int .u64 x, .agg #[.bool C, .bool Z, .bool S, .bool O, .bool P], .int .i64 0]) ∧ Below w.heap.size w w'

set_option maxRecDepth 100000 in
set_option maxHeartbeats 1000000 in
theorem wordTurns_core (wd a n l b d r : Int) (w : World)
    (h1 : ∀ w, Calls Try.prog 28 #[.int .i64 wd, .int .u64 a] w (Two1 l w))
    (h2 : ∀ w, Calls Try.prog 30 #[.int .i64 wd, .int .u64 a] w (Two1 b w))
    (h3 : ∀ w, Calls Try.prog 30 #[.int .i64 wd, .int .u64 b] w (Two1 l w))
    (h4 : ∀ w, Calls Try.prog 31 #[.int .i64 wd, .int .u64 a] w (Three1 d w))
    (h5 : ∀ w, Calls Try.prog 31 #[.int .i64 wd, .int .u64 d] w (Three1 l w))
    (h6 : ∀ w, Calls Try.prog 21 #[.int .i64 4, .int .i64 wd, .int .u64 a, .int .u64 n, .agg #[.bool false, .bool false, .bool false, .bool false, .bool false]] w (Three1 r w))
    (h7 : ∀ w, Calls Try.prog 21 #[.int .i64 5, .int .i64 wd, .int .u64 r, .int .u64 n, .agg #[.bool false, .bool false, .bool false, .bool false, .bool false]] w (Three1 l w)) :
    Calls Try.prog 11 #[.int .i64 wd, .int .u64 a, .int .u64 n] w (Yes w) := by
  have h1' := Lib.hid h1
  have h2' := Lib.hid h2
  have h3' := Lib.hid h3
  have h4' := Lib.hid h4
  have h5' := Lib.hid h5
  have h6' := Lib.hid h6
  have h7' := Lib.hid h7
  clear h1 h2 h3 h4 h5 h6 h7
  go_enter Try.func11, Try.ntmps11
  go_wp2_with fail
  refine (h1'.out _).mono ?_
  rintro e w1 ⟨rfl, rfl⟩
  go_wp2_with (first | (go_at_call 16; refine (num_any _ _).mono ?_; rintro e w' ⟨rfl, rfl⟩))
  refine (h2'.out _).mono ?_
  rintro e w1 ⟨rfl, rfl⟩
  go_wp2_with fail
  refine (h3'.out _).mono ?_
  rintro e w1 ⟨rfl, rfl⟩
  go_wp2_with fail
  refine (h4'.out _).mono ?_
  rintro e w1 ⟨C1, Z1, S1, O1, P1, rfl, b1⟩
  have b1' := Lib.hid b1
  clear b1
  go_wp2_with fail
  refine (h5'.out _).mono ?_
  rintro e w2 ⟨C2, Z2, S2, O2, P2, rfl, b2⟩
  have b2' := Lib.hid (Below.after b1'.out b2)
  clear b2
  go_wp2_with fail
  refine (h6'.out _).mono ?_
  rintro e w3 ⟨C3, Z3, S3, O3, P3, rfl, b3⟩
  have b3' := Lib.hid (Below.after b2'.out b3)
  clear b3
  go_wp2_with fail
  refine (h7'.out _).mono ?_
  rintro e w4 ⟨C4, Z4, S4, O4, P4, rfl, b4⟩
  have b4' := Lib.hid (Below.after b3'.out b4)
  clear b4
  go_wp2_with (first | (go_at_call 16; refine (num_any _ _).mono ?_; rintro e w' ⟨rfl, rfl⟩))
  refine (known_any _).mono ?_
  rintro e w5 ⟨rfl, h8⟩
  have b5' := Lib.hid (Below.after b4'.out h8)
  clear h8
  go_wp2_with fail
  go_ret
  exact ⟨rfl, b5'.out⟩

theorem wordTurns_any (wd a n : Int) (w : World) (ha : U64 a) (hn : U64 n) : Calls Try.prog 11 #[.int .i64 wd, .int .u64 a, .int .u64 n] w (Yes w) := by
  by_cases hw : MayW wd
  · have hbu : U64 (lowI wd (18446744073709551615 - a)) := low_lt hw
    have hdu : U64 (doO 3 wd 0 a false) := doO_u false hw u64_0 ha (by omega)
    have hru : U64 (shO 4 wd (lowI wd a) (shN wd n)) := shO_u hw (low_bd wd a).1 (low_bd wd a).2 _
    refine wordTurns_core wd a n (lowI wd a) (lowI wd (18446744073709551615 - a)) (doO 3 wd 0 a false) (shO 4 wd (lowI wd a) (shN wd n)) w ?_ ?_ ?_ ?_ ?_ ?_ ?_
    · exact fun w => LowP_any wd a w hw ha
    · exact fun w => NotP_any wd a w hw ha
    · intro w
      have h := NotP_any wd _ w hw hbu
      rw [not_twice hw] at h
      exact h
    · exact fun w => (NegP_any wd a w hw ha).mono fun e w' h => ⟨_, _, _, _, _, h⟩
    · intro w
      have h := NegP_any wd _ w hw hdu
      rw [neg_twice hw] at h
      exact h.mono fun e w' h => ⟨_, _, _, _, _, h⟩
    · exact fun w => (Shift_any 4 wd a n false false false false false w hw ha hn (by omega)).mono fun e w' h => ⟨_, _, _, _, _, h⟩
    · intro w
      refine (Shift_any 5 wd _ n false false false false false w hw hru hn (by omega)).mono fun e w' h => ?_
      obtain ⟨h1, h2⟩ := h
      rw [shift_back hw] at h1
      exact ⟨_, _, _, _, _, h1, h2⟩
  · exact wordTurns_no wd a n w hw
end Go.Proofs.Ytkfenljldmbmcaa
