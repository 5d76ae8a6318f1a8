/- WordParts answers true. -/
import Derived.Test.YtkfenljldmbmcaaWTurns
set_option linter.unusedSimpArgs false
set_option linter.unusedVariables false
namespace Go.Proofs.Ytkfenljldmbmcaa
open Go.RowKit Go.MapKept

set_option maxRecDepth 100000 in
set_option maxHeartbeats 1000000 in
theorem wordParts_core (wd a l s b n : Int) (c z sg o p : Bool) (w : World) (hmay : mayB wd = true) (hx : bits BinOp.xor IntKind.u64 IntKind.u64.max a = 18446744073709551615 - a)
    (h1 : ∀ w, Calls Try.prog 28 #[.int .i64 wd, .int .u64 a] w (Two1 l w))
    (h2 : ∀ w, Calls Try.prog 29 #[.int .i64 wd, .int .u64 a] w (Two1 s w))
    (h3 : ∀ w, Calls Try.prog 30 #[.int .i64 wd, .int .u64 a] w (Two1 b w))
    (h4 : ∀ w, Calls Try.prog 31 #[.int .i64 wd, .int .u64 a] w (Three n c z sg o p w))
    (h5 : ∀ w, Calls Try.prog 20 #[.int .i64 3, .int .i64 wd, .int .u64 0, .int .u64 a, .agg #[.bool false, .bool false, .bool false, .bool false, .bool false]] w fun e w' => e = .returned (.tuple #[.int .u64 n, .agg #[.bool c, .bool z, .bool sg, .bool o, .bool p]]) ∧ Below w.heap.size w w')
    (h6 : ∀ w, Calls Try.prog 32 #[.int .i64 wd, .int .u64 a] w fun e w' => e = .returned (.int .u64 l) ∧ w = w')
    (h7 : ∀ w, Calls Try.prog 33 #[.int .i64 wd, .int .u64 a] w fun e w' => e = .returned (.int .u64 s) ∧ w = w')
    (h8 : ∀ w, Calls Try.prog 32 #[.int .i64 wd, .int .u64 (18446744073709551615 - a)] w fun e w' => e = .returned (.int .u64 b) ∧ w = w') :
    Calls Try.prog 10 #[.int .i64 wd, .int .u64 a] w (Yes w) := by
  have h1' := Lib.hid h1
  have h2' := Lib.hid h2
  have h3' := Lib.hid h3
  have h4' := Lib.hid h4
  have h5' := Lib.hid h5
  have h6' := Lib.hid h6
  have h7' := Lib.hid h7
  have h8' := Lib.hid h8
  clear h1 h2 h3 h4 h5 h6 h7 h8
  go_enter Try.func10, Try.ntmps10
  go_wp2_with fail
  refine (h1'.out _).mono ?_
  rintro e w1 ⟨rfl, rfl⟩
  go_wp2_with fail
  refine (h2'.out _).mono ?_
  rintro e w1 ⟨rfl, rfl⟩
  go_wp2_with fail
  refine (h3'.out _).mono ?_
  rintro e w1 ⟨rfl, rfl⟩
  go_wp2_with fail
  refine (h4'.out _).mono ?_
  rintro e w1 ⟨rfl, b1⟩
  have b1' := Lib.hid b1
  clear b1
  go_wp2_with fail
  refine (MayW_any _ _).mono ?_
  rintro e w2 ⟨rfl, rfl⟩
  go_wp2_with fail
  refine (h5'.out _).mono ?_
  rintro e w3 ⟨rfl, h3⟩
  obtain ⟨hblk, hbel, hsz⟩ := kept5 h3
  have hbel' := Lib.hid (Below.next b1'.out hbel)
  obtain ⟨e0, e1, e2, e3, e4, f1⟩ := cells5 hblk
  clear h3 hbel hblk
  go_wp2_with fail
  refine (h6'.out _).mono ?_
  rintro e w1 ⟨rfl, rfl⟩
  go_wp2_with fail
  refine (h7'.out _).mono ?_
  rintro e w1 ⟨rfl, rfl⟩
  go_wp2_with fail
  refine (h8'.out _).mono ?_
  rintro e w1 ⟨rfl, rfl⟩
  go_wp2_with (first | (go_at_call 16; refine (num_any _ _).mono ?_; rintro e w' ⟨rfl, rfl⟩))
  refine (known_any _).mono ?_
  rintro e w5 ⟨rfl, h5⟩
  have h5' := Lib.hid (Below.after hbel'.out h5)
  clear h5
  go_wp2_with fail
  go_ret
  exact ⟨rfl, h5'.out⟩

set_option maxRecDepth 100000 in
set_option maxHeartbeats 1000000 in
theorem wordParts_no (wd a : Int) (w : World) (hw : ¬ MayW wd) (ha : U64 a) : Calls Try.prog 10 #[.int .i64 wd, .int .u64 a] w (Yes w) := by
  have hw' := Lib.hid hw
  have ha' := Lib.hid ha
  have hmay := mayB_no hw
  clear hw ha
  go_enter Try.func10, Try.ntmps10
  go_wp2_with fail
  refine (LowP_no _ _ _ hw'.out).mono ?_
  rintro e w1 ⟨rfl, rfl⟩
  go_wp2_with fail
  refine (SignedP_no _ _ _ hw'.out).mono ?_
  rintro e w1 ⟨rfl, rfl⟩
  go_wp2_with fail
  refine (NotP_no _ _ _ hw'.out ha'.out).mono ?_
  rintro e w1 ⟨rfl, rfl⟩
  go_wp2_with fail
  refine (NegP_no _ _ _ hw'.out).mono ?_
  rintro e w1 ⟨rfl, b1⟩
  have b1' := Lib.hid b1
  clear b1
  go_wp2_with fail
  refine (MayW_any _ _).mono ?_
  rintro e w2 ⟨rfl, rfl⟩
  go_wp2_with (first | (go_at_call 16; refine (num_any _ _).mono ?_; rintro e w' ⟨rfl, rfl⟩))
  refine (known_any _).mono ?_
  rintro e w5 ⟨rfl, h5⟩
  have h5' := Lib.hid (Below.after b1'.out h5)
  clear h5
  go_wp2_with fail
  go_ret
  exact ⟨rfl, h5'.out⟩

theorem wordParts_any (wd a : Int) (w : World) (ha : U64 a) : Calls Try.prog 10 #[.int .i64 wd, .int .u64 a] w (Yes w) := by
  by_cases hw : MayW wd
  · have hnu : U64 (18446744073709551615 - a) := neg_u ha
    exact wordParts_core wd a _ _ _ _ _ _ _ _ _ w (mayB_of hw) (xor_max a ha) (fun w => LowP_any wd a w hw ha) (fun w => SignedP_any wd a w hw ha) (fun w => NotP_any wd a w hw ha)
      (fun w => NegP_any wd a w hw ha) (fun w => refDo_any 3 wd 0 a false false false false false w hw u64_0 ha (by omega)) (fun w => Low_any wd a w hw ha) (fun w => Signed_any wd a w hw ha) (fun w => Low_any wd _ w hw hnu)
  · exact wordParts_no wd a w hw ha
end Go.Proofs.Ytkfenljldmbmcaa
