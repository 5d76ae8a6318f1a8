/- WordShifts answers true. -/
import Derived.Test.YtkfenljldmbmcaaF
set_option linter.unusedSimpArgs false
set_option linter.unusedVariables false
namespace Go.Proofs.Ytkfenljldmbmcaa
open Go.RowKit Go.MapKept

set_option maxRecDepth 100000 in
set_option maxHeartbeats 1000000 in
theorem wordShifts_yes (op wd a b x : Int) (c z s o p C Z S O P : Bool) (w : World) (hmay : mayB wd = true) (hop1 : 1 ≤ op) (hop2 : op ≤ 5)
    (h1 : ∀ w, Calls Try.prog 21 #[.int .i64 op, .int .i64 wd, .int .u64 a, .int .u64 b, .agg #[.bool c, .bool z, .bool s, .bool o, .bool p]] w (fun e w' => e = .returned (.tuple #[.int .u64 x, .agg #[.bool C, .bool Z, .bool S, .bool O, .bool P], .int .i64 0]) ∧ Below w.heap.size w w'))
    (h2 : ∀ w, Calls Try.prog 22 #[.int .i64 op, .int .i64 wd, .int .u64 a, .int .u64 b, .agg #[.bool c, .bool z, .bool s, .bool o, .bool p]] w (fun e w' => e = .returned (.tuple #[.int .u64 x, .agg #[.bool C, .bool Z, .bool S, .bool O, .bool P]]) ∧ Below w.heap.size w w')) :
    Calls Try.prog 5 #[.int .i64 op, .int .i64 wd, .int .u64 a, .int .u64 b, .agg #[.bool c, .bool z, .bool s, .bool o, .bool p]] w (Yes w) := by
  have h1' := Lib.hid h1
  have h2' := Lib.hid h2
  clear h1 h2
  go_enter Try.func5, Try.ntmps5
  go_wp2_with fail
  refine (h1'.out _).mono ?_
  rintro e w1 ⟨rfl, hb⟩
  obtain ⟨hblk, hbel, hsz⟩ := kept5 hb
  have hbel' := Lib.hid hbel
  obtain ⟨g0, g1, g2, g3, g4, f0⟩ := cells5 hblk
  clear hb hbel hblk
  go_wp2_with fail
  refine (MayW_any _ _).mono ?_
  rintro e w2 ⟨rfl, rfl⟩
  go_wp2_with fail
  refine (h2'.out _).mono ?_
  rintro e w3 ⟨rfl, h3⟩
  obtain ⟨eblk, ebel, esz⟩ := kept5 h3
  have ebel' := Lib.hid (Below.next hbel'.out ebel)
  obtain ⟨e0, e1, e2, e3, e4, f1⟩ := cells5 eblk
  clear h3 ebel eblk g0 g1 g2 g3 g4 f0
  go_wp2_with (first | (go_at_call 16; refine (num_any _ _).mono ?_; rintro e w' ⟨rfl, rfl⟩))
  refine (known_any _).mono ?_
  rintro e w5 ⟨rfl, h5⟩
  have h5' := Lib.hid (Below.after ebel'.out h5)
  clear h5
  go_wp2_with fail
  go_ret
  exact ⟨rfl, h5'.out⟩

set_option maxRecDepth 100000 in
set_option maxHeartbeats 1000000 in
theorem wordShifts_no1 (op wd a b : Int) (c z s o p : Bool) (w : World) (hop : op < 1) :
    Calls Try.prog 5 #[.int .i64 op, .int .i64 wd, .int .u64 a, .int .u64 b, .agg #[.bool c, .bool z, .bool s, .bool o, .bool p]] w (Yes w) := by
  have hno := Lib.hid (fun w => Shift_no op wd a b c z s o p w (.inl (by omega)))

  go_enter Try.func5, Try.ntmps5
  go_wp2_with fail
  refine (hno.out _).mono ?_
  rintro e w1 ⟨rfl, hb⟩
  obtain ⟨hblk, hbel, hsz⟩ := kept5 hb
  have hbel' := Lib.hid hbel
  clear hb hbel hblk
  go_wp2_with (first | (go_at_call 16; refine (num_any _ _).mono ?_; rintro e w' ⟨rfl, rfl⟩))
  refine (known_any _).mono ?_
  rintro e w5 ⟨rfl, h5⟩
  have h5' := Lib.hid (Below.after hbel'.out h5)
  clear h5
  go_wp2_with fail
  go_ret
  exact ⟨rfl, h5'.out⟩

set_option maxRecDepth 100000 in
set_option maxHeartbeats 1000000 in
theorem wordShifts_no2 (op wd a b : Int) (c z s o p : Bool) (w : World) (hop0 : 1 ≤ op) (hop : 5 < op) :
    Calls Try.prog 5 #[.int .i64 op, .int .i64 wd, .int .u64 a, .int .u64 b, .agg #[.bool c, .bool z, .bool s, .bool o, .bool p]] w (Yes w) := by
  have hno := Lib.hid (fun w => Shift_no op wd a b c z s o p w (.inl (by omega)))

  go_enter Try.func5, Try.ntmps5
  go_wp2_with fail
  refine (hno.out _).mono ?_
  rintro e w1 ⟨rfl, hb⟩
  obtain ⟨hblk, hbel, hsz⟩ := kept5 hb
  have hbel' := Lib.hid hbel
  clear hb hbel hblk
  go_wp2_with (first | (go_at_call 16; refine (num_any _ _).mono ?_; rintro e w' ⟨rfl, rfl⟩))
  refine (known_any _).mono ?_
  rintro e w5 ⟨rfl, h5⟩
  have h5' := Lib.hid (Below.after hbel'.out h5)
  clear h5
  go_wp2_with fail
  go_ret
  exact ⟨rfl, h5'.out⟩

set_option maxRecDepth 100000 in
set_option maxHeartbeats 1000000 in
theorem wordShifts_no3 (op wd a b : Int) (c z s o p : Bool) (w : World) (hop0 : 1 ≤ op) (hop : op ≤ 5) (hw : ¬ MayW wd) :
    Calls Try.prog 5 #[.int .i64 op, .int .i64 wd, .int .u64 a, .int .u64 b, .agg #[.bool c, .bool z, .bool s, .bool o, .bool p]] w (Yes w) := by
  have hno := Lib.hid (fun w => Shift_no op wd a b c z s o p w (.inr hw))
  have hmay := mayB_no hw
  go_enter Try.func5, Try.ntmps5
  go_wp2_with fail
  refine (hno.out _).mono ?_
  rintro e w1 ⟨rfl, hb⟩
  obtain ⟨hblk, hbel, hsz⟩ := kept5 hb
  have hbel' := Lib.hid hbel
  clear hb hbel hblk
  go_wp2_with fail
  refine (MayW_any _ _).mono ?_
  rintro e w2 ⟨rfl, rfl⟩
  go_wp2_with (first | (go_at_call 16; refine (num_any _ _).mono ?_; rintro e w' ⟨rfl, rfl⟩))
  refine (known_any _).mono ?_
  rintro e w5 ⟨rfl, h5⟩
  have h5' := Lib.hid (Below.after hbel'.out h5)
  clear h5
  go_wp2_with fail
  go_ret
  exact ⟨rfl, h5'.out⟩

theorem wordShifts_any (op wd a b : Int) (c z s o p : Bool) (w : World) (ha : U64 a) (hb : U64 b) :
    Calls Try.prog 5 #[.int .i64 op, .int .i64 wd, .int .u64 a, .int .u64 b, .agg #[.bool c, .bool z, .bool s, .bool o, .bool p]] w (Yes w) := by
  by_cases h1 : op < 1
  · exact wordShifts_no1 op wd a b c z s o p w h1
  by_cases h2 : 5 < op
  · exact wordShifts_no2 op wd a b c z s o p w (by omega) h2
  by_cases hw : MayW wd
  · exact wordShifts_yes op wd a b _ c z s o p _ _ _ _ _ w (mayB_of hw) (by omega) (by omega) (fun w => Shift_any op wd a b c z s o p w hw ha hb (by omega)) (fun w => refShift_any op wd a b c z s o p w hw ha hb (by omega))
  · exact wordShifts_no3 op wd a b c z s o p w (by omega) (by omega) hw
end Go.Proofs.Ytkfenljldmbmcaa
