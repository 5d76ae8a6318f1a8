/- WordWidths answers true. -/
import Derived.Test.YtkfenljldmbmcaaL
set_option linter.unusedSimpArgs false
set_option linter.unusedVariables false
namespace Go.Proofs.Ytkfenljldmbmcaa
open Go.RowKit Go.MapKept

theorem doO_u {op wd a b : Int} (c : Bool) (hw : MayW wd) (ha : U64 a) (hb : U64 b) (hop : 1 ≤ op ∧ op ≤ 8) : U64 (doO op wd a b c) := by
  rw [doO_low c hw ha hb hop]; exact low_lt hw

set_option maxRecDepth 100000 in
set_option maxHeartbeats 1000000 in
theorem wordWidths_yes (op wd a b : Int) (c z s o p : Bool) (w : World) (ha : U64 a) (hb : U64 b) (hw : MayW wd) (hop : 1 ≤ op ∧ op ≤ 8) :
    Calls Try.prog 9 #[.int .i64 op, .int .i64 wd, .int .u64 a, .int .u64 b, .agg #[.bool c, .bool z, .bool s, .bool o, .bool p]] w (Yes w) := by
  have h64 : MayW 64 := by simp [MayW]
  obtain ⟨y, hy⟩ : ∃ y, y = doO op 64 a b c := ⟨_, rfl⟩
  have hyu : U64 y := by rw [hy]; exact doO_u c h64 ha hb hop
  obtain ⟨x, hx⟩ : ∃ x, x = doO op wd a b c := ⟨_, rfl⟩
  have hxl : x = lowI wd y := by rw [hx, hy]; exact doO_low c hw ha hb hop
  have h1 := Lib.hid (fun w => Do_any op wd a b c z s o p w hw ha hb hop)
  have h2 := Lib.hid (fun w => Do_any op 64 a b c z s o p w h64 ha hb hop)
  have h3 := Lib.hid (fun w => LowP_any wd y w hw hyu)
  rw [← hy] at h2
  rw [← hx, hxl] at h1
  rw [hxl] at hx
  have hx' := Lib.hid hx
  have hy' := Lib.hid hy
  have hw' := Lib.hid hw
  have ha' := Lib.hid ha
  have hb' := Lib.hid hb
  have hop' := Lib.hid hop
  have hyu' := Lib.hid hyu
  have hxl' := Lib.hid hxl
  clear hx hy hw ha hb hop hyu h64 hxl
  go_enter Try.func9, Try.ntmps9
  go_wp2_with fail
  refine (h1.out _).mono ?_
  rintro e w1 ⟨rfl, hb1⟩
  obtain ⟨hblk, hbel, hsz⟩ := kept5 hb1
  have hbel' := Lib.hid hbel
  obtain ⟨g0, g1, g2, g3, g4, f0⟩ := cells5 hblk
  clear hb1 hbel hblk
  go_wp2_with fail
  refine (h2.out _).mono ?_
  rintro e w3 ⟨rfl, h3'⟩
  obtain ⟨eblk, ebel, esz⟩ := kept5 h3'
  have ebel' := Lib.hid (Below.next hbel'.out ebel)
  clear h3' ebel eblk g0 g1 g2 g3 g4 f0
  go_wp2_with (first | (go_at_call 16; refine (num_any _ _).mono ?_; rintro e w' ⟨rfl, rfl⟩))
  refine (h3.out _).mono ?_
  rintro e w4 ⟨rfl, rfl⟩
  go_wp2_with (first | (go_at_call 16; refine (num_any _ _).mono ?_; rintro e w' ⟨rfl, rfl⟩))
  refine (known_any _).mono ?_
  rintro e w5 ⟨rfl, h5⟩
  have h5' := Lib.hid (Below.after ebel'.out h5)
  clear h5
  go_wp2_with fail
  go_ret
  exact ⟨rfl, h5'.out⟩

set_option maxRecDepth 100000 in
set_option maxHeartbeats 1000000 in
theorem wordWidths_core (op wd a b y er : Int) (C Z S O P : Bool) (c z s o p : Bool) (w : World)
    (h1 : ∀ w, Calls Try.prog 18 #[.int .i64 op, .int .i64 wd, .int .u64 a, .int .u64 b, .agg #[.bool c, .bool z, .bool s, .bool o, .bool p]] w (DoNo w))
    (h2 : ∀ w, Calls Try.prog 18 #[.int .i64 op, .int .i64 64, .int .u64 a, .int .u64 b, .agg #[.bool c, .bool z, .bool s, .bool o, .bool p]] w (fun e w' => e = .returned (.tuple #[.int .u64 y, .agg #[.bool C, .bool Z, .bool S, .bool O, .bool P], .int .i64 er]) ∧ Below w.heap.size w w')) :
    Calls Try.prog 9 #[.int .i64 op, .int .i64 wd, .int .u64 a, .int .u64 b, .agg #[.bool c, .bool z, .bool s, .bool o, .bool p]] w (Yes w) := by
  have h1' := Lib.hid h1
  have h2' := Lib.hid h2
  clear h1 h2
  go_enter Try.func9, Try.ntmps9
  go_wp2_with fail
  refine (h1'.out _).mono ?_
  rintro e w1 ⟨rfl, hb1⟩
  obtain ⟨hblk, hbel, hsz⟩ := kept5 hb1
  have hbel' := Lib.hid hbel
  obtain ⟨g0, g1, g2, g3, g4, f0⟩ := cells5 hblk
  clear hb1 hbel hblk
  go_wp2_with fail
  refine (h2'.out _).mono ?_
  rintro e w3 ⟨rfl, h3'⟩
  obtain ⟨eblk, ebel, esz⟩ := kept5 h3'
  have ebel' := Lib.hid (Below.next hbel'.out ebel)
  clear h3' ebel eblk g0 g1 g2 g3 g4 f0
  go_wp2_with (first | (go_at_call 16; refine (num_any _ _).mono ?_; rintro e w' ⟨rfl, rfl⟩))
  refine (known_any _).mono ?_
  rintro e w5 ⟨rfl, h5⟩
  have h5' := Lib.hid (Below.after ebel'.out h5)
  clear h5
  go_wp2_with fail
  go_ret
  exact ⟨rfl, h5'.out⟩

theorem wordWidths_any (op wd a b : Int) (c z s o p : Bool) (w : World) (ha : U64 a) (hb : U64 b) :
    Calls Try.prog 9 #[.int .i64 op, .int .i64 wd, .int .u64 a, .int .u64 b, .agg #[.bool c, .bool z, .bool s, .bool o, .bool p]] w (Yes w) := by
  by_cases hop : 1 ≤ op ∧ op ≤ 8
  · by_cases hw : MayW wd
    · exact wordWidths_yes op wd a b c z s o p w ha hb hw hop
    · exact wordWidths_core op wd a b _ _ _ _ _ _ _ c z s o p w (fun w => Do_no op wd a b c z s o p w (.inr hw)) (fun w => Do_any op 64 a b c z s o p w (by simp [MayW]) ha hb hop)
  · exact wordWidths_core op wd a b _ _ _ _ _ _ _ c z s o p w (fun w => Do_no op wd a b c z s o p w (.inl hop)) (fun w => Do_no op 64 a b c z s o p w (.inl hop))
end Go.Proofs.Ytkfenljldmbmcaa
