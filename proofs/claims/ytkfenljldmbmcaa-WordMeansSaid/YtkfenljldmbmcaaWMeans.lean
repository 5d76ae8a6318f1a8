/- WordMeans answers true. -/
import Derived.Test.YtkfenljldmbmcaaL2
import Derived.Test.YtkfenljldmbmcaaWHolds
set_option linter.unusedSimpArgs false
set_option linter.unusedVariables false
namespace Go.Proofs.Ytkfenljldmbmcaa
open Go.RowKit Go.MapKept

/-- a call on a slice of two words that the caller lays -/
def TwoCall (op x y r : Int) : Prop := ∀ w : World, Calls Try.prog 14 #[.int .i64 op, .slice (some ⟨w.heap.size, 0, none⟩) 2 2] (w.alloc (.cells #[.int .u64 x, .int .u64 y] 26))
  fun e w' => e = .returned (.tuple #[.int .u64 r, .int .i64 0]) ∧ Below (w.alloc (.cells #[.int .u64 x, .int .u64 y] 26)).heap.size (w.alloc (.cells #[.int .u64 x, .int .u64 y] 26)) w'
theorem two_call (op x y r : Int) (hop : argsI op = 2) (hx : U64 x) (hy : U64 y) (hr : evalS op x y 0 = r) : TwoCall op x y r := by
  intro w
  have h := EvalP_any op 2 w.heap.size 0 2 x y 0 (w.alloc (.cells #[.int .u64 x, .int .u64 y] 26)) hop (by simp) hx hy (by simp only [World.cell?, (heap_alloc w _).1]; rfl) (fun _ => by simp only [World.cell?, (heap_alloc w _).1]; rfl) (fun h => by omega)
  rw [hr] at h
  exact h
/-- flags, held against a condition -/
def HoldsAs (k : Int) (c z s o p : Bool) (b : Bool) : Prop := ∀ w : World, Calls Try.prog 23 #[.int .i64 k, .agg #[.bool c, .bool z, .bool s, .bool o, .bool p]] w fun e w' => e = .returned (.tuple #[.bool b, .int .i64 0]) ∧ Below w.heap.size w w'
theorem holdsAs (k : Int) (c z s o p b : Bool) (hk : 0 ≤ k ∧ k ≤ 15) (h : holdsB k c z s o p = b) : HoldsAs k c z s o p b := fun w => by
  have := HoldsP_any k c z s o p w hk
  rw [h] at this
  exact this
def DoAs (op a b : Int) (c z s o p : Bool) (x : Int) (C Z S O P : Bool) : Prop := ∀ w : World, Calls Try.prog 18 #[.int .i64 op, .int .i64 64, .int .u64 a, .int .u64 b, .agg #[.bool c, .bool z, .bool s, .bool o, .bool p]] w (Three x C Z S O P w)

set_option maxRecDepth 100000 in
set_option maxHeartbeats 2000000 in
theorem wordMeans_core (a b c d r sm hi : Int) (C Z S O P C1 Z1 S1 O1 P1 C2 Z2 S2 O2 P2 cy : Bool) (x : Int) (w : World) (hcy : decide (IntKind.u64.wrap (a + b) < a) = cy)
    (hb0 : 0 ≤ b) (hb1 : b < 18446744073709551616)
    (hsm : IntKind.u64.wrap (a + b) = sm) (hhi : IntKind.u64.wrap (IntKind.u64.wrap (c + d) + b2i cy) = hi)
    (h1 : DoAs 3 a b false false false false false x C Z S O P)
    (h2 : HoldsAs 4 C Z S O P (a == b)) (h3 : HoldsAs 2 C Z S O P (decide (a < b))) (h4 : HoldsAs 12 C Z S O P (decide (wrap64 a < wrap64 b)))
    (h5 : DoAs 1 a b false false false false false sm C1 Z1 S1 O1 P1)
    (h6 : DoAs 2 c d C1 Z1 S1 O1 P1 hi C2 Z2 S2 O2 P2)
    (h7 : TwoCall 15 a b r) (h8 : TwoCall 15 r (64 - b % 64) a) (h9 : TwoCall 16 r b a) :
    Calls Try.prog 7 #[.int .u64 a, .int .u64 b, .int .u64 c, .int .u64 d] w (Yes w) := by
  have h1' := Lib.hid h1
  have h2' := Lib.hid h2
  have h3' := Lib.hid h3
  have h4' := Lib.hid h4
  have h5' := Lib.hid h5
  have h6' := Lib.hid h6
  have h7' := Lib.hid h7
  have h8' := Lib.hid h8
  have h9' := Lib.hid h9
  clear h1 h2 h3 h4 h5 h6 h7 h8 h9
  have hsm' := Lib.hid hsm
  have hcy' := Lib.hid hcy
  have hhi' := Lib.hid hhi
  clear hsm hcy hhi
  go_enter Try.func7, Try.ntmps7
  go_wp2_with fail
  refine (known_any _).mono ?_
  rintro e w0 ⟨rfl, b0⟩
  have b0' := Lib.hid b0
  clear b0
  go_wp2_with fail
  refine (h1'.out _).mono ?_
  rintro e w1 ⟨rfl, b1⟩
  have b1' := Lib.hid (Below.next b0'.out b1)
  clear b1
  go_wp2_with fail
  refine (h2'.out _).mono ?_
  rintro e w2 ⟨rfl, b2⟩
  obtain ⟨hblk, hbel, hsz⟩ := kept5 b2
  have hblk' := Lib.hid hblk
  have b2' := Lib.hid (Below.next b1'.out hbel)
  obtain ⟨g0, g1, g2, g3, g4, f0⟩ := cells5 hblk
  clear b2 hbel hblk
  go_wp2_with fail
  refine (h3'.out _).mono ?_
  rintro e w3 ⟨rfl, b3⟩
  have hblk3 := Lib.hid (boxed hblk'.out hsz b3)
  have b3' := Lib.hid (Below.next b2'.out b3)
  have hsz3 := Nat.lt_of_lt_of_le hsz b3.size
  obtain ⟨e0, e1, e2, e3, e4, f1⟩ := cells5 hblk3.out
  clear b3 g0 g1 g2 g3 g4 f0
  go_wp2_with fail
  refine (h4'.out _).mono ?_
  rintro e w4 ⟨rfl, b4⟩
  have b4' := Lib.hid (Below.next b3'.out b4)
  clear b4 e0 e1 e2 e3 e4 f1
  go_wp2_with (first | (go_at_call 16; refine (num_any _ _).mono ?_; rintro e w' ⟨rfl, rfl⟩))
  refine (h5'.out _).mono ?_
  rintro e w5 ⟨rfl, b5⟩
  have b5' := Lib.hid (Below.next b4'.out b5)
  clear b5
  go_wp2_with fail
  refine (h6'.out _).mono ?_
  rintro e w6 ⟨rfl, b6⟩
  obtain ⟨_, hbel6, hsz6⟩ := kept5 b6
  have b6' := Lib.hid (Below.next b5'.out hbel6)
  clear b6 hbel6
  have hsm := hsm'.out
  have hcy := hcy'.out
  have hhi := hhi'.out
  rw [hsm] at hcy
  cases cy
  all_goals
    simp only [b2i, if_true, if_false, Bool.false_eq_true] at hhi
    go_wp2_with fail
    refine (h7'.out _).mono ?_
    rintro e w7 ⟨rfl, b7⟩
    have b7' := Lib.hid (Below.after ((b6'.out).alloc b6'.out.size _) b7)
    clear b7
    go_wp2_with fail
    refine (h8'.out _).mono ?_
    rintro e w8 ⟨rfl, b8⟩
    have b8' := Lib.hid (Below.after b7'.out b8)
    clear b8
    go_wp2_with fail
    refine (h9'.out _).mono ?_
    rintro e w9 ⟨rfl, b9⟩
    have b9' := Lib.hid (Below.after b8'.out b9)
    clear b9
    go_wp2_with fail
    go_ret
    exact ⟨rfl, b9'.out⟩

theorem wordMeans_any (a b c d : Int) (w : World) (ha : U64 a) (hb : U64 b) (hc : U64 c) (hd : U64 d) : Calls Try.prog 7 #[.int .u64 a, .int .u64 b, .int .u64 c, .int .u64 d] w (Yes w) := by
  have h64 : MayW 64 := by simp [MayW]
  have hbn : U64 (64 - b % 64) := ⟨by omega, by omega⟩
  refine wordMeans_core a b c d (evalS 15 a b 0) (IntKind.u64.wrap (a + b)) _ _ _ _ _ _ _ _ _ _ _ _ _ _ _ _ _ _ w rfl hb.1 hb.2 rfl rfl
    (fun w => Do_any 3 64 a b false false false false false w h64 ha hb (by omega))
    (holdsAs 4 _ _ _ _ _ _ (by omega) (means_e a b ha hb)) (holdsAs 2 _ _ _ _ _ _ (by omega) (means_b a b ha hb)) (holdsAs 12 _ _ _ _ _ _ (by omega) (means_l a b ha hb))
    (fun w => ?_) (fun w => ?_) (two_call 15 a b _ rfl ha hb rfl) (two_call 15 _ _ _ rfl (rol_u a b ha) hbn (rol_back a b ha hb)) (two_call 16 _ _ _ rfl (rol_u a b ha) hb (ror_back a b ha hb))
  · have h := Do_any 1 64 a b false false false false false w h64 ha hb (by omega)
    unfold DoPost at h
    rw [add64 a b ha hb] at h
    exact h
  · have h := Do_any 2 64 c d (doC 1 64 a b false) (IntKind.u64.wrap (a + b) == 0) (topB 64 (IntKind.u64.wrap (a + b))) (doV 1 64 a b false) (parB (IntKind.u64.wrap (a + b))) w h64 hc hd (by omega)
    unfold DoPost at h
    rw [adc64 c d _ hc hd, carry64 a b ha hb] at h
    rw [carry64 a b ha hb]
    exact h
end Go.Proofs.Ytkfenljldmbmcaa
