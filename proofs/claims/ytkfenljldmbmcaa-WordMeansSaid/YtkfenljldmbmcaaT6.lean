/- The law's known rows hold. -/
import Derived.Test.YtkfenljldmbmcaaT5
import Derived.Test.YtkfenljldmbmcaaK2
set_option linter.unusedSimpArgs false
set_option linter.unusedVariables false
namespace Go.Proofs.Ytkfenljldmbmcaa
open Go.RowKit Go.MapKept

theorem Below.next {w w1 w2 : World} (h : Below w.heap.size w w1) (h2 : Below w1.heap.size w1 w2) : Below w.heap.size w w2 := h.trans (h2.mono h.size)
theorem Below.after {w w1 w2 : World} {o : Obj} (h : Below w.heap.size w w1) (h2 : Below (w1.alloc o).heap.size (w1.alloc o) w2) : Below w.heap.size w w2 := Below.next (h.alloc h.size o) h2

theorem eval_two (op x y r : Int) (w : World) (hop : argsI op = 2) (hx : U64 x) (hy : U64 y) (hr : evalS op x y 0 = r) :
    Calls Try.prog 36 #[.int .i64 op, .int .u64 r, .slice (some ⟨w.heap.size, 0, none⟩) 2 2] (w.alloc (.cells #[.int .u64 x, .int .u64 y] 26)) (Yes (w.alloc (.cells #[.int .u64 x, .int .u64 y] 26))) := by
  refine eval_core op r _ _ ?_
  have h := EvalP_any op 2 w.heap.size 0 2 x y 0 (w.alloc (.cells #[.int .u64 x, .int .u64 y] 26)) hop (by simp) hx hy (by simp only [World.cell?, (heap_alloc w _).1]; rfl) (fun _ => by simp only [World.cell?, (heap_alloc w _).1]; rfl) (fun h => by omega)
  rw [hr] at h
  exact h
theorem eval_three (op x y z r : Int) (w : World) (hop : argsI op = 3) (hx : U64 x) (hy : U64 y) (hr : evalS op x y z = r) :
    Calls Try.prog 36 #[.int .i64 op, .int .u64 r, .slice (some ⟨w.heap.size, 0, none⟩) 3 3] (w.alloc (.cells #[.int .u64 x, .int .u64 y, .int .u64 z] 26)) (Yes (w.alloc (.cells #[.int .u64 x, .int .u64 y, .int .u64 z] 26))) := by
  refine eval_core op r _ _ ?_
  have h := EvalP_any op 3 w.heap.size 0 3 x y z (w.alloc (.cells #[.int .u64 x, .int .u64 y, .int .u64 z] 26)) hop (by simp) hx hy (by simp only [World.cell?, (heap_alloc w _).1]; rfl) (fun _ => by simp only [World.cell?, (heap_alloc w _).1]; rfl) (fun _ => by simp only [World.cell?, (heap_alloc w _).1]; rfl)
  rw [hr] at h
  exact h

set_option maxRecDepth 100000 in
set_option maxHeartbeats 2000000 in
theorem known_any (w : World) : Calls Try.prog 12 #[] w (Yes w) := by
  go_enter Try.func12, Try.ntmps12
  go_wp2_with fail
  refine (bin_0 _).mono ?_
  rintro e w1 ⟨rfl, h1⟩
  go_wp2_with fail
  refine (bin_1 _).mono ?_
  rintro e w2 ⟨rfl, h2⟩
  have b2 := Below.next h1 h2
  clear h1 h2
  go_wp2_with fail
  refine (bin_2 _).mono ?_
  rintro e w3 ⟨rfl, h3⟩
  have b3 := Below.next b2 h3
  clear b2 h3
  go_wp2_with fail
  refine (shift_0 _).mono ?_
  rintro e w4 ⟨rfl, h4⟩
  have b4 := Below.next b3 h4
  clear b3 h4
  go_wp2_with fail
  refine (shift_1 _).mono ?_
  rintro e w5 ⟨rfl, h5⟩
  have b5 := Below.next b4 h5
  clear b4 h5
  go_wp2_with fail
  refine (shift_2 _).mono ?_
  rintro e w6 ⟨rfl, h6⟩
  have b6 := Below.next b5 h6
  clear b5 h6
  go_wp2_with fail
  refine (shift_3 _).mono ?_
  rintro e w7 ⟨rfl, h7⟩
  have b7 := Below.next b6 h7
  clear b6 h7
  go_wp2_with fail
  refine (EvalP_no 6 _ 1 1 _ (by simp [argsI]) (by simp [maxLen])).mono ?_
  rintro e w8 ⟨rfl, rfl⟩
  have b8 := b7.alloc b7.size (.cells #[.int .u64 1] 26)
  clear b7
  go_wp2_with fail
  refine (HoldsP_any 12 _ _ _ _ _ _ (by omega)).mono ?_
  rintro e w9 ⟨rfl, h9⟩
  have b9 := Below.next b8 h9
  clear b8 h9
  have e1 : holdsB 12 false false true false false = true := by decide
  simp only [e1]
  go_wp2_with fail
  refine (TurnedP_any 2 _ (by omega)).mono ?_
  rintro e w10 ⟨rfl, rfl⟩
  have e2 : turnI 2 = 3 := by decide
  simp only [e2]
  go_wp2_with fail
  refine (SignedP_any 8 128 _ (by simp [MayW]) ⟨by omega, by omega⟩).mono ?_
  rintro e w11 ⟨rfl, rfl⟩
  have e3 : signI 8 128 = 18446744073709551488 := by decide +kernel
  simp only [e3]
  go_wp2_with fail
  refine (HoldsP_no 16 _ _ _ _ _ _ (by omega)).mono ?_
  rintro e w12 ⟨rfl, h12⟩
  have b12 := Below.next b9 h12
  clear b9 h12
  go_wp2_with fail
  refine (eval_two 15 1 65 2 _ (by simp [argsI]) ⟨by omega, by omega⟩ ⟨by omega, by omega⟩ (by decide +kernel)).mono ?_
  rintro e w13 ⟨rfl, h13⟩
  have b13 := Below.after b12 h13
  clear b12 h13
  go_wp2_with fail
  refine (eval_two 19 1 18446744073709551615 1 _ (by simp [argsI]) ⟨by omega, by omega⟩ ⟨by omega, by omega⟩ (by decide +kernel)).mono ?_
  rintro e w14 ⟨rfl, h14⟩
  have b14 := Below.after b13 h14
  clear b13 h14
  go_wp2_with fail
  refine (eval_three 21 0 5 6 6 _ (by simp [argsI]) ⟨by omega, by omega⟩ ⟨by omega, by omega⟩ (by decide +kernel)).mono ?_
  rintro e w15 ⟨rfl, h15⟩
  have b15 := Below.after b14 h15
  clear b14 h15
  go_wp2_with (first | (go_at_call 16; refine (num_any _ _).mono ?_; rintro e w' ⟨rfl, rfl⟩))
  go_ret
  exact ⟨rfl, b15⟩
end Go.Proofs.Ytkfenljldmbmcaa
namespace Go.Proofs.Ytkfenljldmbmcaa
theorem u64_of {a : Int} (h : (Lit.int .u64 a).wf = true) : U64 a := by
  have h1 : IntKind.u64.min = 0 := rfl
  have h2 : IntKind.u64.max = 18446744073709551615 := rfl
  simp [Lit.wf, IntKind.has] at h
  exact ⟨by omega, by omega⟩
end Go.Proofs.Ytkfenljldmbmcaa
