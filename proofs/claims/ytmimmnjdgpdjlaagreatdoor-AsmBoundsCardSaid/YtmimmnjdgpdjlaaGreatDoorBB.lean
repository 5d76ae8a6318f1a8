/- AsmBounds: the walk. -/
import Derived.Test.YtmimmnjdgpdjlaaGreatDoorBA
import Derived.Test.YtmimmnjdgpdjlaaGreatDoorAL
import Derived.Test.YtmimmnjdgpdjlaaGreatDoorAO
import Derived.Laws.OwnMore
import Derived.Deep.OwnRows
set_option linter.unusedSimpArgs false
set_option linter.unusedVariables false
namespace Go.Proofs.YtmimmnjdgpdjlaaGreatDoor
open Go.RowKit Go.Lib Go.Shelf

theorem made_bytes (n : Nat) : (madeCells #[.int .u8 0] n).toList = byteCells (List.replicate n 0) := by
  apply List.ext_getElem?
  intro i
  unfold madeCells byteCells
  rcases Nat.lt_or_ge i n with h | h
  · simp [h, Nat.mod_one]
  · simp [h]
theorem conv_big (w : World) (n : Nat) (hn : n ≤ maxLen) : (convert 62 9 (.slice (some ⟨w.heap.size, 0, none⟩) n n)).run Tryz.prog (w.alloc (.cells (madeCells #[.int .u8 0] n) 5)) = .ok (.string (bt (List.replicate n 0))) (w.alloc (.cells (madeCells #[.int .u8 0] n) 5)) := by
  refine ownC_conv_all (b0 := w.heap.size) (n := n) (ownC_of_row ?_)
  show World.ownsRow _ _ _ _ _ _ (byteCells (List.replicate n 0))
  rw [← made_bytes]
  exact World.ownsRow_lit w _ n (Nat.le_refl _) hn (by rw [size_madeCells]; omega)
theorem make_big (w : World) : (Instr.makeSlice 62 (.int .i64 16777217) (.int .i64 16777217)).run Tryz.prog w = .ok (.slice (some ⟨w.heap.size, 0, none⟩) 16777217 16777217) (w.alloc (.cells (madeCells #[.int .u8 0] 16777217) 5)) :=
  run_make_row' 62 5 (.int .u8 0) 1 und62 byte5 rfl .i64 .i64 16777217 (by omega) (by omega) w
set_option maxRecDepth 100000 in
set_option maxHeartbeats 8000000 in
theorem wrong_as (S : List UInt8) (t : ByteArray) (at_ : Nat) (z : Int) (ht : bt S = t) (hz : (at_ : Int) = z) (hr : readX S = ([], at_, 15)) (hs : S.length ≤ 1000) (w : World) (hE : Env w) : Calls Tryz.prog 31 #[.string t, .int .i64 z] w (BoolPost true w) := by
  have hrd := read16_any S w hE (.inl (by omega)) (by omega)
  unfold Read16Post at hrd
  rw [hr] at hrd
  dsimp only [List.length_nil] at hrd
  rw [ht, hz] at hrd
  have hrd := Lib.hid hrd
  clear hE hr hs hz ht
  go_enter Tryz.func31, Tryz.ntmps31
  go_wp2_with fail
  refine hrd.out.mono ?_
  rintro e w1 ⟨A, c, rfl, _, hb⟩
  have hb := Lib.hid hb
  go_wp2_with fail
  refine (num_any _ _).mono ?_
  rintro e w2 ⟨rfl, rfl⟩
  go_wp2
  go_ret
  exact ⟨rfl, hb.out⟩
structure Kb (w W : World) : Prop where
  bel : Below w.heap.size w W
  x1 : W.heap[w.heap.size]? = some (.cells #[.int .i64 13, .int .i64 0, .int .i64 0, .int .i64 0, .int .i64 15, .int .i64 0, .int .u64 18446744071562067968, .int .i64 0, .int .i64 0, .bool false, .bool false, .int .i64 0, .int .i64 0] 32 (0, 0))
  x2 : W.heap[w.heap.size + 1]? = some (.cells #[.int .i64 2, .int .i64 0, .int .i64 0, .int .i64 0, .int .i64 8, .int .i64 0, .int .u64 18446744073709551615, .int .i64 0, .int .i64 0, .bool false, .bool false, .int .i64 0, .int .i64 0] 32 (0, 0))
  x3 : W.heap[w.heap.size + 1 + 1]? = some (.cells #[.int .i64 3, .int .i64 0, .int .i64 0, .int .i64 0, .int .i64 0, .int .i64 0, .int .u64 0, .int .i64 0, .int .i64 15, .bool false, .bool true, .int .i64 (-2147483648), .int .i64 0] 32 (0, 0))
theorem Kb.next {w W W' : World} (h : Kb w W) (hb : Below W.heap.size W W') : Kb w W' :=
  ⟨Below.next h.bel hb, (hb.block _ (blk_lt h.x1)).trans h.x1, (hb.block _ (blk_lt h.x2)).trans h.x2, (hb.block _ (blk_lt h.x3)).trans h.x3⟩
set_option maxRecDepth 100000 in
set_option maxHeartbeats 16000000 in
theorem asmBounds_any (w : World) (hE : Env w) : Calls Tryz.prog 9 #[] w (BoolPost true w) := by
  have hK := Lib.hid (fun W (h : Below w.heap.size w W) => known_any W (hE.below h))
  have hl0 := (fun W (h : Below w.heap.size w W) => line_as ⟨13, 0, 0, 0, 15, 0, 18446744071562067968, 0, 0, false, false, 0, 0⟩ ⟨#[99, 109, 112, 113, 32, 36, 45, 50, 49, 52, 55, 52, 56, 51, 54, 52, 56, 44, 32, 37, 114, 49, 53]⟩ _ bl_0 rfl (by constructor <;> decide) W (hE.below h))
  have hl1 := (fun W (h : Below w.heap.size w W) => line_as ⟨2, 0, 0, 0, 8, 0, 18446744073709551615, 0, 0, false, false, 0, 0⟩ ⟨#[109, 111, 118, 97, 98, 115, 113, 32, 36, 49, 56, 52, 52, 54, 55, 52, 52, 48, 55, 51, 55, 48, 57, 53, 53, 49, 54, 49, 53, 44, 32, 37, 114, 56]⟩ _ bl_1 rfl (by constructor <;> decide) W (hE.below h))
  have hl2 := (fun W (h : Below w.heap.size w W) => line_as ⟨3, 0, 0, 0, 0, 0, 0, 0, 15, false, true, -2147483648, 0⟩ ⟨#[109, 111, 118, 113, 32, 45, 50, 49, 52, 55, 52, 56, 51, 54, 52, 56, 40, 44, 37, 114, 49, 53, 44, 56, 41, 44, 32, 37, 114, 97, 120]⟩ _ bl_2 rfl (by constructor <;> decide) W (hE.below h))
  have hl3 := (fun W (h : Below w.heap.size w W) => line_as ⟨3, 0, 0, 0, 0, 0, 0, 0, 0, false, false, 0, 0⟩ ⟨#[109, 111, 118, 113, 32, 48, 44, 32, 37, 114, 97, 120]⟩ _ bl_3 rfl (by constructor <;> decide) W (hE.below h))
  unfold inV inC at hl0 hl1 hl2 hl3
  have hl0 := Lib.hid hl0
  have hl1 := Lib.hid hl1
  have hl2 := Lib.hid hl2
  have hl3 := Lib.hid hl3
  have hw0 := Lib.hid (fun W (h : Below w.heap.size w W) => wrong_as [114, 101, 116, 10] ⟨#[114, 101, 116, 10]⟩ 1 1 rfl rfl wr_0 (by decide) W (hE.below h))
  have hw1 := Lib.hid (fun W (h : Below w.heap.size w W) => wrong_as [9, 114, 101, 116, 10, 9, 114, 101, 116] ⟨#[9, 114, 101, 116, 10, 9, 114, 101, 116]⟩ 2 2 rfl rfl wr_1 (by decide) W (hE.below h))
  have hw2 := Lib.hid (fun W (h : Below w.heap.size w W) => wrong_as [9, 76, 49, 58, 10] ⟨#[9, 76, 49, 58, 10]⟩ 1 1 rfl rfl wr_2 (by decide) W (hE.below h))
  have hw3 := Lib.hid (fun W (h : Below w.heap.size w W) => wrong_as [76, 49, 58, 10, 76, 49, 58, 10] ⟨#[76, 49, 58, 10, 76, 49, 58, 10]⟩ 0 0 rfl rfl wr_3 (by decide) W (hE.below h))
  have hw4 := Lib.hid (fun W (h : Below w.heap.size w W) => wrong_as [76, 48, 49, 58, 10] ⟨#[76, 48, 49, 58, 10]⟩ 1 1 rfl rfl wr_4 (by decide) W (hE.below h))
  have hw5 := Lib.hid (fun W (h : Below w.heap.size w W) => wrong_as [10] ⟨#[10]⟩ 1 1 rfl rfl wr_5 (by decide) W (hE.below h))
  have hw6 := Lib.hid (fun W (h : Below w.heap.size w W) => wrong_as [9, 109, 111, 118, 113, 32, 37, 114, 97, 120, 44, 37, 114, 98, 120, 10] ⟨#[9, 109, 111, 118, 113, 32, 37, 114, 97, 120, 44, 37, 114, 98, 120, 10]⟩ 1 1 rfl rfl wr_6 (by decide) W (hE.below h))
  have hw7 := Lib.hid (fun W (h : Below w.heap.size w W) => wrong_as [9, 97, 100, 100, 113, 32, 36, 50, 49, 52, 55, 52, 56, 51, 54, 52, 56, 44, 32, 37, 114, 97, 120, 10] ⟨#[9, 97, 100, 100, 113, 32, 36, 50, 49, 52, 55, 52, 56, 51, 54, 52, 56, 44, 32, 37, 114, 97, 120, 10]⟩ 1 1 rfl rfl wr_7 (by decide) W (hE.below h))
  have hw8 := Lib.hid (fun W (h : Below w.heap.size w W) => wrong_as [9, 115, 104, 108, 113, 32, 36, 54, 52, 44, 32, 37, 114, 97, 120, 10] ⟨#[9, 115, 104, 108, 113, 32, 36, 54, 52, 44, 32, 37, 114, 97, 120, 10]⟩ 1 1 rfl rfl wr_8 (by decide) W (hE.below h))
  have hw9 := Lib.hid (fun W (h : Below w.heap.size w W) => wrong_as [9, 109, 111, 118, 113, 32, 40, 37, 114, 97, 120, 44, 37, 114, 115, 112, 44, 56, 41, 44, 32, 37, 114, 97, 120, 10] ⟨#[9, 109, 111, 118, 113, 32, 40, 37, 114, 97, 120, 44, 37, 114, 115, 112, 44, 56, 41, 44, 32, 37, 114, 97, 120, 10]⟩ 1 1 rfl rfl wr_9 (by decide) W (hE.below h))
  have hw10 := Lib.hid (fun W (h : Below w.heap.size w W) => wrong_as [9, 115, 101, 116, 98, 32, 37, 114, 98, 120, 10] ⟨#[9, 115, 101, 116, 98, 32, 37, 114, 98, 120, 10]⟩ 1 1 rfl rfl wr_10 (by decide) W (hE.below h))
  have hw11 := Lib.hid (fun W (h : Below w.heap.size w W) => wrong_as [9, 109, 111, 118, 113, 32, 36, 49, 44, 32, 37, 114, 97, 120, 10] ⟨#[9, 109, 111, 118, 113, 32, 36, 49, 44, 32, 37, 114, 97, 120, 10]⟩ 1 1 rfl rfl wr_11 (by decide) W (hE.below h))
  have hw12 := Lib.hid (fun W (h : Below w.heap.size w W) => wrong_as [9, 106, 122, 32, 76, 49, 10] ⟨#[9, 106, 122, 32, 76, 49, 10]⟩ 1 1 rfl rfl wr_12 (by decide) W (hE.below h))
  obtain ⟨S, hS⟩ : ∃ S : List UInt8, List.replicate 16777217 (0 : UInt8) = S := ⟨_, rfl⟩
  have hSl : S.length = 16777217 := by rw [← hS]; exact List.length_replicate
  have hrd := fun W (h : Below w.heap.size w W) => read16_any S W (hE.below h) (.inr (by omega)) (by omega)
  unfold Read16Post at hrd
  rw [show readX S = ([], 0, 3) by unfold readX; rw [if_pos (by omega)]] at hrd
  dsimp only [List.length_nil] at hrd
  have hpr := fun W (h : Below w.heap.size w W) => print27_any [] none 0 W (hE.below h) (CellsAt.nil _) (fun i hi => by cases hi) (by decide)
  unfold PrintPost at hpr
  rw [may_nil] at hpr
  have hrg := fun W (h : Below w.heap.size w W) => reg20_any 16 W (hE.below h)
  unfold RegPost at hrg
  rw [show regB 16 = false by decide] at hrg
  have hcv := fun W => conv_big W 16777217 (by decide)
  rw [hS] at hcv
  obtain ⟨BIG, hBIG⟩ : ∃ x, bt S = x := ⟨_, rfl⟩
  rw [hBIG] at hcv hrd
  obtain ⟨CS, hCS⟩ : ∃ CS, madeCells #[Value.int .u8 0] 16777217 = CS := ⟨_, rfl⟩
  rw [hCS] at hcv
  have hmk := (fun w => by rw [← hCS]; exact make_big w : ∀ w, (Instr.makeSlice 62 (.int .i64 16777217) (.int .i64 16777217)).run Tryz.prog w = .ok (.slice (some ⟨w.heap.size, 0, none⟩) 16777217 16777217) (w.alloc (.cells CS 5)))
  simp only [if_true, Bool.false_eq_true, if_false] at hpr hrg
  rw [show bt (tellT []) = ⟨#[]⟩ from rfl] at hpr
  have hrd := Lib.hid hrd
  have hpr := Lib.hid (show ∀ W, Below w.heap.size w W → Calls Tryz.prog 27 #[.slice none 0 0] W fun e w' => e = .returned (.tuple #[.string ⟨#[]⟩, .int .i64 0]) ∧ Below W.heap.size W w' from hpr)
  have hrg := Lib.hid hrg
  clear hE hS hSl hBIG hCS
  obtain ⟨W3, hW3⟩ : ∃ W, (((w.alloc (.cells #[.int .i64 13, .int .i64 0, .int .i64 0, .int .i64 0, .int .i64 15, .int .i64 0, .int .u64 18446744071562067968, .int .i64 0, .int .i64 0, .bool false, .bool false, .int .i64 0, .int .i64 0] 32)).alloc (.cells #[.int .i64 2, .int .i64 0, .int .i64 0, .int .i64 0, .int .i64 8, .int .i64 0, .int .u64 18446744073709551615, .int .i64 0, .int .i64 0, .bool false, .bool false, .int .i64 0, .int .i64 0] 32)).alloc (.cells #[.int .i64 3, .int .i64 0, .int .i64 0, .int .i64 0, .int .i64 0, .int .i64 0, .int .u64 0, .int .i64 0, .int .i64 15, .bool false, .bool true, .int .i64 (-2147483648), .int .i64 0] 32)) = W := ⟨_, rfl⟩
  have hK3 := Lib.hid (show Kb w W3 from by
    obtain ⟨m0, m1, m2⟩ := made3 w (.cells #[.int .i64 13, .int .i64 0, .int .i64 0, .int .i64 0, .int .i64 15, .int .i64 0, .int .u64 18446744071562067968, .int .i64 0, .int .i64 0, .bool false, .bool false, .int .i64 0, .int .i64 0] 32) (.cells #[.int .i64 2, .int .i64 0, .int .i64 0, .int .i64 0, .int .i64 8, .int .i64 0, .int .u64 18446744073709551615, .int .i64 0, .int .i64 0, .bool false, .bool false, .int .i64 0, .int .i64 0] 32) (.cells #[.int .i64 3, .int .i64 0, .int .i64 0, .int .i64 0, .int .i64 0, .int .i64 0, .int .u64 0, .int .i64 0, .int .i64 15, .bool false, .bool true, .int .i64 (-2147483648), .int .i64 0] 32)
    rw [← hW3]
    exact ⟨(((Below.refl _ w).alloc (Nat.le_refl _) _).alloc (by simp) _).alloc (by simp; omega) _, m0, m1, m2⟩)
  have hW3' := Lib.hid hW3
  obtain ⟨W4, hW4⟩ : ∃ W, W3.alloc (.cells CS 5) = W := ⟨_, rfl⟩
  have hK4 := Lib.hid (hK3.out.next (show Below W3.heap.size W3 W4 by rw [← hW4]; exact below_new _ _))
  have hW4' := Lib.hid hW4
  clear hW3 hW4
  go_enter Tryz.func9, Tryz.ntmps9
  go_upto_region 4 with fail
  rw [hW3'.out]
  go_wp2_with fail
  rw [hW4'.out]
  clear hmk hcv
  refine (hrd.out _ hK4.out.bel).mono ?_
  rintro e w5 ⟨A, c, rfl, _, hb5⟩
  have hK5 := Lib.hid (hK4.out.next hb5)
  clear hb5
  go_wp2_with fail
  refine (hpr.out _ hK5.out.bel).mono ?_
  rintro e w6 ⟨rfl, hb6⟩
  have hK6 := Lib.hid (hK5.out.next hb6)
  clear hb6
  go_wp2_with fail
  refine (hrg.out _ hK6.out.bel).mono ?_
  rintro e w7 ⟨rfl, hb7⟩
  have hKK := Lib.hid (hK6.out.next hb7)
  clear hb7
  go_wp2_with fail
  refine (hw0.out _ hKK.out.bel).mono ?_
  rintro e y0 ⟨rfl, hby⟩
  have hKK := Lib.hid (hKK.out.next hby)
  clear hby
  go_wp2_with fail
  refine (hw1.out _ hKK.out.bel).mono ?_
  rintro e y1 ⟨rfl, hby⟩
  have hKK := Lib.hid (hKK.out.next hby)
  clear hby
  go_wp2_with fail
  refine (hw2.out _ hKK.out.bel).mono ?_
  rintro e y2 ⟨rfl, hby⟩
  have hKK := Lib.hid (hKK.out.next hby)
  clear hby
  go_wp2_with fail
  refine (hw3.out _ hKK.out.bel).mono ?_
  rintro e y3 ⟨rfl, hby⟩
  have hKK := Lib.hid (hKK.out.next hby)
  clear hby
  go_wp2_with fail
  refine (hw4.out _ hKK.out.bel).mono ?_
  rintro e y4 ⟨rfl, hby⟩
  have hKK := Lib.hid (hKK.out.next hby)
  clear hby
  go_wp2_with fail
  refine (hw5.out _ hKK.out.bel).mono ?_
  rintro e y5 ⟨rfl, hby⟩
  have hKK := Lib.hid (hKK.out.next hby)
  clear hby
  go_wp2_with fail
  refine (hw6.out _ hKK.out.bel).mono ?_
  rintro e y6 ⟨rfl, hby⟩
  have hKK := Lib.hid (hKK.out.next hby)
  clear hby
  go_wp2_with fail
  refine (hw7.out _ hKK.out.bel).mono ?_
  rintro e y7 ⟨rfl, hby⟩
  have hKK := Lib.hid (hKK.out.next hby)
  clear hby
  go_wp2_with fail
  refine (hw8.out _ hKK.out.bel).mono ?_
  rintro e y8 ⟨rfl, hby⟩
  have hKK := Lib.hid (hKK.out.next hby)
  clear hby
  go_wp2_with fail
  refine (hw9.out _ hKK.out.bel).mono ?_
  rintro e y9 ⟨rfl, hby⟩
  have hKK := Lib.hid (hKK.out.next hby)
  clear hby
  go_wp2_with fail
  refine (hw10.out _ hKK.out.bel).mono ?_
  rintro e y10 ⟨rfl, hby⟩
  have hKK := Lib.hid (hKK.out.next hby)
  clear hby
  go_wp2_with fail
  refine (hw11.out _ hKK.out.bel).mono ?_
  rintro e y11 ⟨rfl, hby⟩
  have hKK := Lib.hid (hKK.out.next hby)
  clear hby
  go_wp2_with fail
  refine (hw12.out _ hKK.out.bel).mono ?_
  rintro e y12 ⟨rfl, hby⟩
  have hKK := Lib.hid (hKK.out.next hby)
  clear hby
  obtain ⟨q0, q1, q2, q3, q4, q5, q6, q7, q8, q9, q10, q11, q12⟩ := box13 hKK.out.x1
  go_wp2_with fail
  refine (hl0.out _ hKK.out.bel).mono ?_
  rintro e z0 ⟨rfl, hby⟩
  have hKK := Lib.hid (hKK.out.next hby)
  clear hby q0 q1 q2 q3 q4 q5 q6 q7 q8 q9 q10 q11 q12
  obtain ⟨q0, q1, q2, q3, q4, q5, q6, q7, q8, q9, q10, q11, q12⟩ := box13 hKK.out.x2
  go_wp2_with fail
  refine (hl1.out _ hKK.out.bel).mono ?_
  rintro e z1 ⟨rfl, hby⟩
  have hKK := Lib.hid (hKK.out.next hby)
  clear hby q0 q1 q2 q3 q4 q5 q6 q7 q8 q9 q10 q11 q12
  obtain ⟨q0, q1, q2, q3, q4, q5, q6, q7, q8, q9, q10, q11, q12⟩ := box13 hKK.out.x3
  go_wp2_with fail
  refine (hl2.out _ hKK.out.bel).mono ?_
  rintro e z2 ⟨rfl, hby⟩
  have hKK := Lib.hid (hKK.out.next hby)
  clear hby q0 q1 q2 q3 q4 q5 q6 q7 q8 q9 q10 q11 q12
  go_wp2_with fail
  refine (hl3.out _ hKK.out.bel).mono ?_
  rintro e z3 ⟨rfl, hby⟩
  have hKK := Lib.hid (hKK.out.next hby)
  clear hby
  go_wp2_with fail
  refine (num_any _ _).mono ?_
  rintro e v1 ⟨rfl, rfl⟩
  go_wp2_with fail
  refine (num_any _ _).mono ?_
  rintro e v2 ⟨rfl, rfl⟩
  go_wp2_with fail
  refine (hK.out _ hKK.out.bel).mono ?_
  rintro e v3 ⟨rfl, hby⟩
  have hKK := Lib.hid (hKK.out.next hby)
  clear hby
  go_wp2
  go_ret
  exact ⟨rfl, hKK.out.bel⟩
end Go.Proofs.YtmimmnjdgpdjlaaGreatDoor
