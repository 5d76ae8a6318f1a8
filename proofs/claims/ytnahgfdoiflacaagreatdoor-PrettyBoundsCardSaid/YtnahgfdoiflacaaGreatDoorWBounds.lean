/- PrettyBounds: the walk. -/
import Derived.Test.YtnahgfdoiflacaaGreatDoorGH
set_option linter.unusedSimpArgs false
set_option linter.unusedVariables false
namespace Go.Proofs.YtnahgfdoiflacaaGreatDoor
open Go.RowKit Go.Lib Go.Shelf
set_option maxRecDepth 100000 in
set_option maxHeartbeats 32000000 in
theorem prettyBounds_any (W : World) (hE : Env W) : Calls Tryz.prog 6 #[] W (BoolPost true W) := by
  have h64 := Lib.hid (fun W' => (show Calls Tryz.prog 24 #[.int .i64 64] W' (DeepPost 63 W') from deep_at 64 63 rfl (by omega) W'))
  have h65 := Lib.hid (fun W' => (show Calls Tryz.prog 24 #[.int .i64 65] W' (DeepPost 64 W') from deep_at 65 64 rfl (by omega) W'))
  have h63 := Lib.hid (fun W' => (show Calls Tryz.prog 24 #[.int .i64 63] W' (DeepPost 62 W') from deep_at 63 62 rfl (by omega) W'))
  have hv := Lib.hid v25_any
  have hc26 := Lib.hid c26_any
  have hx := Lib.hid (fun (k : Nat) (hk : k ≤ 1000) (A : Option Addr) (c : Nat) (W' : World) (hb : Below W.heap.size W W') (h : ExAt W' (deepE k) A) => exprX_any (deepE k) A c W' (hE.below hb) h (by have := cntE_deep k; omega) (deep_u k))
  have hE := Lib.hid hE
  go_enter Tryz.func6, Tryz.ntmps6
  go_wp2_with fail
  refine (h64.out _).mono ?_
  rintro e w1 ⟨A1, c1, rfl, hx1, hb1⟩
  have hc1 := hx.out 63 (by omega) A1 c1 w1 hb1 hx1
  rw [deep_n.1] at hc1
  obtain ⟨T1, hT1⟩ : ∃ T, exprT (deepE 63) = T := ⟨_, rfl⟩
  rw [hT1] at hc1
  obtain ⟨v1, hv1⟩ : ∃ v, exV (deepE 63) A1 c1 = v := ⟨_, rfl⟩
  rw [hv1] at hc1 ⊢
  have hc1 := Lib.hid hc1
  have hb1 := Lib.hid hb1
  clear hx1 hT1 hv1
  go_wp2_with fail
  refine hc1.out.mono ?_
  rintro e w2 ⟨rfl, hb2⟩
  have hb2 := Lib.hid (Below.next hb1.out hb2)
  clear hc1 hb1
  go_wp2_with fail
  refine (h65.out _).mono ?_
  rintro e w3 ⟨A2, c2, rfl, hx3, hb3⟩
  have hb3 := Below.next hb2.out hb3
  have hc3 := hx.out 64 (by omega) A2 c2 w3 hb3 hx3
  rw [deep_n.2] at hc3
  obtain ⟨T2, hT2⟩ : ∃ T, exprT (deepE 64) = T := ⟨_, rfl⟩
  rw [hT2] at hc3
  obtain ⟨v3, hv3⟩ : ∃ v, exV (deepE 64) A2 c2 = v := ⟨_, rfl⟩
  rw [hv3] at hc3 ⊢
  have hc3 := Lib.hid hc3
  have hb3 := Lib.hid hb3
  clear hx3 hT2 hv3
  go_wp2_with fail
  refine hc3.out.mono ?_
  rintro e w4 ⟨rfl, hb4⟩
  have hb4 := Lib.hid (Below.next hb3.out hb4)
  clear hc3 hb3 hb2
  go_wp2_with fail
  refine (h63.out _).mono ?_
  rintro e w5 ⟨A5, c5, rfl, hx5, hb5⟩
  have hb5 := Below.next hb4.out hb5
  rw [show exV (deepE 62) A5 c5 = .agg #[.int .i64 4, .int .u64 0, .string ⟨#[]⟩, .slice A5 1 c5] from rfl]
  obtain ⟨W5, hW5, hbW5, hX5⟩ := alloc_named w5 #[.int .i64 1, .string ⟨#[120]⟩, .slice none 0 0, .int .i64 4, .int .u64 0, .string ⟨#[]⟩, .slice A5 1 c5, .int .i64 0, .int .u64 0, .string ⟨#[]⟩, .slice none 0 0, .slice none 0 0, .int .u64 0, .int .u64 0, .slice none 0 0, .slice none 0 0] 50
  have hx5 := hx5.keep hbW5
  have hb5 := Lib.hid (Below.next hb5 hbW5)
  have hx5 := Lib.hid hx5
  obtain ⟨p5, hp5⟩ : ∃ p, w5.heap.size = p := ⟨_, rfl⟩
  rw [hp5] at hX5
  have hW5' := Lib.hid hW5
  have hp5' := Lib.hid hp5
  clear hW5 hp5
  have hX5 := Lib.hid hX5
  clear hb4 hbW5
  go_wp2_with fail
  rw [hW5'.out, hp5'.out]
  clear hW5' hp5'
  refine (h64.out _).mono ?_
  rintro e w6 ⟨A6, c6, rfl, hx6, hb56⟩
  rw [show exV (deepE 63) A6 c6 = .agg #[.int .i64 4, .int .u64 0, .string ⟨#[]⟩, .slice A6 1 c6] from rfl]
  obtain ⟨W6, hW6, hbW6, hX6⟩ := alloc_named w6 #[.int .i64 1, .string ⟨#[120]⟩, .slice none 0 0, .int .i64 4, .int .u64 0, .string ⟨#[]⟩, .slice A6 1 c6, .int .i64 0, .int .u64 0, .string ⟨#[]⟩, .slice none 0 0, .slice none 0 0, .int .u64 0, .int .u64 0, .slice none 0 0, .slice none 0 0] 50
  have hx6 := hx6.keep hbW6
  have hb56 := Lib.hid (Below.next hb56 hbW6)
  have hx6 := Lib.hid hx6
  obtain ⟨p6, hp6⟩ : ∃ p, w6.heap.size = p := ⟨_, rfl⟩
  rw [hp6] at hX6
  have hW6' := Lib.hid hW6
  have hp6' := Lib.hid hp6
  clear hW6 hp6
  have hX6 := Lib.hid hX6
  clear hbW6
  go_wp2_with fail
  rw [hW6'.out, hp6'.out]
  clear hW6' hp6'
  refine (hv.out _ _).mono ?_
  rintro e w7 ⟨rfl, hb67⟩
  obtain ⟨W7, hW7, hbW7, hX7⟩ := alloc_named w7 #[.int .i64 1, .string ⟨#[120]⟩, .slice none 0 0, .int .i64 2, .int .u64 0, .string ⟨#[121]⟩, .slice none 0 0, .int .i64 0, .int .u64 0, .string ⟨#[]⟩, .slice none 0 0, .slice none 0 0, .int .u64 1, .int .u64 0, .slice none 0 0, .slice none 0 0] 50
  have hb67 := Lib.hid (Below.next hb67 hbW7)
  obtain ⟨p7, hp7⟩ : ∃ p, w7.heap.size = p := ⟨_, rfl⟩
  rw [hp7] at hX7
  have hW7' := Lib.hid hW7
  have hp7' := Lib.hid hp7
  clear hW7 hp7
  have hX7 := Lib.hid hX7
  clear hbW7
  go_upto_region 6 with fail
  rw [hW7'.out, hp7'.out]
  clear hW7' hp7'
  have hX57 := Lib.hid (((Below.next hb56.out hb67.out).block _ (blk_lt hX5.out)).trans hX5.out)
  go_cut [8] (fun s8 wr => ∃ p8 q8 : Nat, s8 = .pointer (some ⟨p8, 0, none⟩) ∧ wr.heap[q8]? = some (.cells #[.int .i64 1, .string ⟨#[120]⟩, .slice none 0 0, .int .i64 4, .int .u64 0, .string ⟨#[]⟩, .slice A5 1 c5, .int .i64 0, .int .u64 0, .string ⟨#[]⟩, .slice none 0 0, .slice none 0 0, .int .u64 0, .int .u64 0, .slice none 0 0, .slice none 0 0] 50 (0, 0)) ∧ wr.heap[p8]? = some (.cells #[.int .i64 4, .string ⟨#[]⟩, .slice none 0 0, .int .i64 2, .int .u64 0, .string ⟨#[121]⟩, .slice none 0 0, .int .i64 0, .int .u64 0, .string ⟨#[]⟩, .slice none 0 0, .slice none 0 0, .int .u64 0, .int .u64 0, .slice none 0 0, .slice (some ⟨q8, 0, none⟩) 1 1] 50 (0, 0)) ∧ Below W7.heap.size W7 wr)
  case first =>
    as_aux_lemma =>
      skip

      have hS0 : ({ W7 with drawn := W7.drawn + 1 } : World).heap[p5]? = some (.cells #[.int .i64 1, .string ⟨#[120]⟩, .slice none 0 0, .int .i64 4, .int .u64 0, .string ⟨#[]⟩, .slice A5 1 c5, .int .i64 0, .int .u64 0, .string ⟨#[]⟩, .slice none 0 0, .slice none 0 0, .int .u64 0, .int .u64 0, .slice none 0 0, .slice none 0 0] 50 (0, 0)) := hX57.out
      have hB0 : Below W7.heap.size W7 ({ W7 with drawn := W7.drawn + 1 } : World) := below_drew1 (Below.refl _ _)
      refine wp_region_held (S := fun w' => w'.heap[p5]? = some (.cells #[.int .i64 1, .string ⟨#[120]⟩, .slice none 0 0, .int .i64 4, .int .u64 0, .string ⟨#[]⟩, .slice A5 1 c5, .int .i64 0, .int .u64 0, .string ⟨#[]⟩, .slice none 0 0, .slice none 0 0, .int .u64 0, .int .u64 0, .slice none 0 0, .slice none 0 0] 50 (0, 0))) (by kernel_rfl) ?_
      generalize ({ W7 with drawn := W7.drawn + 1 } : World) = wd at hS0 hB0 ⊢
      refine wpAnyH_take (i := 1) (v := .agg #[.int .i64 1, .string ⟨#[120]⟩, .slice none 0 0, .int .i64 4, .int .u64 0, .string ⟨#[]⟩, .slice A5 1 c5, .int .i64 0, .int .u64 0, .string ⟨#[]⟩, .slice none 0 0, .slice none 0 0, .int .u64 0, .int .u64 0, .slice none 0 0, .slice none 0 0]) rfl (by kernel_rfl) (by kernel_rfl) (by kernel_rfl) (fun _ _ _ h => h) (Or.inl ⟨by rfl, fun w hw => by obtain ⟨a0, a1, a2, a3, a4, a5, a6, a7, a8, a9, a10, a11, a12, a13, a14, a15⟩ := box16 hw; go_simp⟩) hS0 ?_
      simp only [Act.put, List.getElem_toArray, List.getElem_cons_zero, List.getElem_cons_succ, List.setIfInBounds_toArray, List.set_cons_zero, List.set_cons_succ]
      have hSwd := hS0
      have hBwd := hB0
      refine wpAnyH_all (rs := [0, 2, 4]) (by kernel_rfl) (by simp) ?_
      intro io hio
      rcases (by simpa using hio : io = 0 ∨ io = 2 ∨ io = 4) with rfl | rfl | rfl
      · skip
        refine wpOp_call rfl (by rfl) (f := 25) (args := #[.string ⟨#[121]⟩]) (by first | rfl | go_simp) (hv.out _ wd) ?_
        rintro e w1x ⟨rfl, hbw1x⟩
        have hSw1x := (hbw1x.block _ (blk_lt hSwd)).trans hSwd
        have hBw1x := Below.next hBwd hbw1x
        refine ⟨_, rfl, hSw1x, ?_⟩
        simp only [Act.put, List.getElem_toArray, List.getElem_cons_zero, List.getElem_cons_succ, List.setIfInBounds_toArray, List.set_cons_zero, List.set_cons_succ]
        refine wpAnyH_all (rs := [2, 4]) (by kernel_rfl) (by simp) ?_
        intro io hio
        rcases (by simpa using hio : io = 2 ∨ io = 4) with rfl | rfl
        · skip
          obtain ⟨w2x, hww2x, hbw2x, hNw2x⟩ := alloc_named w1x #[.int .i64 1, .string ⟨#[120]⟩, .slice none 0 0, .int .i64 4, .int .u64 0, .string ⟨#[]⟩, .slice A5 1 c5, .int .i64 0, .int .u64 0, .string ⟨#[]⟩, .slice none 0 0, .slice none 0 0, .int .u64 0, .int .u64 0, .slice none 0 0, .slice none 0 0] 50
          obtain ⟨q2y, hq2y⟩ : ∃ n, w1x.heap.size = n := ⟨_, rfl⟩
          have hloq2y : W7.heap.size ≤ q2y := by rw [← hq2y]; exact hBw1x.size
          have hSw2x := (hbw2x.block _ (blk_lt hSw1x)).trans hSw1x
          have hBw2x := Below.next hBw1x hbw2x
          have hQw2x := hNw2x
          rw [hq2y] at hQw2x
          refine wpOp_one50 (x := .tmp 34) #[.int .i64 1, .string ⟨#[120]⟩, .slice none 0 0, .int .i64 4, .int .u64 0, .string ⟨#[]⟩, .slice A5 1 c5, .int .i64 0, .int .u64 0, .string ⟨#[]⟩, .slice none 0 0, .slice none 0 0, .int .u64 0, .int .u64 0, .slice none 0 0, .slice none 0 0] rfl (by rfl) rfl rfl rfl ?_
          rw [hww2x, hq2y]
          refine ⟨hSw2x, ?_⟩
          simp only [Act.put, List.getElem_toArray, List.getElem_cons_zero, List.getElem_cons_succ, List.setIfInBounds_toArray, List.set_cons_zero, List.set_cons_succ]
          refine wpAnyH_take (i := 3) (v := .agg #[.int .i64 4, .string ⟨#[]⟩, .slice none 0 0, .int .i64 2, .int .u64 0, .string ⟨#[121]⟩, .slice none 0 0, .int .i64 0, .int .u64 0, .string ⟨#[]⟩, .slice none 0 0, .slice none 0 0, .int .u64 0, .int .u64 0, .slice none 0 0, .slice (some ⟨q2y, 0, none⟩) 1 1]) rfl (by kernel_rfl) (by kernel_rfl) (by kernel_rfl) (fun _ _ _ h => h) (Or.inl ⟨by rfl, fun w hw => run_built8 rfl q2y rfl rfl rfl w⟩) hSw2x ?_
          simp only [Act.put, List.getElem_toArray, List.getElem_cons_zero, List.getElem_cons_succ, List.setIfInBounds_toArray, List.set_cons_zero, List.set_cons_succ]
          refine wpAnyH_all (rs := [4]) (by kernel_rfl) (by simp) ?_
          intro io hio
          rcases (by simpa using hio : io = 4) with rfl
          obtain ⟨w3x, hww3x, hbw3x, hNw3x⟩ := alloc_named w2x zero50 50
          obtain ⟨p3y, hp3y⟩ : ∃ n, w2x.heap.size = n := ⟨_, rfl⟩
          have hlop3y : W7.heap.size ≤ p3y := by rw [← hp3y]; exact hBw2x.size
          have hSw3x := (hbw3x.block _ (blk_lt hSw2x)).trans hSw2x
          have hBw3x := Below.next hBw2x hbw3x
          have hQw3x := (hbw3x.block _ (blk_lt hQw2x)).trans hQw2x
          have hPw3x := hNw3x
          rw [hp3y] at hPw3x
          have hnep3y : q2y < p3y := by rw [← hp3y]; exact blk_lt hQw2x
          refine wpOp_ran (v := .pointer (some ⟨p3y, 0, none⟩)) rfl (by rfl) (by rw [← hp3y]; exact alloc50 rfl hww3x) ⟨hSw3x, ?_⟩
          simp only [Act.put, List.getElem_toArray, List.getElem_cons_zero, List.getElem_cons_succ, List.setIfInBounds_toArray, List.set_cons_zero, List.set_cons_succ]
          refine wpAnyH_all (rs := [5]) (by kernel_rfl) (by simp) ?_
          intro io hio
          rcases (by simpa using hio : io = 5) with rfl
          refine wpOp_wp rfl (by rfl) (wp_store_row 50 (.tmp 8) (.tmp 36) rfl p3y #[.int .i64 4, .string ⟨#[]⟩, .slice none 0 0, .int .i64 2, .int .u64 0, .string ⟨#[121]⟩, .slice none 0 0, .int .i64 0, .int .u64 0, .string ⟨#[]⟩, .slice none 0 0, .slice none 0 0, .int .u64 0, .int .u64 0, .slice none 0 0, .slice (some ⟨q2y, 0, none⟩) 1 1] rfl rfl 50 zero50 hPw3x (by kernel_rfl) (by rfl) (ones8 q2y) ⟨(setRow_other _ _ _ _ (by have := blk_lt hX57.out; have := hlop3y; omega)).trans hSw3x, ?_⟩)
          simp only [Act.put, List.getElem_toArray, List.getElem_cons_zero, List.getElem_cons_succ, List.setIfInBounds_toArray, List.set_cons_zero, List.set_cons_succ]
          refine wpAnyH_done (by kernel_rfl) ?_ _
          go_wp2_with fail
          go_meet
          case rel => exact ⟨p3y, q2y, rfl, (setRow_other _ _ _ _ (by omega)).trans hQw3x, setRow_heap _ _ zero50 _ _ _ hPw3x, below_setRow hBw3x hlop3y _⟩
        · skip
          obtain ⟨w4x, hww4x, hbw4x, hNw4x⟩ := alloc_named w1x zero50 50
          obtain ⟨p4y, hp4y⟩ : ∃ n, w1x.heap.size = n := ⟨_, rfl⟩
          have hlop4y : W7.heap.size ≤ p4y := by rw [← hp4y]; exact hBw1x.size
          have hSw4x := (hbw4x.block _ (blk_lt hSw1x)).trans hSw1x
          have hBw4x := Below.next hBw1x hbw4x
          have hPw4x := hNw4x
          rw [hp4y] at hPw4x
          refine wpOp_ran (v := .pointer (some ⟨p4y, 0, none⟩)) rfl (by rfl) (by rw [← hp4y]; exact alloc50 rfl hww4x) ⟨hSw4x, ?_⟩
          simp only [Act.put, List.getElem_toArray, List.getElem_cons_zero, List.getElem_cons_succ, List.setIfInBounds_toArray, List.set_cons_zero, List.set_cons_succ]
          refine wpAnyH_all (rs := [2]) (by kernel_rfl) (by simp) ?_
          intro io hio
          rcases (by simpa using hio : io = 2) with rfl
          obtain ⟨w5x, hww5x, hbw5x, hNw5x⟩ := alloc_named w4x #[.int .i64 1, .string ⟨#[120]⟩, .slice none 0 0, .int .i64 4, .int .u64 0, .string ⟨#[]⟩, .slice A5 1 c5, .int .i64 0, .int .u64 0, .string ⟨#[]⟩, .slice none 0 0, .slice none 0 0, .int .u64 0, .int .u64 0, .slice none 0 0, .slice none 0 0] 50
          obtain ⟨q5y, hq5y⟩ : ∃ n, w4x.heap.size = n := ⟨_, rfl⟩
          have hloq5y : W7.heap.size ≤ q5y := by rw [← hq5y]; exact hBw4x.size
          have hSw5x := (hbw5x.block _ (blk_lt hSw4x)).trans hSw4x
          have hBw5x := Below.next hBw4x hbw5x
          have hPw5x := (hbw5x.block _ (blk_lt hPw4x)).trans hPw4x
          have hQw5x := hNw5x
          rw [hq5y] at hQw5x
          have hneq5y : p4y < q5y := by rw [← hq5y]; exact blk_lt hPw4x
          refine wpOp_one50 (x := .tmp 34) #[.int .i64 1, .string ⟨#[120]⟩, .slice none 0 0, .int .i64 4, .int .u64 0, .string ⟨#[]⟩, .slice A5 1 c5, .int .i64 0, .int .u64 0, .string ⟨#[]⟩, .slice none 0 0, .slice none 0 0, .int .u64 0, .int .u64 0, .slice none 0 0, .slice none 0 0] rfl (by rfl) rfl rfl rfl ?_
          rw [hww5x, hq5y]
          refine ⟨hSw5x, ?_⟩
          simp only [Act.put, List.getElem_toArray, List.getElem_cons_zero, List.getElem_cons_succ, List.setIfInBounds_toArray, List.set_cons_zero, List.set_cons_succ]
          refine wpAnyH_take (i := 3) (v := .agg #[.int .i64 4, .string ⟨#[]⟩, .slice none 0 0, .int .i64 2, .int .u64 0, .string ⟨#[121]⟩, .slice none 0 0, .int .i64 0, .int .u64 0, .string ⟨#[]⟩, .slice none 0 0, .slice none 0 0, .int .u64 0, .int .u64 0, .slice none 0 0, .slice (some ⟨q5y, 0, none⟩) 1 1]) rfl (by kernel_rfl) (by kernel_rfl) (by kernel_rfl) (fun _ _ _ h => h) (Or.inl ⟨by rfl, fun w hw => run_built8 rfl q5y rfl rfl rfl w⟩) hSw5x ?_
          simp only [Act.put, List.getElem_toArray, List.getElem_cons_zero, List.getElem_cons_succ, List.setIfInBounds_toArray, List.set_cons_zero, List.set_cons_succ]
          refine wpAnyH_all (rs := [5]) (by kernel_rfl) (by simp) ?_
          intro io hio
          rcases (by simpa using hio : io = 5) with rfl
          refine wpOp_wp rfl (by rfl) (wp_store_row 50 (.tmp 8) (.tmp 36) rfl p4y #[.int .i64 4, .string ⟨#[]⟩, .slice none 0 0, .int .i64 2, .int .u64 0, .string ⟨#[121]⟩, .slice none 0 0, .int .i64 0, .int .u64 0, .string ⟨#[]⟩, .slice none 0 0, .slice none 0 0, .int .u64 0, .int .u64 0, .slice none 0 0, .slice (some ⟨q5y, 0, none⟩) 1 1] rfl rfl 50 zero50 hPw5x (by kernel_rfl) (by rfl) (ones8 q5y) ⟨(setRow_other _ _ _ _ (by have := blk_lt hX57.out; have := hlop4y; omega)).trans hSw5x, ?_⟩)
          simp only [Act.put, List.getElem_toArray, List.getElem_cons_zero, List.getElem_cons_succ, List.setIfInBounds_toArray, List.set_cons_zero, List.set_cons_succ]
          refine wpAnyH_done (by kernel_rfl) ?_ _
          go_wp2_with fail
          go_meet
          case rel => exact ⟨p4y, q5y, rfl, (setRow_other _ _ _ _ (by omega)).trans hQw5x, setRow_heap _ _ zero50 _ _ _ hPw5x, below_setRow hBw5x hlop4y _⟩
      · skip
        obtain ⟨w6x, hww6x, hbw6x, hNw6x⟩ := alloc_named wd #[.int .i64 1, .string ⟨#[120]⟩, .slice none 0 0, .int .i64 4, .int .u64 0, .string ⟨#[]⟩, .slice A5 1 c5, .int .i64 0, .int .u64 0, .string ⟨#[]⟩, .slice none 0 0, .slice none 0 0, .int .u64 0, .int .u64 0, .slice none 0 0, .slice none 0 0] 50
        obtain ⟨q6y, hq6y⟩ : ∃ n, wd.heap.size = n := ⟨_, rfl⟩
        have hloq6y : W7.heap.size ≤ q6y := by rw [← hq6y]; exact hBwd.size
        have hSw6x := (hbw6x.block _ (blk_lt hSwd)).trans hSwd
        have hBw6x := Below.next hBwd hbw6x
        have hQw6x := hNw6x
        rw [hq6y] at hQw6x
        refine wpOp_one50 (x := .tmp 34) #[.int .i64 1, .string ⟨#[120]⟩, .slice none 0 0, .int .i64 4, .int .u64 0, .string ⟨#[]⟩, .slice A5 1 c5, .int .i64 0, .int .u64 0, .string ⟨#[]⟩, .slice none 0 0, .slice none 0 0, .int .u64 0, .int .u64 0, .slice none 0 0, .slice none 0 0] rfl (by rfl) rfl rfl rfl ?_
        rw [hww6x, hq6y]
        refine ⟨hSw6x, ?_⟩
        simp only [Act.put, List.getElem_toArray, List.getElem_cons_zero, List.getElem_cons_succ, List.setIfInBounds_toArray, List.set_cons_zero, List.set_cons_succ]
        refine wpAnyH_all (rs := [0, 4]) (by kernel_rfl) (by simp) ?_
        intro io hio
        rcases (by simpa using hio : io = 0 ∨ io = 4) with rfl | rfl
        · skip
          refine wpOp_call rfl (by rfl) (f := 25) (args := #[.string ⟨#[121]⟩]) (by first | rfl | go_simp) (hv.out _ w6x) ?_
          rintro e w7x ⟨rfl, hbw7x⟩
          have hSw7x := (hbw7x.block _ (blk_lt hSw6x)).trans hSw6x
          have hBw7x := Below.next hBw6x hbw7x
          have hQw7x := (hbw7x.block _ (blk_lt hQw6x)).trans hQw6x
          refine ⟨_, rfl, hSw7x, ?_⟩
          simp only [Act.put, List.getElem_toArray, List.getElem_cons_zero, List.getElem_cons_succ, List.setIfInBounds_toArray, List.set_cons_zero, List.set_cons_succ]
          refine wpAnyH_take (i := 3) (v := .agg #[.int .i64 4, .string ⟨#[]⟩, .slice none 0 0, .int .i64 2, .int .u64 0, .string ⟨#[121]⟩, .slice none 0 0, .int .i64 0, .int .u64 0, .string ⟨#[]⟩, .slice none 0 0, .slice none 0 0, .int .u64 0, .int .u64 0, .slice none 0 0, .slice (some ⟨q6y, 0, none⟩) 1 1]) rfl (by kernel_rfl) (by kernel_rfl) (by kernel_rfl) (fun _ _ _ h => h) (Or.inl ⟨by rfl, fun w hw => run_built8 rfl q6y rfl rfl rfl w⟩) hSw7x ?_
          simp only [Act.put, List.getElem_toArray, List.getElem_cons_zero, List.getElem_cons_succ, List.setIfInBounds_toArray, List.set_cons_zero, List.set_cons_succ]
          refine wpAnyH_all (rs := [4]) (by kernel_rfl) (by simp) ?_
          intro io hio
          rcases (by simpa using hio : io = 4) with rfl
          obtain ⟨w8x, hww8x, hbw8x, hNw8x⟩ := alloc_named w7x zero50 50
          obtain ⟨p8y, hp8y⟩ : ∃ n, w7x.heap.size = n := ⟨_, rfl⟩
          have hlop8y : W7.heap.size ≤ p8y := by rw [← hp8y]; exact hBw7x.size
          have hSw8x := (hbw8x.block _ (blk_lt hSw7x)).trans hSw7x
          have hBw8x := Below.next hBw7x hbw8x
          have hQw8x := (hbw8x.block _ (blk_lt hQw7x)).trans hQw7x
          have hPw8x := hNw8x
          rw [hp8y] at hPw8x
          have hnep8y : q6y < p8y := by rw [← hp8y]; exact blk_lt hQw7x
          refine wpOp_ran (v := .pointer (some ⟨p8y, 0, none⟩)) rfl (by rfl) (by rw [← hp8y]; exact alloc50 rfl hww8x) ⟨hSw8x, ?_⟩
          simp only [Act.put, List.getElem_toArray, List.getElem_cons_zero, List.getElem_cons_succ, List.setIfInBounds_toArray, List.set_cons_zero, List.set_cons_succ]
          refine wpAnyH_all (rs := [5]) (by kernel_rfl) (by simp) ?_
          intro io hio
          rcases (by simpa using hio : io = 5) with rfl
          refine wpOp_wp rfl (by rfl) (wp_store_row 50 (.tmp 8) (.tmp 36) rfl p8y #[.int .i64 4, .string ⟨#[]⟩, .slice none 0 0, .int .i64 2, .int .u64 0, .string ⟨#[121]⟩, .slice none 0 0, .int .i64 0, .int .u64 0, .string ⟨#[]⟩, .slice none 0 0, .slice none 0 0, .int .u64 0, .int .u64 0, .slice none 0 0, .slice (some ⟨q6y, 0, none⟩) 1 1] rfl rfl 50 zero50 hPw8x (by kernel_rfl) (by rfl) (ones8 q6y) ⟨(setRow_other _ _ _ _ (by have := blk_lt hX57.out; have := hlop8y; omega)).trans hSw8x, ?_⟩)
          simp only [Act.put, List.getElem_toArray, List.getElem_cons_zero, List.getElem_cons_succ, List.setIfInBounds_toArray, List.set_cons_zero, List.set_cons_succ]
          refine wpAnyH_done (by kernel_rfl) ?_ _
          go_wp2_with fail
          go_meet
          case rel => exact ⟨p8y, q6y, rfl, (setRow_other _ _ _ _ (by omega)).trans hQw8x, setRow_heap _ _ zero50 _ _ _ hPw8x, below_setRow hBw8x hlop8y _⟩
        · skip
          obtain ⟨w9x, hww9x, hbw9x, hNw9x⟩ := alloc_named w6x zero50 50
          obtain ⟨p9y, hp9y⟩ : ∃ n, w6x.heap.size = n := ⟨_, rfl⟩
          have hlop9y : W7.heap.size ≤ p9y := by rw [← hp9y]; exact hBw6x.size
          have hSw9x := (hbw9x.block _ (blk_lt hSw6x)).trans hSw6x
          have hBw9x := Below.next hBw6x hbw9x
          have hQw9x := (hbw9x.block _ (blk_lt hQw6x)).trans hQw6x
          have hPw9x := hNw9x
          rw [hp9y] at hPw9x
          have hnep9y : q6y < p9y := by rw [← hp9y]; exact blk_lt hQw6x
          refine wpOp_ran (v := .pointer (some ⟨p9y, 0, none⟩)) rfl (by rfl) (by rw [← hp9y]; exact alloc50 rfl hww9x) ⟨hSw9x, ?_⟩
          simp only [Act.put, List.getElem_toArray, List.getElem_cons_zero, List.getElem_cons_succ, List.setIfInBounds_toArray, List.set_cons_zero, List.set_cons_succ]
          refine wpAnyH_all (rs := [0]) (by kernel_rfl) (by simp) ?_
          intro io hio
          rcases (by simpa using hio : io = 0) with rfl
          refine wpOp_call rfl (by rfl) (f := 25) (args := #[.string ⟨#[121]⟩]) (by first | rfl | go_simp) (hv.out _ w9x) ?_
          rintro e w10x ⟨rfl, hbw10x⟩
          have hSw10x := (hbw10x.block _ (blk_lt hSw9x)).trans hSw9x
          have hBw10x := Below.next hBw9x hbw10x
          have hQw10x := (hbw10x.block _ (blk_lt hQw9x)).trans hQw9x
          have hPw10x := (hbw10x.block _ (blk_lt hPw9x)).trans hPw9x
          refine ⟨_, rfl, hSw10x, ?_⟩
          simp only [Act.put, List.getElem_toArray, List.getElem_cons_zero, List.getElem_cons_succ, List.setIfInBounds_toArray, List.set_cons_zero, List.set_cons_succ]
          refine wpAnyH_take (i := 3) (v := .agg #[.int .i64 4, .string ⟨#[]⟩, .slice none 0 0, .int .i64 2, .int .u64 0, .string ⟨#[121]⟩, .slice none 0 0, .int .i64 0, .int .u64 0, .string ⟨#[]⟩, .slice none 0 0, .slice none 0 0, .int .u64 0, .int .u64 0, .slice none 0 0, .slice (some ⟨q6y, 0, none⟩) 1 1]) rfl (by kernel_rfl) (by kernel_rfl) (by kernel_rfl) (fun _ _ _ h => h) (Or.inl ⟨by rfl, fun w hw => run_built8 rfl q6y rfl rfl rfl w⟩) hSw10x ?_
          simp only [Act.put, List.getElem_toArray, List.getElem_cons_zero, List.getElem_cons_succ, List.setIfInBounds_toArray, List.set_cons_zero, List.set_cons_succ]
          refine wpAnyH_all (rs := [5]) (by kernel_rfl) (by simp) ?_
          intro io hio
          rcases (by simpa using hio : io = 5) with rfl
          refine wpOp_wp rfl (by rfl) (wp_store_row 50 (.tmp 8) (.tmp 36) rfl p9y #[.int .i64 4, .string ⟨#[]⟩, .slice none 0 0, .int .i64 2, .int .u64 0, .string ⟨#[121]⟩, .slice none 0 0, .int .i64 0, .int .u64 0, .string ⟨#[]⟩, .slice none 0 0, .slice none 0 0, .int .u64 0, .int .u64 0, .slice none 0 0, .slice (some ⟨q6y, 0, none⟩) 1 1] rfl rfl 50 zero50 hPw10x (by kernel_rfl) (by rfl) (ones8 q6y) ⟨(setRow_other _ _ _ _ (by have := blk_lt hX57.out; have := hlop9y; omega)).trans hSw10x, ?_⟩)
          simp only [Act.put, List.getElem_toArray, List.getElem_cons_zero, List.getElem_cons_succ, List.setIfInBounds_toArray, List.set_cons_zero, List.set_cons_succ]
          refine wpAnyH_done (by kernel_rfl) ?_ _
          go_wp2_with fail
          go_meet
          case rel => exact ⟨p9y, q6y, rfl, (setRow_other _ _ _ _ (by omega)).trans hQw10x, setRow_heap _ _ zero50 _ _ _ hPw10x, below_setRow hBw10x hlop9y _⟩
      · skip
        obtain ⟨w11x, hww11x, hbw11x, hNw11x⟩ := alloc_named wd zero50 50
        obtain ⟨p11y, hp11y⟩ : ∃ n, wd.heap.size = n := ⟨_, rfl⟩
        have hlop11y : W7.heap.size ≤ p11y := by rw [← hp11y]; exact hBwd.size
        have hSw11x := (hbw11x.block _ (blk_lt hSwd)).trans hSwd
        have hBw11x := Below.next hBwd hbw11x
        have hPw11x := hNw11x
        rw [hp11y] at hPw11x
        refine wpOp_ran (v := .pointer (some ⟨p11y, 0, none⟩)) rfl (by rfl) (by rw [← hp11y]; exact alloc50 rfl hww11x) ⟨hSw11x, ?_⟩
        simp only [Act.put, List.getElem_toArray, List.getElem_cons_zero, List.getElem_cons_succ, List.setIfInBounds_toArray, List.set_cons_zero, List.set_cons_succ]
        refine wpAnyH_all (rs := [0, 2]) (by kernel_rfl) (by simp) ?_
        intro io hio
        rcases (by simpa using hio : io = 0 ∨ io = 2) with rfl | rfl
        · skip
          refine wpOp_call rfl (by rfl) (f := 25) (args := #[.string ⟨#[121]⟩]) (by first | rfl | go_simp) (hv.out _ w11x) ?_
          rintro e w12x ⟨rfl, hbw12x⟩
          have hSw12x := (hbw12x.block _ (blk_lt hSw11x)).trans hSw11x
          have hBw12x := Below.next hBw11x hbw12x
          have hPw12x := (hbw12x.block _ (blk_lt hPw11x)).trans hPw11x
          refine ⟨_, rfl, hSw12x, ?_⟩
          simp only [Act.put, List.getElem_toArray, List.getElem_cons_zero, List.getElem_cons_succ, List.setIfInBounds_toArray, List.set_cons_zero, List.set_cons_succ]
          refine wpAnyH_all (rs := [2]) (by kernel_rfl) (by simp) ?_
          intro io hio
          rcases (by simpa using hio : io = 2) with rfl
          obtain ⟨w13x, hww13x, hbw13x, hNw13x⟩ := alloc_named w12x #[.int .i64 1, .string ⟨#[120]⟩, .slice none 0 0, .int .i64 4, .int .u64 0, .string ⟨#[]⟩, .slice A5 1 c5, .int .i64 0, .int .u64 0, .string ⟨#[]⟩, .slice none 0 0, .slice none 0 0, .int .u64 0, .int .u64 0, .slice none 0 0, .slice none 0 0] 50
          obtain ⟨q13y, hq13y⟩ : ∃ n, w12x.heap.size = n := ⟨_, rfl⟩
          have hloq13y : W7.heap.size ≤ q13y := by rw [← hq13y]; exact hBw12x.size
          have hSw13x := (hbw13x.block _ (blk_lt hSw12x)).trans hSw12x
          have hBw13x := Below.next hBw12x hbw13x
          have hPw13x := (hbw13x.block _ (blk_lt hPw12x)).trans hPw12x
          have hQw13x := hNw13x
          rw [hq13y] at hQw13x
          have hneq13y : p11y < q13y := by rw [← hq13y]; exact blk_lt hPw12x
          refine wpOp_one50 (x := .tmp 34) #[.int .i64 1, .string ⟨#[120]⟩, .slice none 0 0, .int .i64 4, .int .u64 0, .string ⟨#[]⟩, .slice A5 1 c5, .int .i64 0, .int .u64 0, .string ⟨#[]⟩, .slice none 0 0, .slice none 0 0, .int .u64 0, .int .u64 0, .slice none 0 0, .slice none 0 0] rfl (by rfl) rfl rfl rfl ?_
          rw [hww13x, hq13y]
          refine ⟨hSw13x, ?_⟩
          simp only [Act.put, List.getElem_toArray, List.getElem_cons_zero, List.getElem_cons_succ, List.setIfInBounds_toArray, List.set_cons_zero, List.set_cons_succ]
          refine wpAnyH_take (i := 3) (v := .agg #[.int .i64 4, .string ⟨#[]⟩, .slice none 0 0, .int .i64 2, .int .u64 0, .string ⟨#[121]⟩, .slice none 0 0, .int .i64 0, .int .u64 0, .string ⟨#[]⟩, .slice none 0 0, .slice none 0 0, .int .u64 0, .int .u64 0, .slice none 0 0, .slice (some ⟨q13y, 0, none⟩) 1 1]) rfl (by kernel_rfl) (by kernel_rfl) (by kernel_rfl) (fun _ _ _ h => h) (Or.inl ⟨by rfl, fun w hw => run_built8 rfl q13y rfl rfl rfl w⟩) hSw13x ?_
          simp only [Act.put, List.getElem_toArray, List.getElem_cons_zero, List.getElem_cons_succ, List.setIfInBounds_toArray, List.set_cons_zero, List.set_cons_succ]
          refine wpAnyH_all (rs := [5]) (by kernel_rfl) (by simp) ?_
          intro io hio
          rcases (by simpa using hio : io = 5) with rfl
          refine wpOp_wp rfl (by rfl) (wp_store_row 50 (.tmp 8) (.tmp 36) rfl p11y #[.int .i64 4, .string ⟨#[]⟩, .slice none 0 0, .int .i64 2, .int .u64 0, .string ⟨#[121]⟩, .slice none 0 0, .int .i64 0, .int .u64 0, .string ⟨#[]⟩, .slice none 0 0, .slice none 0 0, .int .u64 0, .int .u64 0, .slice none 0 0, .slice (some ⟨q13y, 0, none⟩) 1 1] rfl rfl 50 zero50 hPw13x (by kernel_rfl) (by rfl) (ones8 q13y) ⟨(setRow_other _ _ _ _ (by have := blk_lt hX57.out; have := hlop11y; omega)).trans hSw13x, ?_⟩)
          simp only [Act.put, List.getElem_toArray, List.getElem_cons_zero, List.getElem_cons_succ, List.setIfInBounds_toArray, List.set_cons_zero, List.set_cons_succ]
          refine wpAnyH_done (by kernel_rfl) ?_ _
          go_wp2_with fail
          go_meet
          case rel => exact ⟨p11y, q13y, rfl, (setRow_other _ _ _ _ (by omega)).trans hQw13x, setRow_heap _ _ zero50 _ _ _ hPw13x, below_setRow hBw13x hlop11y _⟩
        · skip
          obtain ⟨w14x, hww14x, hbw14x, hNw14x⟩ := alloc_named w11x #[.int .i64 1, .string ⟨#[120]⟩, .slice none 0 0, .int .i64 4, .int .u64 0, .string ⟨#[]⟩, .slice A5 1 c5, .int .i64 0, .int .u64 0, .string ⟨#[]⟩, .slice none 0 0, .slice none 0 0, .int .u64 0, .int .u64 0, .slice none 0 0, .slice none 0 0] 50
          obtain ⟨q14y, hq14y⟩ : ∃ n, w11x.heap.size = n := ⟨_, rfl⟩
          have hloq14y : W7.heap.size ≤ q14y := by rw [← hq14y]; exact hBw11x.size
          have hSw14x := (hbw14x.block _ (blk_lt hSw11x)).trans hSw11x
          have hBw14x := Below.next hBw11x hbw14x
          have hPw14x := (hbw14x.block _ (blk_lt hPw11x)).trans hPw11x
          have hQw14x := hNw14x
          rw [hq14y] at hQw14x
          have hneq14y : p11y < q14y := by rw [← hq14y]; exact blk_lt hPw11x
          refine wpOp_one50 (x := .tmp 34) #[.int .i64 1, .string ⟨#[120]⟩, .slice none 0 0, .int .i64 4, .int .u64 0, .string ⟨#[]⟩, .slice A5 1 c5, .int .i64 0, .int .u64 0, .string ⟨#[]⟩, .slice none 0 0, .slice none 0 0, .int .u64 0, .int .u64 0, .slice none 0 0, .slice none 0 0] rfl (by rfl) rfl rfl rfl ?_
          rw [hww14x, hq14y]
          refine ⟨hSw14x, ?_⟩
          simp only [Act.put, List.getElem_toArray, List.getElem_cons_zero, List.getElem_cons_succ, List.setIfInBounds_toArray, List.set_cons_zero, List.set_cons_succ]
          refine wpAnyH_all (rs := [0]) (by kernel_rfl) (by simp) ?_
          intro io hio
          rcases (by simpa using hio : io = 0) with rfl
          refine wpOp_call rfl (by rfl) (f := 25) (args := #[.string ⟨#[121]⟩]) (by first | rfl | go_simp) (hv.out _ w14x) ?_
          rintro e w15x ⟨rfl, hbw15x⟩
          have hSw15x := (hbw15x.block _ (blk_lt hSw14x)).trans hSw14x
          have hBw15x := Below.next hBw14x hbw15x
          have hQw15x := (hbw15x.block _ (blk_lt hQw14x)).trans hQw14x
          have hPw15x := (hbw15x.block _ (blk_lt hPw14x)).trans hPw14x
          refine ⟨_, rfl, hSw15x, ?_⟩
          simp only [Act.put, List.getElem_toArray, List.getElem_cons_zero, List.getElem_cons_succ, List.setIfInBounds_toArray, List.set_cons_zero, List.set_cons_succ]
          refine wpAnyH_take (i := 3) (v := .agg #[.int .i64 4, .string ⟨#[]⟩, .slice none 0 0, .int .i64 2, .int .u64 0, .string ⟨#[121]⟩, .slice none 0 0, .int .i64 0, .int .u64 0, .string ⟨#[]⟩, .slice none 0 0, .slice none 0 0, .int .u64 0, .int .u64 0, .slice none 0 0, .slice (some ⟨q14y, 0, none⟩) 1 1]) rfl (by kernel_rfl) (by kernel_rfl) (by kernel_rfl) (fun _ _ _ h => h) (Or.inl ⟨by rfl, fun w hw => run_built8 rfl q14y rfl rfl rfl w⟩) hSw15x ?_
          simp only [Act.put, List.getElem_toArray, List.getElem_cons_zero, List.getElem_cons_succ, List.setIfInBounds_toArray, List.set_cons_zero, List.set_cons_succ]
          refine wpAnyH_all (rs := [5]) (by kernel_rfl) (by simp) ?_
          intro io hio
          rcases (by simpa using hio : io = 5) with rfl
          refine wpOp_wp rfl (by rfl) (wp_store_row 50 (.tmp 8) (.tmp 36) rfl p11y #[.int .i64 4, .string ⟨#[]⟩, .slice none 0 0, .int .i64 2, .int .u64 0, .string ⟨#[121]⟩, .slice none 0 0, .int .i64 0, .int .u64 0, .string ⟨#[]⟩, .slice none 0 0, .slice none 0 0, .int .u64 0, .int .u64 0, .slice none 0 0, .slice (some ⟨q14y, 0, none⟩) 1 1] rfl rfl 50 zero50 hPw15x (by kernel_rfl) (by rfl) (ones8 q14y) ⟨(setRow_other _ _ _ _ (by have := blk_lt hX57.out; have := hlop11y; omega)).trans hSw15x, ?_⟩)
          simp only [Act.put, List.getElem_toArray, List.getElem_cons_zero, List.getElem_cons_succ, List.setIfInBounds_toArray, List.set_cons_zero, List.set_cons_succ]
          refine wpAnyH_done (by kernel_rfl) ?_ _
          go_wp2_with fail
          go_meet
          case rel => exact ⟨p11y, q14y, rfl, (setRow_other _ _ _ _ (by omega)).trans hQw15x, setRow_heap _ _ zero50 _ _ _ hPw15x, below_setRow hBw15x hlop11y _⟩
  case rest =>
    obtain ⟨p8, q8, rfl, hQ8, hX8, hb78⟩ := hcut
    have hQ8 := Lib.hid hQ8
    have hX8 := Lib.hid hX8
    have hb78 := Lib.hid hb78
    clear hX57
    as_aux_lemma =>
      obtain ⟨W9, hW9, hbW9, hX9⟩ := alloc_named wc #[.int .i64 4, .string ⟨#[]⟩, .slice none 0 0, .int .i64 0, .int .u64 0, .string ⟨#[]⟩, .slice none 0 0, .int .i64 0, .int .u64 0, .string ⟨#[]⟩, .slice none 0 0, .slice none 0 0, .int .u64 0, .int .u64 0, .slice none 0 0, .slice none 0 0] 50
      obtain ⟨p9, hp9⟩ : ∃ p, wc.heap.size = p := ⟨_, rfl⟩
      rw [hp9] at hX9
      have hX9 := Lib.hid hX9
      have hb89 := Lib.hid hbW9
      have hW9' := Lib.hid hW9
      have hp9' := Lib.hid hp9
      clear hbW9 hW9 hp9
      go_upto_region 8 with fail
      rw [hW9'.out, hp9'.out]
      clear hW9' hp9'
      obtain ⟨W10, hW10, hbW10, hX10⟩ := alloc_named W9 #[.int .i64 6, .string ⟨#[102]⟩, .slice none 0 0, .int .i64 0, .int .u64 0, .string ⟨#[]⟩, .slice none 0 0, .int .i64 0, .int .u64 0, .string ⟨#[]⟩, .slice none 0 0, .slice none 0 0, .int .u64 0, .int .u64 0, .slice none 0 0, .slice none 0 0] 50
      obtain ⟨p10, hp10⟩ : ∃ p, W9.heap.size = p := ⟨_, rfl⟩
      rw [hp10] at hX10
      have hX10 := Lib.hid hX10
      have hb910 := Lib.hid hbW10
      have hW10' := Lib.hid hW10
      have hp10' := Lib.hid hp10
      clear hbW10 hW10 hp10
      go_upto_region 9 with fail
      rw [hW10'.out, hp10'.out]
      clear hW10' hp10'
      go_wp2_with (refine wpList_sliceN rfl 37 54 (.tmp 39) rfl #[.string ⟨#[102]⟩, .slice none 0 0, .slice none 0 0, .slice none 0 0, .slice none 0 0] _ 5 (by omega) (by omega) und37 info54 rfl rfl ?_)
      intro bF W11 hbF hb1011 hF
      go_wp2_with (refine wpList_allocN rfl 39 _ (alloc39 rfl) ?_)
      intro p11 W12 hp11 hb1112 hL0
      go_wp2_with (refine wpList_storeN rfl 39 _ _ rfl p11 #[.slice none 0 0, .slice (some ⟨bF, 0, none⟩) 1 1] rfl rfl 39 _ hL0 (by kernel_rfl) rfl (by kernel_rfl) ?_)
      intro W13 hb1213 hL hoth
      have hFL : bF < p11 := by rw [← hp11]; exact blk_lt hF
      have hF13 := (hoth bF (by omega)).trans ((hb1112.block _ (blk_lt hF)).trans hF)
      have hb1013 := Lib.hid ((Below.next hb1011 hb1112).trans (hb1213 _ (by rw [← hp11]; exact hb1011.size)))
      have hp13 := Lib.hid (show p11 < W13.heap.size from blk_lt hL)
      have hL := Lib.hid hL
      have hF13 := Lib.hid hF13
      have hFL := Lib.hid hFL
      have hlo := Lib.hid (show W10.heap.size ≤ bF by rw [hbF]; exact Nat.le_refl _)
      clear hb1011 hb1112 hb1213 hoth hL0 hF hp11 hbF
      go_wp2_with fail
      go_loopg [12] 7000 (fun g s12 wr => ∃ (k : Nat) (v : Value), k + g = 7000 ∧ s12 = .int .i64 k ∧ LG bF p11 W13.heap.size k v wr ∧ Below W10.heap.size W10 wr)
      case atStart => exact ⟨0, .slice none 0 0, by omega, rfl, ⟨hL.out, hF13.out, World.ownsRow_nil _ _ _ _, Nat.le_refl _⟩, hb1013.out⟩
      case round =>
        obtain ⟨k, v, hkg, rfl, hlg, hbr⟩ := hrel
        have hlg := Lib.hid hlg
        have hbr := Lib.hid hbr
        cases gk with
        | zero =>
          have e0 : ¬ (k : Int) < 7000 := by omega
          obtain rfl : k = 7000 := by omega
          clear hkg
          as_aux_lemma =>
            obtain ⟨A, cA, rfl, hbody⟩ := own_body hlg.out.o
            have hEr := hE.out.below (Below.next (Below.next (Below.next (Below.next (Below.next (Below.next hb5.out hb56.out) hb67.out) hb78.out) hb89.out) hb910.out) hbr.out)
            have hfn := fn_one (ps := []) (vs := []) (bd := List.replicate 7000 lgS) (pc := 0) (vc := 0) (bc := cA) (w := wr) (b := bF) (by rw [List.length_replicate]; exact hlg.out.f) (CellsAt.nil none) (CellsAt.nil none) hbody (fun v h => by simp at h) (fun v h => by simp at h)
            have h19 := text19_any wr hEr (lgP 7000) none (some ⟨bF, 0, none⟩) 0 1 (CellsAt.nil none) hfn (fun q h => by simp [lgP] at h) wr (Below.refl _ _) lg_cnt
            unfold TextPost at h19
            rw [lg_text] at h19
            unfold pgV at h19
            obtain ⟨TT, hTT⟩ : ∃ T, (textM (lgP 7000)).1 = T := ⟨_, rfl⟩
            rw [hTT, show (lgP 7000).rs.length = 0 from rfl, show (lgP 7000).fs.length = 1 from rfl] at h19
            have h19 := Lib.hid h19
            obtain ⟨l0, l1⟩ := box2 hlg.out.l
            have hEr := Lib.hid hEr
            clear hTT hfn hbody
            go_wp2_with fail
            refine h19.out.mono ?_
            rintro e w17 ⟨rfl, hbr17⟩
            have hbr17 := Lib.hid hbr17
            clear l0 l1
            go_wp2_with (refine wpList_sliceN rfl 52 58 (.tmp 79) rfl #[.string ⟨#[120]⟩, .int .i64 3, .int .i64 0, .bool false] _ 4 (by omega) (by omega) und52 info58 rfl rfl ?_)
            intro n18 W18 hn18 hb18 hV18
            go_wp2_with (refine wpList_sliceN rfl 37 54 (.tmp 81) rfl #[.string ⟨#[102]⟩, .slice (some ⟨n18, 0, none⟩) 1 1, .slice none 0 0, .slice none 0 0, .slice none 0 0] _ 5 (by omega) (by omega) und37 info54 rfl rfl ?_)
            intro f18 W19 hf18 hb19 hF18
            go_wp2_with (refine wpList_allocN rfl 39 _ (alloc39 rfl) ?_)
            intro p15 W20 hp15 hb20 hP15
            go_wp2_with (refine wpList_storeN rfl 39 _ _ rfl p15 #[.slice none 0 0, .slice (some ⟨f18, 0, none⟩) 1 1] rfl rfl 39 _ hP15 (by kernel_rfl) rfl (by kernel_rfl) ?_)
            intro W21 hb21 hL15 ho21
            have hb1721 := (Below.next (Below.next hb18 hb19) hb20).trans (hb21 _ (by rw [← hp15]; exact Nat.le_trans hb18.size hb19.size))
            have hF18 := (ho21 f18 (by have := blk_lt hF18; omega)).trans ((hb20.block _ (blk_lt hF18)).trans hF18)
            have hV18 := (ho21 n18 (by have := blk_lt hV18; have := hb19.size; omega)).trans ((hb20.block _ (by have := blk_lt hV18; have := hb19.size; omega)).trans ((hb19.block _ (blk_lt hV18)).trans hV18))
            have hb1721 := Lib.hid hb1721
            have hF18 := Lib.hid hF18
            have hV18 := Lib.hid hV18
            have hL15 := Lib.hid hL15
            clear hb18 hb19 hb20 hb21 hP15 ho21 hn18 hf18 hp15
            go_wp2_with (refine wpList_sliceN rfl 52 58 (.tmp 84) rfl #[.string ⟨#[120]⟩, .int .i64 1, .int .i64 0, .bool true] _ 4 (by omega) (by omega) und52 info58 rfl rfl ?_)
            intro n19 W22 hn19 hb22 hV19
            go_wp2_with (refine wpList_sliceN rfl 37 54 (.tmp 86) rfl #[.string ⟨#[102]⟩, .slice none 0 0, .slice (some ⟨n19, 0, none⟩) 1 1, .slice none 0 0, .slice none 0 0] _ 5 (by omega) (by omega) und37 info54 rfl rfl ?_)
            intro f19 W23 hf19 hb23 hF19
            go_wp2_with (refine wpList_allocN rfl 39 _ (alloc39 rfl) ?_)
            intro p16 W24 hp16 hb24 hP16
            go_wp2_with (refine wpList_storeN rfl 39 _ _ rfl p16 #[.slice none 0 0, .slice (some ⟨f19, 0, none⟩) 1 1] rfl rfl 39 _ hP16 (by kernel_rfl) rfl (by kernel_rfl) ?_)
            intro W25 hb25 hL16 ho25
            have hb2125 := (Below.next (Below.next hb22 hb23) hb24).trans (hb25 _ (by rw [← hp16]; exact Nat.le_trans hb22.size hb23.size))
            have hF19 := (ho25 f19 (by have := blk_lt hF19; omega)).trans ((hb24.block _ (blk_lt hF19)).trans hF19)
            have hV19 := (ho25 n19 (by have := blk_lt hV19; have := hb23.size; omega)).trans ((hb24.block _ (by have := blk_lt hV19; have := hb23.size; omega)).trans ((hb23.block _ (blk_lt hV19)).trans hV19))
            -- all that lies, in the last world
            have d7 := Below.next hbr17.out (Below.next hb1721.out hb2125)
            have d6 := Below.next hbr.out d7
            have d5 := Below.next hb910.out d6
            have d4 := Below.next hb89.out d5
            have d3 := Below.next hb78.out d4
            have d2 := Below.next hb67.out d3
            have d1 := Below.next hb56.out d2
            have hbW25 := Lib.hid (Below.next hb5.out d1)
            have hEq := Lib.hid (hE.out.below hbW25.out)
            have k5 := Lib.hid ((d1.block _ (blk_lt hX5.out)).trans hX5.out)
            have k6 := Lib.hid ((d2.block _ (blk_lt hX6.out)).trans hX6.out)
            have k7 := Lib.hid ((d3.block _ (blk_lt hX7.out)).trans hX7.out)
            have k8 := Lib.hid ((d4.block _ (blk_lt hX8.out)).trans hX8.out)
            have kq := Lib.hid ((d4.block _ (blk_lt hQ8.out)).trans hQ8.out)
            have k9 := Lib.hid ((d5.block _ (blk_lt hX9.out)).trans hX9.out)
            have k10 := Lib.hid ((d6.block _ (blk_lt hX10.out)).trans hX10.out)
            have x5 := Lib.hid (hx5.out.keep d1)
            have x6 := Lib.hid (hx6.out.keep d2)
            have hF18 := Lib.hid ((hb2125.block _ (blk_lt hF18.out)).trans hF18.out)
            have hV18 := Lib.hid ((hb2125.block _ (blk_lt hV18.out)).trans hV18.out)
            have hL15 := Lib.hid ((hb2125.block _ (blk_lt hL15.out)).trans hL15.out)
            have hF19 := Lib.hid hF19
            have hV19 := Lib.hid hV19
            have hL16 := Lib.hid hL16
            clear d1 d2 d3 d4 d5 d6 d7 hb2125 hb22 hb23 hb24 hb25 hP16 ho25 hn19 hf19 hp16 h64 h65 h63 hv hx hc26 hX5 hX6 hX7 hX8 hQ8 hX9 hX10

            as_aux_lemma =>
              have hu0 := Lib.hid (Below.refl W25.heap.size W25)
              have hn := Lib.hid (fun (n : Int) W' => num16_any n W')
              go_wp2_with fail
              refine (hn.out _ _).mono ?_
              rintro e u1 ⟨rfl, rfl⟩
              go_wp2_with fail
              refine (hn.out _ _).mono ?_
              rintro e u2 ⟨rfl, rfl⟩
              obtain ⟨a0, a1, a2, a3, a4, a5, a6, a7, a8, a9, a10, a11, a12, a13, a14, a15⟩ := box16 ((hu0.out.block _ (blk_lt k5.out)).trans k5.out)
              have hc := Lib.hid (show Calls Tryz.prog 27 #[.agg #[.int .i64 1, .string ⟨#[120]⟩, .slice none 0 0, .int .i64 4, .int .u64 0, .string ⟨#[]⟩, .slice A5 1 c5, .int .i64 0, .int .u64 0, .string ⟨#[]⟩, .slice none 0 0, .slice none 0 0, .int .u64 0, .int .u64 0, .slice none 0 0, .slice none 0 0], .int .i64 1] W25 (BoolPost true W25) from lines27_one setS _ W25 (hEq.out.below hu0.out) (snow_row W25 1 xT (deepE 62) ⟨4, 0, ⟨#[]⟩, ⟨A5, 1, c5⟩⟩ 0 [] ⟨none, 0, 0⟩ (enow_deep W25 61 A5 c5 (x5.out.keep hu0.out)) (by decide) rfl) (StsAt.nil _) (StsAt.nil _) set_closed.1 set_closed.2.1 set_closed.2.2.1 1)
              go_wp2_with fail
              refine hc.out.mono ?_
              rintro e u1x ⟨rfl, hb⟩
              have hu1 := Lib.hid (Below.next hu0.out hb)
              clear a0 a1 a2 a3 a4 a5 a6 a7 a8 a9 a10 a11 a12 a13 a14 a15 hc hb
              as_aux_lemma =>
                obtain ⟨a0, a1, a2, a3, a4, a5, a6, a7, a8, a9, a10, a11, a12, a13, a14, a15⟩ := box16 ((hu1.out.block _ (blk_lt k6.out)).trans k6.out)
                have hc := Lib.hid (show Calls Tryz.prog 27 #[.agg #[.int .i64 1, .string ⟨#[120]⟩, .slice none 0 0, .int .i64 4, .int .u64 0, .string ⟨#[]⟩, .slice A6 1 c6, .int .i64 0, .int .u64 0, .string ⟨#[]⟩, .slice none 0 0, .slice none 0 0, .int .u64 0, .int .u64 0, .slice none 0 0, .slice none 0 0], .int .i64 0] u1x (BoolPost true u1x) from lines27_none moreS _ u1x (hEq.out.below hu1.out) (snow_row u1x 1 xT (deepE 63) ⟨4, 0, ⟨#[]⟩, ⟨A6, 1, c6⟩⟩ 0 [] ⟨none, 0, 0⟩ (enow_deep u1x 62 A6 c6 (x6.out.keep hu1.out)) (by decide) rfl) (StsAt.nil _) (StsAt.nil _) more_n set_closed.2.2.2.1 0)
                go_wp2_with fail
                refine hc.out.mono ?_
                rintro e u2x ⟨rfl, hb⟩
                have hu2 := Lib.hid (Below.next hu1.out hb)
                clear a0 a1 a2 a3 a4 a5 a6 a7 a8 a9 a10 a11 a12 a13 a14 a15 hc hb
                as_aux_lemma =>
                  obtain ⟨a0, a1, a2, a3, a4, a5, a6, a7, a8, a9, a10, a11, a12, a13, a14, a15⟩ := box16 ((hu2.out.block _ (blk_lt k7.out)).trans k7.out)
                  have hc := Lib.hid (show Calls Tryz.prog 27 #[.agg #[.int .i64 1, .string ⟨#[120]⟩, .slice none 0 0, .int .i64 2, .int .u64 0, .string ⟨#[121]⟩, .slice none 0 0, .int .i64 0, .int .u64 0, .string ⟨#[]⟩, .slice none 0 0, .slice none 0 0, .int .u64 1, .int .u64 0, .slice none 0 0, .slice none 0 0], .int .i64 0] u2x (BoolPost true u2x) from lines27_none lowS _ u2x (hEq.out.below hu2.out) (snow_row u2x 1 xT yX ⟨2, 0, ⟨#[121]⟩, ⟨none, 0, 0⟩⟩ 1 [] ⟨none, 0, 0⟩ (enow_none u2x 2 0 ⟨#[121]⟩ (by decide)) (by decide) rfl) (StsAt.nil _) (StsAt.nil _) low_n set_closed.2.2.2.2.1 0)
                  go_wp2_with fail
                  refine hc.out.mono ?_
                  rintro e u3x ⟨rfl, hb⟩
                  have hu3 := Lib.hid (Below.next hu2.out hb)
                  clear a0 a1 a2 a3 a4 a5 a6 a7 a8 a9 a10 a11 a12 a13 a14 a15 hc hb
                  as_aux_lemma =>
                    obtain ⟨a0, a1, a2, a3, a4, a5, a6, a7, a8, a9, a10, a11, a12, a13, a14, a15⟩ := box16 ((hu3.out.block _ (blk_lt k8.out)).trans k8.out)
                    have hc := Lib.hid (show Calls Tryz.prog 27 #[.agg #[.int .i64 4, .string ⟨#[]⟩, .slice none 0 0, .int .i64 2, .int .u64 0, .string ⟨#[121]⟩, .slice none 0 0, .int .i64 0, .int .u64 0, .string ⟨#[]⟩, .slice none 0 0, .slice none 0 0, .int .u64 0, .int .u64 0, .slice none 0 0, .slice (some ⟨q8, 0, none⟩) 1 1], .int .i64 0] u3x (BoolPost true u3x) from lines27_none otherS _ u3x (hEq.out.below hu3.out) (snow_row u3x 4 ⟨#[]⟩ yX ⟨2, 0, ⟨#[121]⟩, ⟨none, 0, 0⟩⟩ 0 [setS] ⟨some ⟨q8, 0, none⟩, 1, 1⟩ (enow_none u3x 2 0 ⟨#[121]⟩ (by decide)) (by decide) rfl) (StsAt.nil _) (sts_one (r := rowR 1 xT ⟨4, 0, ⟨#[]⟩, ⟨A5, 1, c5⟩⟩ 0 ⟨none, 0, 0⟩) ((hu3.out.block _ (blk_lt kq.out)).trans kq.out) (snow_row u3x 1 xT (deepE 62) ⟨4, 0, ⟨#[]⟩, ⟨A5, 1, c5⟩⟩ 0 [] ⟨none, 0, 0⟩ (enow_deep u3x 61 A5 c5 (x5.out.keep hu3.out)) (by decide) rfl) (StsAt.nil _) (StsAt.nil _)) other_n set_closed.2.2.2.2.2.1 0)
                    go_wp2_with fail
                    refine hc.out.mono ?_
                    rintro e u4x ⟨rfl, hb⟩
                    have hu4 := Lib.hid (Below.next hu3.out hb)
                    clear a0 a1 a2 a3 a4 a5 a6 a7 a8 a9 a10 a11 a12 a13 a14 a15 hc hb
                    as_aux_lemma =>
                      obtain ⟨a0, a1, a2, a3, a4, a5, a6, a7, a8, a9, a10, a11, a12, a13, a14, a15⟩ := box16 ((hu4.out.block _ (blk_lt k9.out)).trans k9.out)
                      have hc := Lib.hid (show Calls Tryz.prog 27 #[.agg #[.int .i64 4, .string ⟨#[]⟩, .slice none 0 0, .int .i64 0, .int .u64 0, .string ⟨#[]⟩, .slice none 0 0, .int .i64 0, .int .u64 0, .string ⟨#[]⟩, .slice none 0 0, .slice none 0 0, .int .u64 0, .int .u64 0, .slice none 0 0, .slice none 0 0], .int .i64 0] u4x (BoolPost true u4x) from lines27_none zeroS _ u4x (hEq.out.below hu4.out) (snow_row u4x 4 ⟨#[]⟩ zE ⟨0, 0, ⟨#[]⟩, ⟨none, 0, 0⟩⟩ 0 [] ⟨none, 0, 0⟩ (enow_none u4x 0 0 ⟨#[]⟩ (by decide)) (by decide) rfl) (StsAt.nil _) (StsAt.nil _) zero_n set_closed.2.2.2.2.2.2.1 0)
                      go_wp2_with fail
                      refine hc.out.mono ?_
                      rintro e u5x ⟨rfl, hb⟩
                      have hu5 := Lib.hid (Below.next hu4.out hb)
                      clear a0 a1 a2 a3 a4 a5 a6 a7 a8 a9 a10 a11 a12 a13 a14 a15 hc hb
                      as_aux_lemma =>
                        obtain ⟨a0, a1, a2, a3, a4, a5, a6, a7, a8, a9, a10, a11, a12, a13, a14, a15⟩ := box16 ((hu5.out.block _ (blk_lt k10.out)).trans k10.out)
                        have hc := Lib.hid (show Calls Tryz.prog 27 #[.agg #[.int .i64 6, .string ⟨#[102]⟩, .slice none 0 0, .int .i64 0, .int .u64 0, .string ⟨#[]⟩, .slice none 0 0, .int .i64 0, .int .u64 0, .string ⟨#[]⟩, .slice none 0 0, .slice none 0 0, .int .u64 0, .int .u64 0, .slice none 0 0, .slice none 0 0], .int .i64 1] u5x (BoolPost true u5x) from lines27_one callS _ u5x (hEq.out.below hu5.out) (snow_row u5x 6 fT zE ⟨0, 0, ⟨#[]⟩, ⟨none, 0, 0⟩⟩ 0 [] ⟨none, 0, 0⟩ (enow_none u5x 0 0 ⟨#[]⟩ (by decide)) (by decide) rfl) (StsAt.nil _) (StsAt.nil _) set_closed.2.2.2.2.2.2.2.2.1 set_closed.2.2.2.2.2.2.2.2.2 set_closed.2.2.2.2.2.2.2.1 1)
                        go_wp2_with fail
                        refine hc.out.mono ?_
                        rintro e u6x ⟨rfl, hb⟩
                        have hu6 := Lib.hid (Below.next hu5.out hb)
                        clear a0 a1 a2 a3 a4 a5 a6 a7 a8 a9 a10 a11 a12 a13 a14 a15 hc hb
                        as_aux_lemma =>
                          go_wp2_with fail
                          refine (hn.out _ _).mono ?_
                          rintro e u9 ⟨rfl, rfl⟩
                          obtain ⟨a0, a1⟩ := box2 ((hu6.out.block _ (blk_lt hL15.out)).trans hL15.out)
                          have hc := may20_any W25 parP none (some ⟨f18, 0, none⟩) 0 1 (CellsAt.nil none) (fn_one (ps := [⟨xT, 3, 0, false⟩]) (vs := []) (bd := []) hF18.out (var_one (v := ⟨xT, 3, 0, false⟩) hV18.out) (CellsAt.nil none) (StsAt.nil none) (fun v h => by rw [List.mem_singleton.1 h]; unfold VarOk; dsimp only; omega) (fun v h => by simp at h)) u6x hu6.out (by decide +kernel)
                          rw [par_may.1] at hc
                          have hc := Lib.hid (show Calls Tryz.prog 20 #[.agg #[.slice none 0 0, .slice (some ⟨f18, 0, none⟩) 1 1]] u6x (BoolPost false u6x) from hc)
                          go_wp2_with fail
                          refine hc.out.mono ?_
                          rintro e u7x ⟨rfl, hb⟩
                          have hu7 := Lib.hid (Below.next hu6.out hb)
                          clear a0 a1 hc hb
                          as_aux_lemma =>
                            obtain ⟨a0, a1⟩ := box2 ((hu7.out.block _ (blk_lt hL16.out)).trans hL16.out)
                            have hc := may20_any W25 worP none (some ⟨f19, 0, none⟩) 0 1 (CellsAt.nil none) (fn_one (ps := []) (vs := [⟨xT, 1, 0, true⟩]) (bd := []) hF19.out (CellsAt.nil none) (var_one (v := ⟨xT, 1, 0, true⟩) hV19.out) (StsAt.nil none) (fun v h => by simp at h) (fun v h => by rw [List.mem_singleton.1 h]; unfold VarOk; dsimp only; omega)) u7x hu7.out (by decide +kernel)
                            rw [par_may.2.1] at hc
                            have hc := Lib.hid (show Calls Tryz.prog 20 #[.agg #[.slice none 0 0, .slice (some ⟨f19, 0, none⟩) 1 1]] u7x (BoolPost false u7x) from hc)
                            go_wp2_with fail
                            refine hc.out.mono ?_
                            rintro e u8x ⟨rfl, hb⟩
                            have hu8 := Lib.hid (Below.next hu7.out hb)
                            clear a0 a1 hc hb
                            as_aux_lemma =>
                              have hc := may20_any W25 ⟨[], []⟩ none none 0 0 (CellsAt.nil none) (fn_zero W25) u8x hu8.out (by decide +kernel)
                              rw [par_may.2.2] at hc
                              have hc := Lib.hid (show Calls Tryz.prog 20 #[.agg #[.slice none 0 0, .slice none 0 0]] u8x (BoolPost true u8x) from hc)
                              go_wp2_with fail
                              refine hc.out.mono ?_
                              rintro e u9x ⟨rfl, hb⟩
                              have hu9 := Lib.hid (Below.next hu8.out hb)
                              clear hc hb
                              go_wp2_with fail
                              refine (deepNil_any u9x).mono ?_
                              rintro e u10x ⟨rfl, hb⟩
                              have hu10 := Lib.hid (Below.next hu9.out hb)
                              clear hb
                              go_wp2_with fail
                              refine (known_any u10x (hEq.out.below hu10.out)).mono ?_
                              rintro e u11x ⟨rfl, hb⟩
                              have hu11 := Lib.hid (Below.next hu10.out hb)
                              clear hb
                              go_wp2
                              go_ret
                              exact ⟨rfl, Below.next hbW25.out hu11.out⟩
        | succ g2 =>
          have e0 : (k : Int) < 7000 := by omega
          go_upto_region 13 with fail
          go_cut [47] (fun s47 wx => ∃ b : Bool, s47 = .bool b ∧ Below wr.heap.size wr wx)
          case first =>
            as_aux_lemma =>
              skip
              go_region
              all_goals
                go_wp2_with fail
                go_meet
              all_goals exact ⟨_, rfl, below_drew1 ((Below.refl _ wr).alloc (Nat.le_refl _) _)⟩
          case rest =>
            obtain ⟨b, rfl, hbx⟩ := hcut
            obtain ⟨A, cA, rfl⟩ := own_form hlg.out.o
            have hlg2 := Lib.hid (hlg.out.go hbx)
            have hbr2 := Lib.hid (Below.next hbr.out hbx)
            have hbz := Lib.hid (show bF < W13.heap.size by have := hFL.out; have := hp13.out; omega)
            have hpz := hp13
            have hlo13 := Lib.hid hb1013.out.size
            have hk7 : k < 7000 := by omega
            cases b with
            | false =>
              as_aux_lemma =>
                go_upto_region 16 with fail

                have hG0 : LG bF p11 W13.heap.size k (.slice A k cA) ({ wc with drawn := wc.drawn + 1 } : World) := ⟨hlg2.out.l, hlg2.out.f, hlg2.out.o, hlg2.out.z⟩
                have hB0 : Below W10.heap.size W10 ({ wc with drawn := wc.drawn + 1 } : World) := below_drew1 hbr2.out
                refine wp_region_held (S := SB bF p11) (by kernel_rfl) ?_
                generalize ({ wc with drawn := wc.drawn + 1 } : World) = wd at hG0 hB0 ⊢
                have hGwd := hG0
                have hBwd := hB0
                have hSwd : SB bF p11 wd := ⟨hG0.l, _, hG0.f⟩
                refine wpAnyH_take (i := 0) (v := .pointer (some ⟨p11, 1, none⟩)) rfl (by kernel_rfl) (by kernel_rfl) (by kernel_rfl) (fun _ _ _ h => h) (Or.inl ⟨by rfl, fun w hw => by go_simp⟩) hSwd ?_
                simp only [Act.put, List.getElem_toArray, List.getElem_cons_zero, List.getElem_cons_succ, List.setIfInBounds_toArray, List.set_cons_zero, List.set_cons_succ]
                refine wpAnyH_take (i := 1) (v := .slice (some ⟨bF, 0, none⟩) 1 1) rfl (by kernel_rfl) (by kernel_rfl) (by kernel_rfl) (fun _ _ _ h => h) (Or.inl ⟨by rfl, fun w hw => by obtain ⟨a0, a1⟩ := box2 hw.1; go_simp⟩) hSwd ?_
                simp only [Act.put, List.getElem_toArray, List.getElem_cons_zero, List.getElem_cons_succ, List.setIfInBounds_toArray, List.set_cons_zero, List.set_cons_succ]
                refine wpAnyH_take (i := 2) (v := .pointer (some ⟨p11, 1, none⟩)) rfl (by kernel_rfl) (by kernel_rfl) (by kernel_rfl) (fun _ _ _ h => h) (Or.inl ⟨by rfl, fun w hw => by go_simp⟩) hSwd ?_
                simp only [Act.put, List.getElem_toArray, List.getElem_cons_zero, List.getElem_cons_succ, List.setIfInBounds_toArray, List.set_cons_zero, List.set_cons_succ]
                refine wpAnyH_take (i := 3) (v := .slice (some ⟨bF, 0, none⟩) 1 1) rfl (by kernel_rfl) (by kernel_rfl) (by kernel_rfl) (fun _ _ _ h => h) (Or.inl ⟨by rfl, fun w hw => by obtain ⟨a0, a1⟩ := box2 hw.1; go_simp⟩) hSwd ?_
                simp only [Act.put, List.getElem_toArray, List.getElem_cons_zero, List.getElem_cons_succ, List.setIfInBounds_toArray, List.set_cons_zero, List.set_cons_succ]
                refine wpAnyH_take (i := 4) (v := .pointer (some ⟨bF, 0, none⟩)) rfl (by kernel_rfl) (by kernel_rfl) (by kernel_rfl) (fun _ _ _ h => h) (Or.inl ⟨by rfl, fun w hw => by go_simp⟩) hSwd ?_
                simp only [Act.put, List.getElem_toArray, List.getElem_cons_zero, List.getElem_cons_succ, List.setIfInBounds_toArray, List.set_cons_zero, List.set_cons_succ]
                refine wpAnyH_take (i := 5) (v := .pointer (some ⟨bF, 4, none⟩)) rfl (by kernel_rfl) (by kernel_rfl) (by kernel_rfl) (fun _ _ _ h => h) (Or.inl ⟨by rfl, fun w hw => by go_simp⟩) hSwd ?_
                simp only [Act.put, List.getElem_toArray, List.getElem_cons_zero, List.getElem_cons_succ, List.setIfInBounds_toArray, List.set_cons_zero, List.set_cons_succ]
                refine wpAnyH_all (rs := [6, 7]) (by kernel_rfl) (by simp) ?_
                intro io hio
                rcases (by simpa using hio : io = 6 ∨ io = 7) with rfl | rfl
                · skip
                  have gv1x : wd.cell? ⟨bF, 4, none⟩ = some (.slice A k cA) := by rw [blk_cell hGwd.f]; rfl
                  refine wpOp_ran (w' := wd) (v := .slice A k cA) rfl (by rfl) (by go_simp) ⟨hSwd, ?_⟩
                  simp only [Act.put, List.getElem_toArray, List.getElem_cons_zero, List.getElem_cons_succ, List.setIfInBounds_toArray, List.set_cons_zero, List.set_cons_succ]
                  refine wpAnyH_all (rs := [7]) (by kernel_rfl) (by simp) ?_
                  intro io hio
                  rcases (by simpa using hio : io = 7) with rfl
                  refine wpOp_call rfl (by rfl) (f := 26) (args := #[.int .u64 1000000]) (by first | rfl | go_simp) (hc26.out 1000000 wd) ?_
                  rintro e v2x ⟨rfl, hbv2x⟩
                  have hGv2x := hGwd.go hbv2x
                  have hBv2x := Below.next hBwd hbv2x
                  have hSv2x : SB bF p11 v2x := ⟨hGv2x.l, _, hGv2x.f⟩
                  refine ⟨_, rfl, hSv2x, ?_⟩
                  simp only [Act.put, List.getElem_toArray, List.getElem_cons_zero, List.getElem_cons_succ, List.setIfInBounds_toArray, List.set_cons_zero, List.set_cons_succ]
                  refine wpAnyH_take (i := 8) (v := .agg lgA) rfl (by kernel_rfl) (by kernel_rfl) (by kernel_rfl) (fun _ _ _ h => h) (Or.inl ⟨by rfl, fun w hw => run_builtL rfl rfl rfl rfl w⟩) hSv2x ?_
                  simp only [Act.put, List.getElem_toArray, List.getElem_cons_zero, List.getElem_cons_succ, List.setIfInBounds_toArray, List.set_cons_zero, List.set_cons_succ]
                  refine wpAnyH_all (rs := [9]) (by kernel_rfl) (by simp) ?_
                  intro io hio
                  rcases (by simpa using hio : io = 9) with rfl
                  obtain ⟨v3x, hwv3x, hbv3x, hNv3x⟩ := alloc_named v2x lgA 50
                  obtain ⟨q3y, hq3y⟩ : ∃ n, v2x.heap.size = n := ⟨_, rfl⟩
                  have hGv3x := hGv2x.go hbv3x
                  have hBv3x := Below.next hBv2x hbv3x
                  have hSv3x : SB bF p11 v3x := ⟨hGv3x.l, _, hGv3x.f⟩
                  have hQv3x := hNv3x
                  rw [hq3y] at hQv3x
                  refine wpOp_one50 lgA rfl (by rfl) rfl rfl rfl ?_
                  rw [hwv3x, hq3y]
                  refine ⟨hSv3x, ?_⟩
                  simp only [Act.put, List.getElem_toArray, List.getElem_cons_zero, List.getElem_cons_succ, List.setIfInBounds_toArray, List.set_cons_zero, List.set_cons_succ]
                  refine wpAnyH_all (rs := [10]) (by kernel_rfl) (by simp) ?_
                  intro io hio
                  rcases (by simpa using hio : io = 10) with rfl
                  refine wpOp_append50 (ad := ⟨q3y, 0, none⟩) (m := 1) (c := 1) (news := lgA.toList) rfl (by rfl) rfl rfl hGv3x.o rfl rfl (blk_cells hQv3x) ones_l (by omega) hGv3x.z ?_
                  intro vv4x v4x hOv4x hgv4x
                  obtain ⟨gv4x, cv4x, rfl⟩ := own_some hOv4x (by omega)
                  have hlv4x := grown_blk hGv3x.o hgv4x hGv3x.l hpz.out
                  have hfv4x := grown_blk hGv3x.o hgv4x hGv3x.f hbz.out
                  have hBv4x := grown_bel hGv3x.o hgv4x hBv3x hlo13.out hBv3x.size
                  have hSv4x : SB bF p11 v4x := ⟨hlv4x, _, hfv4x⟩
                  refine ⟨hSv4x, ?_⟩
                  simp only [Act.put, List.getElem_toArray, List.getElem_cons_zero, List.getElem_cons_succ, List.setIfInBounds_toArray, List.set_cons_zero, List.set_cons_succ]
                  refine wpAnyH_take (i := 11) (v := .pointer (some ⟨bF, 0, none⟩)) rfl (by kernel_rfl) (by kernel_rfl) (by kernel_rfl) (fun _ _ _ h => h) (Or.inl ⟨by rfl, fun w hw => by go_simp⟩) hSv4x ?_
                  simp only [Act.put, List.getElem_toArray, List.getElem_cons_zero, List.getElem_cons_succ, List.setIfInBounds_toArray, List.set_cons_zero, List.set_cons_succ]
                  refine wpAnyH_take (i := 12) (v := .pointer (some ⟨bF, 4, none⟩)) rfl (by kernel_rfl) (by kernel_rfl) (by kernel_rfl) (fun _ _ _ h => h) (Or.inl ⟨by rfl, fun w hw => by go_simp⟩) hSv4x ?_
                  simp only [Act.put, List.getElem_toArray, List.getElem_cons_zero, List.getElem_cons_succ, List.setIfInBounds_toArray, List.set_cons_zero, List.set_cons_succ]
                  refine wpAnyH_all (rs := [13]) (by kernel_rfl) (by simp) ?_
                  intro io hio
                  rcases (by simpa using hio : io = 13) with rfl
                  have hf2v4x := setF (u := .slice (some ⟨gv4x, 0, none⟩) (k + 1) cv4x) hfv4x
                  have hl2v4x := (setF_oth (w := v4x) (b := bF) (o := 4) (u := .slice (some ⟨gv4x, 0, none⟩) (k + 1) cv4x) (x := p11) (by have := hFL.out; omega)).trans hlv4x
                  refine wpOp_skip rfl (by rfl) (run_store48 rfl bF _ _ _ rfl rfl v4x hfv4x) ⟨⟨hl2v4x, _, hf2v4x⟩, ?_⟩
                  simp only [Act.put, List.getElem_toArray, List.getElem_cons_zero, List.getElem_cons_succ, List.setIfInBounds_toArray, List.set_cons_zero, List.set_cons_succ]
                  refine wpAnyH_done (by kernel_rfl) ?_ _
                  have hfin : LG bF p11 W13.heap.size (k + 1) (.slice (some ⟨gv4x, 0, none⟩) (k + 1) cv4x) (v4x.setCell ⟨bF, 4, none⟩ (.slice (some ⟨gv4x, 0, none⟩) (k + 1) cv4x)) := ⟨hl2v4x, hf2v4x, by rw [bdC_succ]; exact setF_own hOv4x hbz.out, Nat.le_trans hGv3x.z (by simp; exact hgv4x.size)⟩
                  have hBfin := hBv4x.setCell (p := ⟨bF, 4, none⟩) hlo.out (.slice (some ⟨gv4x, 0, none⟩) (k + 1) cv4x)
                  have hfin := Lib.hid hfin
                  have hBfin := Lib.hid hBfin
                  generalize v4x.setCell ⟨bF, 4, none⟩ (.slice (some ⟨gv4x, 0, none⟩) (k + 1) cv4x) = wz at hfin hBfin ⊢
                  go_wp2
                  go_roundg g2
                  case measure => omega
                  case rel => exact ⟨k + 1, _, by omega, by go_num, hfin.out, hBfin.out⟩
                · skip
                  refine wpOp_call rfl (by rfl) (f := 26) (args := #[.int .u64 1000000]) (by first | rfl | go_simp) (hc26.out 1000000 wd) ?_
                  rintro e v5x ⟨rfl, hbv5x⟩
                  have hGv5x := hGwd.go hbv5x
                  have hBv5x := Below.next hBwd hbv5x
                  have hSv5x : SB bF p11 v5x := ⟨hGv5x.l, _, hGv5x.f⟩
                  refine ⟨_, rfl, hSv5x, ?_⟩
                  simp only [Act.put, List.getElem_toArray, List.getElem_cons_zero, List.getElem_cons_succ, List.setIfInBounds_toArray, List.set_cons_zero, List.set_cons_succ]
                  refine wpAnyH_take (i := 8) (v := .agg lgA) rfl (by kernel_rfl) (by kernel_rfl) (by kernel_rfl) (fun _ _ _ h => h) (Or.inl ⟨by rfl, fun w hw => run_builtL rfl rfl rfl rfl w⟩) hSv5x ?_
                  simp only [Act.put, List.getElem_toArray, List.getElem_cons_zero, List.getElem_cons_succ, List.setIfInBounds_toArray, List.set_cons_zero, List.set_cons_succ]
                  refine wpAnyH_all (rs := [6, 9]) (by kernel_rfl) (by simp) ?_
                  intro io hio
                  rcases (by simpa using hio : io = 6 ∨ io = 9) with rfl | rfl
                  · skip
                    have gv6x : v5x.cell? ⟨bF, 4, none⟩ = some (.slice A k cA) := by rw [blk_cell hGv5x.f]; rfl
                    refine wpOp_ran (w' := v5x) (v := .slice A k cA) rfl (by rfl) (by go_simp) ⟨hSv5x, ?_⟩
                    simp only [Act.put, List.getElem_toArray, List.getElem_cons_zero, List.getElem_cons_succ, List.setIfInBounds_toArray, List.set_cons_zero, List.set_cons_succ]
                    refine wpAnyH_all (rs := [9]) (by kernel_rfl) (by simp) ?_
                    intro io hio
                    rcases (by simpa using hio : io = 9) with rfl
                    obtain ⟨v7x, hwv7x, hbv7x, hNv7x⟩ := alloc_named v5x lgA 50
                    obtain ⟨q7y, hq7y⟩ : ∃ n, v5x.heap.size = n := ⟨_, rfl⟩
                    have hGv7x := hGv5x.go hbv7x
                    have hBv7x := Below.next hBv5x hbv7x
                    have hSv7x : SB bF p11 v7x := ⟨hGv7x.l, _, hGv7x.f⟩
                    have hQv7x := hNv7x
                    rw [hq7y] at hQv7x
                    refine wpOp_one50 lgA rfl (by rfl) rfl rfl rfl ?_
                    rw [hwv7x, hq7y]
                    refine ⟨hSv7x, ?_⟩
                    simp only [Act.put, List.getElem_toArray, List.getElem_cons_zero, List.getElem_cons_succ, List.setIfInBounds_toArray, List.set_cons_zero, List.set_cons_succ]
                    refine wpAnyH_all (rs := [10]) (by kernel_rfl) (by simp) ?_
                    intro io hio
                    rcases (by simpa using hio : io = 10) with rfl
                    refine wpOp_append50 (ad := ⟨q7y, 0, none⟩) (m := 1) (c := 1) (news := lgA.toList) rfl (by rfl) rfl rfl hGv7x.o rfl rfl (blk_cells hQv7x) ones_l (by omega) hGv7x.z ?_
                    intro vv8x v8x hOv8x hgv8x
                    obtain ⟨gv8x, cv8x, rfl⟩ := own_some hOv8x (by omega)
                    have hlv8x := grown_blk hGv7x.o hgv8x hGv7x.l hpz.out
                    have hfv8x := grown_blk hGv7x.o hgv8x hGv7x.f hbz.out
                    have hBv8x := grown_bel hGv7x.o hgv8x hBv7x hlo13.out hBv7x.size
                    have hSv8x : SB bF p11 v8x := ⟨hlv8x, _, hfv8x⟩
                    refine ⟨hSv8x, ?_⟩
                    simp only [Act.put, List.getElem_toArray, List.getElem_cons_zero, List.getElem_cons_succ, List.setIfInBounds_toArray, List.set_cons_zero, List.set_cons_succ]
                    refine wpAnyH_take (i := 11) (v := .pointer (some ⟨bF, 0, none⟩)) rfl (by kernel_rfl) (by kernel_rfl) (by kernel_rfl) (fun _ _ _ h => h) (Or.inl ⟨by rfl, fun w hw => by go_simp⟩) hSv8x ?_
                    simp only [Act.put, List.getElem_toArray, List.getElem_cons_zero, List.getElem_cons_succ, List.setIfInBounds_toArray, List.set_cons_zero, List.set_cons_succ]
                    refine wpAnyH_take (i := 12) (v := .pointer (some ⟨bF, 4, none⟩)) rfl (by kernel_rfl) (by kernel_rfl) (by kernel_rfl) (fun _ _ _ h => h) (Or.inl ⟨by rfl, fun w hw => by go_simp⟩) hSv8x ?_
                    simp only [Act.put, List.getElem_toArray, List.getElem_cons_zero, List.getElem_cons_succ, List.setIfInBounds_toArray, List.set_cons_zero, List.set_cons_succ]
                    refine wpAnyH_all (rs := [13]) (by kernel_rfl) (by simp) ?_
                    intro io hio
                    rcases (by simpa using hio : io = 13) with rfl
                    have hf2v8x := setF (u := .slice (some ⟨gv8x, 0, none⟩) (k + 1) cv8x) hfv8x
                    have hl2v8x := (setF_oth (w := v8x) (b := bF) (o := 4) (u := .slice (some ⟨gv8x, 0, none⟩) (k + 1) cv8x) (x := p11) (by have := hFL.out; omega)).trans hlv8x
                    refine wpOp_skip rfl (by rfl) (run_store48 rfl bF _ _ _ rfl rfl v8x hfv8x) ⟨⟨hl2v8x, _, hf2v8x⟩, ?_⟩
                    simp only [Act.put, List.getElem_toArray, List.getElem_cons_zero, List.getElem_cons_succ, List.setIfInBounds_toArray, List.set_cons_zero, List.set_cons_succ]
                    refine wpAnyH_done (by kernel_rfl) ?_ _
                    have hfin : LG bF p11 W13.heap.size (k + 1) (.slice (some ⟨gv8x, 0, none⟩) (k + 1) cv8x) (v8x.setCell ⟨bF, 4, none⟩ (.slice (some ⟨gv8x, 0, none⟩) (k + 1) cv8x)) := ⟨hl2v8x, hf2v8x, by rw [bdC_succ]; exact setF_own hOv8x hbz.out, Nat.le_trans hGv7x.z (by simp; exact hgv8x.size)⟩
                    have hBfin := hBv8x.setCell (p := ⟨bF, 4, none⟩) hlo.out (.slice (some ⟨gv8x, 0, none⟩) (k + 1) cv8x)
                    have hfin := Lib.hid hfin
                    have hBfin := Lib.hid hBfin
                    generalize v8x.setCell ⟨bF, 4, none⟩ (.slice (some ⟨gv8x, 0, none⟩) (k + 1) cv8x) = wz at hfin hBfin ⊢
                    go_wp2
                    go_roundg g2
                    case measure => omega
                    case rel => exact ⟨k + 1, _, by omega, by go_num, hfin.out, hBfin.out⟩
                  · skip
                    obtain ⟨v9x, hwv9x, hbv9x, hNv9x⟩ := alloc_named v5x lgA 50
                    obtain ⟨q9y, hq9y⟩ : ∃ n, v5x.heap.size = n := ⟨_, rfl⟩
                    have hGv9x := hGv5x.go hbv9x
                    have hBv9x := Below.next hBv5x hbv9x
                    have hSv9x : SB bF p11 v9x := ⟨hGv9x.l, _, hGv9x.f⟩
                    have hQv9x := hNv9x
                    rw [hq9y] at hQv9x
                    refine wpOp_one50 lgA rfl (by rfl) rfl rfl rfl ?_
                    rw [hwv9x, hq9y]
                    refine ⟨hSv9x, ?_⟩
                    simp only [Act.put, List.getElem_toArray, List.getElem_cons_zero, List.getElem_cons_succ, List.setIfInBounds_toArray, List.set_cons_zero, List.set_cons_succ]
                    refine wpAnyH_all (rs := [6]) (by kernel_rfl) (by simp) ?_
                    intro io hio
                    rcases (by simpa using hio : io = 6) with rfl
                    have gv10x : v9x.cell? ⟨bF, 4, none⟩ = some (.slice A k cA) := by rw [blk_cell hGv9x.f]; rfl
                    refine wpOp_ran (w' := v9x) (v := .slice A k cA) rfl (by rfl) (by go_simp) ⟨hSv9x, ?_⟩
                    simp only [Act.put, List.getElem_toArray, List.getElem_cons_zero, List.getElem_cons_succ, List.setIfInBounds_toArray, List.set_cons_zero, List.set_cons_succ]
                    refine wpAnyH_all (rs := [10]) (by kernel_rfl) (by simp) ?_
                    intro io hio
                    rcases (by simpa using hio : io = 10) with rfl
                    refine wpOp_append50 (ad := ⟨q9y, 0, none⟩) (m := 1) (c := 1) (news := lgA.toList) rfl (by rfl) rfl rfl hGv9x.o rfl rfl (blk_cells hQv9x) ones_l (by omega) hGv9x.z ?_
                    intro vv11x v11x hOv11x hgv11x
                    obtain ⟨gv11x, cv11x, rfl⟩ := own_some hOv11x (by omega)
                    have hlv11x := grown_blk hGv9x.o hgv11x hGv9x.l hpz.out
                    have hfv11x := grown_blk hGv9x.o hgv11x hGv9x.f hbz.out
                    have hBv11x := grown_bel hGv9x.o hgv11x hBv9x hlo13.out hBv9x.size
                    have hSv11x : SB bF p11 v11x := ⟨hlv11x, _, hfv11x⟩
                    refine ⟨hSv11x, ?_⟩
                    simp only [Act.put, List.getElem_toArray, List.getElem_cons_zero, List.getElem_cons_succ, List.setIfInBounds_toArray, List.set_cons_zero, List.set_cons_succ]
                    refine wpAnyH_take (i := 11) (v := .pointer (some ⟨bF, 0, none⟩)) rfl (by kernel_rfl) (by kernel_rfl) (by kernel_rfl) (fun _ _ _ h => h) (Or.inl ⟨by rfl, fun w hw => by go_simp⟩) hSv11x ?_
                    simp only [Act.put, List.getElem_toArray, List.getElem_cons_zero, List.getElem_cons_succ, List.setIfInBounds_toArray, List.set_cons_zero, List.set_cons_succ]
                    refine wpAnyH_take (i := 12) (v := .pointer (some ⟨bF, 4, none⟩)) rfl (by kernel_rfl) (by kernel_rfl) (by kernel_rfl) (fun _ _ _ h => h) (Or.inl ⟨by rfl, fun w hw => by go_simp⟩) hSv11x ?_
                    simp only [Act.put, List.getElem_toArray, List.getElem_cons_zero, List.getElem_cons_succ, List.setIfInBounds_toArray, List.set_cons_zero, List.set_cons_succ]
                    refine wpAnyH_all (rs := [13]) (by kernel_rfl) (by simp) ?_
                    intro io hio
                    rcases (by simpa using hio : io = 13) with rfl
                    have hf2v11x := setF (u := .slice (some ⟨gv11x, 0, none⟩) (k + 1) cv11x) hfv11x
                    have hl2v11x := (setF_oth (w := v11x) (b := bF) (o := 4) (u := .slice (some ⟨gv11x, 0, none⟩) (k + 1) cv11x) (x := p11) (by have := hFL.out; omega)).trans hlv11x
                    refine wpOp_skip rfl (by rfl) (run_store48 rfl bF _ _ _ rfl rfl v11x hfv11x) ⟨⟨hl2v11x, _, hf2v11x⟩, ?_⟩
                    simp only [Act.put, List.getElem_toArray, List.getElem_cons_zero, List.getElem_cons_succ, List.setIfInBounds_toArray, List.set_cons_zero, List.set_cons_succ]
                    refine wpAnyH_done (by kernel_rfl) ?_ _
                    have hfin : LG bF p11 W13.heap.size (k + 1) (.slice (some ⟨gv11x, 0, none⟩) (k + 1) cv11x) (v11x.setCell ⟨bF, 4, none⟩ (.slice (some ⟨gv11x, 0, none⟩) (k + 1) cv11x)) := ⟨hl2v11x, hf2v11x, by rw [bdC_succ]; exact setF_own hOv11x hbz.out, Nat.le_trans hGv9x.z (by simp; exact hgv11x.size)⟩
                    have hBfin := hBv11x.setCell (p := ⟨bF, 4, none⟩) hlo.out (.slice (some ⟨gv11x, 0, none⟩) (k + 1) cv11x)
                    have hfin := Lib.hid hfin
                    have hBfin := Lib.hid hBfin
                    generalize v11x.setCell ⟨bF, 4, none⟩ (.slice (some ⟨gv11x, 0, none⟩) (k + 1) cv11x) = wz at hfin hBfin ⊢
                    go_wp2
                    go_roundg g2
                    case measure => omega
                    case rel => exact ⟨k + 1, _, by omega, by go_num, hfin.out, hBfin.out⟩
            | true =>
              as_aux_lemma =>
                go_upto_region 14 with fail
                go_cut [54, 55, 57] (fun s54 s55 s57 wx => ∃ g c : Nat, s54 = .agg lgA ∧ s55 = .int .i64 (k : Int) ∧ s57 = .slice (some ⟨g, 0, none⟩) (k + 1) c ∧ LZ bF p11 W13.heap.size k (.slice (some ⟨g, 0, none⟩) (k + 1) c) wx ∧ Below W10.heap.size W10 wx)
                case first =>
                  as_aux_lemma =>
                    skip

                    have hG0 : LG bF p11 W13.heap.size k (.slice A k cA) ({ wc with drawn := wc.drawn + 1 } : World) := ⟨hlg2.out.l, hlg2.out.f, hlg2.out.o, hlg2.out.z⟩
                    have hB0 : Below W10.heap.size W10 ({ wc with drawn := wc.drawn + 1 } : World) := below_drew1 hbr2.out
                    refine wp_region_held (S := SB bF p11) (by kernel_rfl) ?_
                    generalize ({ wc with drawn := wc.drawn + 1 } : World) = wd at hG0 hB0 ⊢
                    have hGwd := hG0
                    have hBwd := hB0
                    have hSwd : SB bF p11 wd := ⟨hG0.l, _, hG0.f⟩
                    refine wpAnyH_take (i := 0) (v := .pointer (some ⟨p11, 1, none⟩)) rfl (by kernel_rfl) (by kernel_rfl) (by kernel_rfl) (fun _ _ _ h => h) (Or.inl ⟨by rfl, fun w hw => by go_simp⟩) hSwd ?_
                    simp only [Act.put, List.getElem_toArray, List.getElem_cons_zero, List.getElem_cons_succ, List.setIfInBounds_toArray, List.set_cons_zero, List.set_cons_succ]
                    refine wpAnyH_take (i := 1) (v := .slice (some ⟨bF, 0, none⟩) 1 1) rfl (by kernel_rfl) (by kernel_rfl) (by kernel_rfl) (fun _ _ _ h => h) (Or.inl ⟨by rfl, fun w hw => by obtain ⟨a0, a1⟩ := box2 hw.1; go_simp⟩) hSwd ?_
                    simp only [Act.put, List.getElem_toArray, List.getElem_cons_zero, List.getElem_cons_succ, List.setIfInBounds_toArray, List.set_cons_zero, List.set_cons_succ]
                    refine wpAnyH_take (i := 2) (v := .pointer (some ⟨bF, 0, none⟩)) rfl (by kernel_rfl) (by kernel_rfl) (by kernel_rfl) (fun _ _ _ h => h) (Or.inl ⟨by rfl, fun w hw => by go_simp⟩) hSwd ?_
                    simp only [Act.put, List.getElem_toArray, List.getElem_cons_zero, List.getElem_cons_succ, List.setIfInBounds_toArray, List.set_cons_zero, List.set_cons_succ]
                    refine wpAnyH_take (i := 3) (v := .pointer (some ⟨bF, 4, none⟩)) rfl (by kernel_rfl) (by kernel_rfl) (by kernel_rfl) (fun _ _ _ h => h) (Or.inl ⟨by rfl, fun w hw => by go_simp⟩) hSwd ?_
                    simp only [Act.put, List.getElem_toArray, List.getElem_cons_zero, List.getElem_cons_succ, List.setIfInBounds_toArray, List.set_cons_zero, List.set_cons_succ]
                    refine wpAnyH_all (rs := [4, 5, 8]) (by kernel_rfl) (by simp) ?_
                    intro io hio
                    rcases (by simpa using hio : io = 4 ∨ io = 5 ∨ io = 8) with rfl | rfl | rfl
                    · skip
                      have gv1x : wd.cell? ⟨bF, 4, none⟩ = some (.slice A k cA) := by rw [blk_cell hGwd.f]; rfl
                      refine wpOp_ran (w' := wd) (v := .slice A k cA) rfl (by rfl) (by go_simp) ⟨hSwd, ?_⟩
                      simp only [Act.put, List.getElem_toArray, List.getElem_cons_zero, List.getElem_cons_succ, List.setIfInBounds_toArray, List.set_cons_zero, List.set_cons_succ]
                      refine wpAnyH_take (i := 7) (v := .int .i64 (k : Int)) rfl (by kernel_rfl) (by kernel_rfl) (by kernel_rfl) (fun _ _ _ h => h) (Or.inl ⟨by rfl, fun w hw => by go_simp⟩) hSwd ?_
                      simp only [Act.put, List.getElem_toArray, List.getElem_cons_zero, List.getElem_cons_succ, List.setIfInBounds_toArray, List.set_cons_zero, List.set_cons_succ]
                      refine wpAnyH_all (rs := [5, 8]) (by kernel_rfl) (by simp) ?_
                      intro io hio
                      rcases (by simpa using hio : io = 5 ∨ io = 8) with rfl | rfl
                      · skip
                        refine wpOp_call rfl (by rfl) (f := 26) (args := #[.int .u64 1000000]) (by first | rfl | go_simp) (hc26.out 1000000 wd) ?_
                        rintro e v2x ⟨rfl, hbv2x⟩
                        have hGv2x := hGwd.go hbv2x
                        have hBv2x := Below.next hBwd hbv2x
                        have hSv2x : SB bF p11 v2x := ⟨hGv2x.l, _, hGv2x.f⟩
                        refine ⟨_, rfl, hSv2x, ?_⟩
                        simp only [Act.put, List.getElem_toArray, List.getElem_cons_zero, List.getElem_cons_succ, List.setIfInBounds_toArray, List.set_cons_zero, List.set_cons_succ]
                        refine wpAnyH_take (i := 6) (v := .agg lgA) rfl (by kernel_rfl) (by kernel_rfl) (by kernel_rfl) (fun _ _ _ h => h) (Or.inl ⟨by rfl, fun w hw => run_builtL rfl rfl rfl rfl w⟩) hSv2x ?_
                        simp only [Act.put, List.getElem_toArray, List.getElem_cons_zero, List.getElem_cons_succ, List.setIfInBounds_toArray, List.set_cons_zero, List.set_cons_succ]
                        refine wpAnyH_all (rs := [8]) (by kernel_rfl) (by simp) ?_
                        intro io hio
                        rcases (by simpa using hio : io = 8) with rfl
                        obtain ⟨v3x, hwv3x, hbv3x, hNv3x⟩ := alloc_named v2x zero50 50
                        obtain ⟨q3y, hq3y⟩ : ∃ n, v2x.heap.size = n := ⟨_, rfl⟩
                        have hGv3x := hGv2x.go hbv3x
                        have hBv3x := Below.next hBv2x hbv3x
                        have hSv3x : SB bF p11 v3x := ⟨hGv3x.l, _, hGv3x.f⟩
                        have hQv3x := hNv3x
                        rw [hq3y] at hQv3x
                        refine wpOp_one50 zero50 rfl (by rfl) rfl rfl rfl ?_
                        rw [hwv3x, hq3y]
                        refine ⟨hSv3x, ?_⟩
                        simp only [Act.put, List.getElem_toArray, List.getElem_cons_zero, List.getElem_cons_succ, List.setIfInBounds_toArray, List.set_cons_zero, List.set_cons_succ]
                        refine wpAnyH_all (rs := [9]) (by kernel_rfl) (by simp) ?_
                        intro io hio
                        rcases (by simpa using hio : io = 9) with rfl
                        refine wpOp_append50 (ad := ⟨q3y, 0, none⟩) (m := 1) (c := 1) (news := zero50.toList) rfl (by rfl) rfl rfl hGv3x.o rfl rfl (blk_cells hQv3x) ones_z (by omega) hGv3x.z ?_
                        intro vv4x v4x hOv4x hgv4x
                        obtain ⟨gv4x, cv4x, rfl⟩ := own_some hOv4x (by omega)
                        have hlv4x := grown_blk hGv3x.o hgv4x hGv3x.l hpz.out
                        have hfv4x := grown_blk hGv3x.o hgv4x hGv3x.f hbz.out
                        have hBv4x := grown_bel hGv3x.o hgv4x hBv3x hlo13.out hBv3x.size
                        have hSv4x : SB bF p11 v4x := ⟨hlv4x, _, hfv4x⟩
                        refine ⟨hSv4x, ?_⟩
                        simp only [Act.put, List.getElem_toArray, List.getElem_cons_zero, List.getElem_cons_succ, List.setIfInBounds_toArray, List.set_cons_zero, List.set_cons_succ]
                        refine wpAnyH_take (i := 10) (v := .pointer (some ⟨bF, 0, none⟩)) rfl (by kernel_rfl) (by kernel_rfl) (by kernel_rfl) (fun _ _ _ h => h) (Or.inl ⟨by rfl, fun w hw => by go_simp⟩) hSv4x ?_
                        simp only [Act.put, List.getElem_toArray, List.getElem_cons_zero, List.getElem_cons_succ, List.setIfInBounds_toArray, List.set_cons_zero, List.set_cons_succ]
                        refine wpAnyH_take (i := 11) (v := .pointer (some ⟨bF, 4, none⟩)) rfl (by kernel_rfl) (by kernel_rfl) (by kernel_rfl) (fun _ _ _ h => h) (Or.inl ⟨by rfl, fun w hw => by go_simp⟩) hSv4x ?_
                        simp only [Act.put, List.getElem_toArray, List.getElem_cons_zero, List.getElem_cons_succ, List.setIfInBounds_toArray, List.set_cons_zero, List.set_cons_succ]
                        refine wpAnyH_all (rs := [12]) (by kernel_rfl) (by simp) ?_
                        intro io hio
                        rcases (by simpa using hio : io = 12) with rfl
                        have hf2v4x := setF (u := .slice (some ⟨gv4x, 0, none⟩) (k + 1) cv4x) hfv4x
                        have hl2v4x := (setF_oth (w := v4x) (b := bF) (o := 4) (u := .slice (some ⟨gv4x, 0, none⟩) (k + 1) cv4x) (x := p11) (by have := hFL.out; omega)).trans hlv4x
                        refine wpOp_skip rfl (by rfl) (run_store48 rfl bF _ _ _ rfl rfl v4x hfv4x) ⟨⟨hl2v4x, _, hf2v4x⟩, ?_⟩
                        simp only [Act.put, List.getElem_toArray, List.getElem_cons_zero, List.getElem_cons_succ, List.setIfInBounds_toArray, List.set_cons_zero, List.set_cons_succ]
                        refine wpAnyH_done (by kernel_rfl) ?_ _
                        go_wp2_with fail
                        go_meet
                        case rel => exact ⟨gv4x, cv4x, rfl, rfl, rfl, ⟨hl2v4x, hf2v4x, setF_own hOv4x hbz.out, Nat.le_trans hGv3x.z (by simp; exact hgv4x.size)⟩, hBv4x.setCell hlo.out _⟩
                      · skip
                        obtain ⟨v5x, hwv5x, hbv5x, hNv5x⟩ := alloc_named wd zero50 50
                        obtain ⟨q5y, hq5y⟩ : ∃ n, wd.heap.size = n := ⟨_, rfl⟩
                        have hGv5x := hGwd.go hbv5x
                        have hBv5x := Below.next hBwd hbv5x
                        have hSv5x : SB bF p11 v5x := ⟨hGv5x.l, _, hGv5x.f⟩
                        have hQv5x := hNv5x
                        rw [hq5y] at hQv5x
                        refine wpOp_one50 zero50 rfl (by rfl) rfl rfl rfl ?_
                        rw [hwv5x, hq5y]
                        refine ⟨hSv5x, ?_⟩
                        simp only [Act.put, List.getElem_toArray, List.getElem_cons_zero, List.getElem_cons_succ, List.setIfInBounds_toArray, List.set_cons_zero, List.set_cons_succ]
                        refine wpAnyH_all (rs := [5]) (by kernel_rfl) (by simp) ?_
                        intro io hio
                        rcases (by simpa using hio : io = 5) with rfl
                        refine wpOp_call rfl (by rfl) (f := 26) (args := #[.int .u64 1000000]) (by first | rfl | go_simp) (hc26.out 1000000 v5x) ?_
                        rintro e v6x ⟨rfl, hbv6x⟩
                        have hGv6x := hGv5x.go hbv6x
                        have hBv6x := Below.next hBv5x hbv6x
                        have hSv6x : SB bF p11 v6x := ⟨hGv6x.l, _, hGv6x.f⟩
                        have hQv6x := (hbv6x.block _ (blk_lt hQv5x)).trans hQv5x
                        refine ⟨_, rfl, hSv6x, ?_⟩
                        simp only [Act.put, List.getElem_toArray, List.getElem_cons_zero, List.getElem_cons_succ, List.setIfInBounds_toArray, List.set_cons_zero, List.set_cons_succ]
                        refine wpAnyH_take (i := 6) (v := .agg lgA) rfl (by kernel_rfl) (by kernel_rfl) (by kernel_rfl) (fun _ _ _ h => h) (Or.inl ⟨by rfl, fun w hw => run_builtL rfl rfl rfl rfl w⟩) hSv6x ?_
                        simp only [Act.put, List.getElem_toArray, List.getElem_cons_zero, List.getElem_cons_succ, List.setIfInBounds_toArray, List.set_cons_zero, List.set_cons_succ]
                        refine wpAnyH_all (rs := [9]) (by kernel_rfl) (by simp) ?_
                        intro io hio
                        rcases (by simpa using hio : io = 9) with rfl
                        refine wpOp_append50 (ad := ⟨q5y, 0, none⟩) (m := 1) (c := 1) (news := zero50.toList) rfl (by rfl) rfl rfl hGv6x.o rfl rfl (blk_cells hQv6x) ones_z (by omega) hGv6x.z ?_
                        intro vv7x v7x hOv7x hgv7x
                        obtain ⟨gv7x, cv7x, rfl⟩ := own_some hOv7x (by omega)
                        have hlv7x := grown_blk hGv6x.o hgv7x hGv6x.l hpz.out
                        have hfv7x := grown_blk hGv6x.o hgv7x hGv6x.f hbz.out
                        have hBv7x := grown_bel hGv6x.o hgv7x hBv6x hlo13.out hBv6x.size
                        have hSv7x : SB bF p11 v7x := ⟨hlv7x, _, hfv7x⟩
                        refine ⟨hSv7x, ?_⟩
                        simp only [Act.put, List.getElem_toArray, List.getElem_cons_zero, List.getElem_cons_succ, List.setIfInBounds_toArray, List.set_cons_zero, List.set_cons_succ]
                        refine wpAnyH_take (i := 10) (v := .pointer (some ⟨bF, 0, none⟩)) rfl (by kernel_rfl) (by kernel_rfl) (by kernel_rfl) (fun _ _ _ h => h) (Or.inl ⟨by rfl, fun w hw => by go_simp⟩) hSv7x ?_
                        simp only [Act.put, List.getElem_toArray, List.getElem_cons_zero, List.getElem_cons_succ, List.setIfInBounds_toArray, List.set_cons_zero, List.set_cons_succ]
                        refine wpAnyH_take (i := 11) (v := .pointer (some ⟨bF, 4, none⟩)) rfl (by kernel_rfl) (by kernel_rfl) (by kernel_rfl) (fun _ _ _ h => h) (Or.inl ⟨by rfl, fun w hw => by go_simp⟩) hSv7x ?_
                        simp only [Act.put, List.getElem_toArray, List.getElem_cons_zero, List.getElem_cons_succ, List.setIfInBounds_toArray, List.set_cons_zero, List.set_cons_succ]
                        refine wpAnyH_all (rs := [12]) (by kernel_rfl) (by simp) ?_
                        intro io hio
                        rcases (by simpa using hio : io = 12) with rfl
                        have hf2v7x := setF (u := .slice (some ⟨gv7x, 0, none⟩) (k + 1) cv7x) hfv7x
                        have hl2v7x := (setF_oth (w := v7x) (b := bF) (o := 4) (u := .slice (some ⟨gv7x, 0, none⟩) (k + 1) cv7x) (x := p11) (by have := hFL.out; omega)).trans hlv7x
                        refine wpOp_skip rfl (by rfl) (run_store48 rfl bF _ _ _ rfl rfl v7x hfv7x) ⟨⟨hl2v7x, _, hf2v7x⟩, ?_⟩
                        simp only [Act.put, List.getElem_toArray, List.getElem_cons_zero, List.getElem_cons_succ, List.setIfInBounds_toArray, List.set_cons_zero, List.set_cons_succ]
                        refine wpAnyH_done (by kernel_rfl) ?_ _
                        go_wp2_with fail
                        go_meet
                        case rel => exact ⟨gv7x, cv7x, rfl, rfl, rfl, ⟨hl2v7x, hf2v7x, setF_own hOv7x hbz.out, Nat.le_trans hGv6x.z (by simp; exact hgv7x.size)⟩, hBv7x.setCell hlo.out _⟩
                    · skip
                      refine wpOp_call rfl (by rfl) (f := 26) (args := #[.int .u64 1000000]) (by first | rfl | go_simp) (hc26.out 1000000 wd) ?_
                      rintro e v8x ⟨rfl, hbv8x⟩
                      have hGv8x := hGwd.go hbv8x
                      have hBv8x := Below.next hBwd hbv8x
                      have hSv8x : SB bF p11 v8x := ⟨hGv8x.l, _, hGv8x.f⟩
                      refine ⟨_, rfl, hSv8x, ?_⟩
                      simp only [Act.put, List.getElem_toArray, List.getElem_cons_zero, List.getElem_cons_succ, List.setIfInBounds_toArray, List.set_cons_zero, List.set_cons_succ]
                      refine wpAnyH_take (i := 6) (v := .agg lgA) rfl (by kernel_rfl) (by kernel_rfl) (by kernel_rfl) (fun _ _ _ h => h) (Or.inl ⟨by rfl, fun w hw => run_builtL rfl rfl rfl rfl w⟩) hSv8x ?_
                      simp only [Act.put, List.getElem_toArray, List.getElem_cons_zero, List.getElem_cons_succ, List.setIfInBounds_toArray, List.set_cons_zero, List.set_cons_succ]
                      refine wpAnyH_all (rs := [4, 8]) (by kernel_rfl) (by simp) ?_
                      intro io hio
                      rcases (by simpa using hio : io = 4 ∨ io = 8) with rfl | rfl
                      · skip
                        have gv9x : v8x.cell? ⟨bF, 4, none⟩ = some (.slice A k cA) := by rw [blk_cell hGv8x.f]; rfl
                        refine wpOp_ran (w' := v8x) (v := .slice A k cA) rfl (by rfl) (by go_simp) ⟨hSv8x, ?_⟩
                        simp only [Act.put, List.getElem_toArray, List.getElem_cons_zero, List.getElem_cons_succ, List.setIfInBounds_toArray, List.set_cons_zero, List.set_cons_succ]
                        refine wpAnyH_take (i := 7) (v := .int .i64 (k : Int)) rfl (by kernel_rfl) (by kernel_rfl) (by kernel_rfl) (fun _ _ _ h => h) (Or.inl ⟨by rfl, fun w hw => by go_simp⟩) hSv8x ?_
                        simp only [Act.put, List.getElem_toArray, List.getElem_cons_zero, List.getElem_cons_succ, List.setIfInBounds_toArray, List.set_cons_zero, List.set_cons_succ]
                        refine wpAnyH_all (rs := [8]) (by kernel_rfl) (by simp) ?_
                        intro io hio
                        rcases (by simpa using hio : io = 8) with rfl
                        obtain ⟨v10x, hwv10x, hbv10x, hNv10x⟩ := alloc_named v8x zero50 50
                        obtain ⟨q10y, hq10y⟩ : ∃ n, v8x.heap.size = n := ⟨_, rfl⟩
                        have hGv10x := hGv8x.go hbv10x
                        have hBv10x := Below.next hBv8x hbv10x
                        have hSv10x : SB bF p11 v10x := ⟨hGv10x.l, _, hGv10x.f⟩
                        have hQv10x := hNv10x
                        rw [hq10y] at hQv10x
                        refine wpOp_one50 zero50 rfl (by rfl) rfl rfl rfl ?_
                        rw [hwv10x, hq10y]
                        refine ⟨hSv10x, ?_⟩
                        simp only [Act.put, List.getElem_toArray, List.getElem_cons_zero, List.getElem_cons_succ, List.setIfInBounds_toArray, List.set_cons_zero, List.set_cons_succ]
                        refine wpAnyH_all (rs := [9]) (by kernel_rfl) (by simp) ?_
                        intro io hio
                        rcases (by simpa using hio : io = 9) with rfl
                        refine wpOp_append50 (ad := ⟨q10y, 0, none⟩) (m := 1) (c := 1) (news := zero50.toList) rfl (by rfl) rfl rfl hGv10x.o rfl rfl (blk_cells hQv10x) ones_z (by omega) hGv10x.z ?_
                        intro vv11x v11x hOv11x hgv11x
                        obtain ⟨gv11x, cv11x, rfl⟩ := own_some hOv11x (by omega)
                        have hlv11x := grown_blk hGv10x.o hgv11x hGv10x.l hpz.out
                        have hfv11x := grown_blk hGv10x.o hgv11x hGv10x.f hbz.out
                        have hBv11x := grown_bel hGv10x.o hgv11x hBv10x hlo13.out hBv10x.size
                        have hSv11x : SB bF p11 v11x := ⟨hlv11x, _, hfv11x⟩
                        refine ⟨hSv11x, ?_⟩
                        simp only [Act.put, List.getElem_toArray, List.getElem_cons_zero, List.getElem_cons_succ, List.setIfInBounds_toArray, List.set_cons_zero, List.set_cons_succ]
                        refine wpAnyH_take (i := 10) (v := .pointer (some ⟨bF, 0, none⟩)) rfl (by kernel_rfl) (by kernel_rfl) (by kernel_rfl) (fun _ _ _ h => h) (Or.inl ⟨by rfl, fun w hw => by go_simp⟩) hSv11x ?_
                        simp only [Act.put, List.getElem_toArray, List.getElem_cons_zero, List.getElem_cons_succ, List.setIfInBounds_toArray, List.set_cons_zero, List.set_cons_succ]
                        refine wpAnyH_take (i := 11) (v := .pointer (some ⟨bF, 4, none⟩)) rfl (by kernel_rfl) (by kernel_rfl) (by kernel_rfl) (fun _ _ _ h => h) (Or.inl ⟨by rfl, fun w hw => by go_simp⟩) hSv11x ?_
                        simp only [Act.put, List.getElem_toArray, List.getElem_cons_zero, List.getElem_cons_succ, List.setIfInBounds_toArray, List.set_cons_zero, List.set_cons_succ]
                        refine wpAnyH_all (rs := [12]) (by kernel_rfl) (by simp) ?_
                        intro io hio
                        rcases (by simpa using hio : io = 12) with rfl
                        have hf2v11x := setF (u := .slice (some ⟨gv11x, 0, none⟩) (k + 1) cv11x) hfv11x
                        have hl2v11x := (setF_oth (w := v11x) (b := bF) (o := 4) (u := .slice (some ⟨gv11x, 0, none⟩) (k + 1) cv11x) (x := p11) (by have := hFL.out; omega)).trans hlv11x
                        refine wpOp_skip rfl (by rfl) (run_store48 rfl bF _ _ _ rfl rfl v11x hfv11x) ⟨⟨hl2v11x, _, hf2v11x⟩, ?_⟩
                        simp only [Act.put, List.getElem_toArray, List.getElem_cons_zero, List.getElem_cons_succ, List.setIfInBounds_toArray, List.set_cons_zero, List.set_cons_succ]
                        refine wpAnyH_done (by kernel_rfl) ?_ _
                        go_wp2_with fail
                        go_meet
                        case rel => exact ⟨gv11x, cv11x, rfl, rfl, rfl, ⟨hl2v11x, hf2v11x, setF_own hOv11x hbz.out, Nat.le_trans hGv10x.z (by simp; exact hgv11x.size)⟩, hBv11x.setCell hlo.out _⟩
                      · skip
                        obtain ⟨v12x, hwv12x, hbv12x, hNv12x⟩ := alloc_named v8x zero50 50
                        obtain ⟨q12y, hq12y⟩ : ∃ n, v8x.heap.size = n := ⟨_, rfl⟩
                        have hGv12x := hGv8x.go hbv12x
                        have hBv12x := Below.next hBv8x hbv12x
                        have hSv12x : SB bF p11 v12x := ⟨hGv12x.l, _, hGv12x.f⟩
                        have hQv12x := hNv12x
                        rw [hq12y] at hQv12x
                        refine wpOp_one50 zero50 rfl (by rfl) rfl rfl rfl ?_
                        rw [hwv12x, hq12y]
                        refine ⟨hSv12x, ?_⟩
                        simp only [Act.put, List.getElem_toArray, List.getElem_cons_zero, List.getElem_cons_succ, List.setIfInBounds_toArray, List.set_cons_zero, List.set_cons_succ]
                        refine wpAnyH_all (rs := [4]) (by kernel_rfl) (by simp) ?_
                        intro io hio
                        rcases (by simpa using hio : io = 4) with rfl
                        have gv13x : v12x.cell? ⟨bF, 4, none⟩ = some (.slice A k cA) := by rw [blk_cell hGv12x.f]; rfl
                        refine wpOp_ran (w' := v12x) (v := .slice A k cA) rfl (by rfl) (by go_simp) ⟨hSv12x, ?_⟩
                        simp only [Act.put, List.getElem_toArray, List.getElem_cons_zero, List.getElem_cons_succ, List.setIfInBounds_toArray, List.set_cons_zero, List.set_cons_succ]
                        refine wpAnyH_take (i := 7) (v := .int .i64 (k : Int)) rfl (by kernel_rfl) (by kernel_rfl) (by kernel_rfl) (fun _ _ _ h => h) (Or.inl ⟨by rfl, fun w hw => by go_simp⟩) hSv12x ?_
                        simp only [Act.put, List.getElem_toArray, List.getElem_cons_zero, List.getElem_cons_succ, List.setIfInBounds_toArray, List.set_cons_zero, List.set_cons_succ]
                        refine wpAnyH_all (rs := [9]) (by kernel_rfl) (by simp) ?_
                        intro io hio
                        rcases (by simpa using hio : io = 9) with rfl
                        refine wpOp_append50 (ad := ⟨q12y, 0, none⟩) (m := 1) (c := 1) (news := zero50.toList) rfl (by rfl) rfl rfl hGv12x.o rfl rfl (blk_cells hQv12x) ones_z (by omega) hGv12x.z ?_
                        intro vv14x v14x hOv14x hgv14x
                        obtain ⟨gv14x, cv14x, rfl⟩ := own_some hOv14x (by omega)
                        have hlv14x := grown_blk hGv12x.o hgv14x hGv12x.l hpz.out
                        have hfv14x := grown_blk hGv12x.o hgv14x hGv12x.f hbz.out
                        have hBv14x := grown_bel hGv12x.o hgv14x hBv12x hlo13.out hBv12x.size
                        have hSv14x : SB bF p11 v14x := ⟨hlv14x, _, hfv14x⟩
                        refine ⟨hSv14x, ?_⟩
                        simp only [Act.put, List.getElem_toArray, List.getElem_cons_zero, List.getElem_cons_succ, List.setIfInBounds_toArray, List.set_cons_zero, List.set_cons_succ]
                        refine wpAnyH_take (i := 10) (v := .pointer (some ⟨bF, 0, none⟩)) rfl (by kernel_rfl) (by kernel_rfl) (by kernel_rfl) (fun _ _ _ h => h) (Or.inl ⟨by rfl, fun w hw => by go_simp⟩) hSv14x ?_
                        simp only [Act.put, List.getElem_toArray, List.getElem_cons_zero, List.getElem_cons_succ, List.setIfInBounds_toArray, List.set_cons_zero, List.set_cons_succ]
                        refine wpAnyH_take (i := 11) (v := .pointer (some ⟨bF, 4, none⟩)) rfl (by kernel_rfl) (by kernel_rfl) (by kernel_rfl) (fun _ _ _ h => h) (Or.inl ⟨by rfl, fun w hw => by go_simp⟩) hSv14x ?_
                        simp only [Act.put, List.getElem_toArray, List.getElem_cons_zero, List.getElem_cons_succ, List.setIfInBounds_toArray, List.set_cons_zero, List.set_cons_succ]
                        refine wpAnyH_all (rs := [12]) (by kernel_rfl) (by simp) ?_
                        intro io hio
                        rcases (by simpa using hio : io = 12) with rfl
                        have hf2v14x := setF (u := .slice (some ⟨gv14x, 0, none⟩) (k + 1) cv14x) hfv14x
                        have hl2v14x := (setF_oth (w := v14x) (b := bF) (o := 4) (u := .slice (some ⟨gv14x, 0, none⟩) (k + 1) cv14x) (x := p11) (by have := hFL.out; omega)).trans hlv14x
                        refine wpOp_skip rfl (by rfl) (run_store48 rfl bF _ _ _ rfl rfl v14x hfv14x) ⟨⟨hl2v14x, _, hf2v14x⟩, ?_⟩
                        simp only [Act.put, List.getElem_toArray, List.getElem_cons_zero, List.getElem_cons_succ, List.setIfInBounds_toArray, List.set_cons_zero, List.set_cons_succ]
                        refine wpAnyH_done (by kernel_rfl) ?_ _
                        go_wp2_with fail
                        go_meet
                        case rel => exact ⟨gv14x, cv14x, rfl, rfl, rfl, ⟨hl2v14x, hf2v14x, setF_own hOv14x hbz.out, Nat.le_trans hGv12x.z (by simp; exact hgv14x.size)⟩, hBv14x.setCell hlo.out _⟩
                    · skip
                      obtain ⟨v15x, hwv15x, hbv15x, hNv15x⟩ := alloc_named wd zero50 50
                      obtain ⟨q15y, hq15y⟩ : ∃ n, wd.heap.size = n := ⟨_, rfl⟩
                      have hGv15x := hGwd.go hbv15x
                      have hBv15x := Below.next hBwd hbv15x
                      have hSv15x : SB bF p11 v15x := ⟨hGv15x.l, _, hGv15x.f⟩
                      have hQv15x := hNv15x
                      rw [hq15y] at hQv15x
                      refine wpOp_one50 zero50 rfl (by rfl) rfl rfl rfl ?_
                      rw [hwv15x, hq15y]
                      refine ⟨hSv15x, ?_⟩
                      simp only [Act.put, List.getElem_toArray, List.getElem_cons_zero, List.getElem_cons_succ, List.setIfInBounds_toArray, List.set_cons_zero, List.set_cons_succ]
                      refine wpAnyH_all (rs := [4, 5]) (by kernel_rfl) (by simp) ?_
                      intro io hio
                      rcases (by simpa using hio : io = 4 ∨ io = 5) with rfl | rfl
                      · skip
                        have gv16x : v15x.cell? ⟨bF, 4, none⟩ = some (.slice A k cA) := by rw [blk_cell hGv15x.f]; rfl
                        refine wpOp_ran (w' := v15x) (v := .slice A k cA) rfl (by rfl) (by go_simp) ⟨hSv15x, ?_⟩
                        simp only [Act.put, List.getElem_toArray, List.getElem_cons_zero, List.getElem_cons_succ, List.setIfInBounds_toArray, List.set_cons_zero, List.set_cons_succ]
                        refine wpAnyH_take (i := 7) (v := .int .i64 (k : Int)) rfl (by kernel_rfl) (by kernel_rfl) (by kernel_rfl) (fun _ _ _ h => h) (Or.inl ⟨by rfl, fun w hw => by go_simp⟩) hSv15x ?_
                        simp only [Act.put, List.getElem_toArray, List.getElem_cons_zero, List.getElem_cons_succ, List.setIfInBounds_toArray, List.set_cons_zero, List.set_cons_succ]
                        refine wpAnyH_all (rs := [5]) (by kernel_rfl) (by simp) ?_
                        intro io hio
                        rcases (by simpa using hio : io = 5) with rfl
                        refine wpOp_call rfl (by rfl) (f := 26) (args := #[.int .u64 1000000]) (by first | rfl | go_simp) (hc26.out 1000000 v15x) ?_
                        rintro e v17x ⟨rfl, hbv17x⟩
                        have hGv17x := hGv15x.go hbv17x
                        have hBv17x := Below.next hBv15x hbv17x
                        have hSv17x : SB bF p11 v17x := ⟨hGv17x.l, _, hGv17x.f⟩
                        have hQv17x := (hbv17x.block _ (blk_lt hQv15x)).trans hQv15x
                        refine ⟨_, rfl, hSv17x, ?_⟩
                        simp only [Act.put, List.getElem_toArray, List.getElem_cons_zero, List.getElem_cons_succ, List.setIfInBounds_toArray, List.set_cons_zero, List.set_cons_succ]
                        refine wpAnyH_take (i := 6) (v := .agg lgA) rfl (by kernel_rfl) (by kernel_rfl) (by kernel_rfl) (fun _ _ _ h => h) (Or.inl ⟨by rfl, fun w hw => run_builtL rfl rfl rfl rfl w⟩) hSv17x ?_
                        simp only [Act.put, List.getElem_toArray, List.getElem_cons_zero, List.getElem_cons_succ, List.setIfInBounds_toArray, List.set_cons_zero, List.set_cons_succ]
                        refine wpAnyH_all (rs := [9]) (by kernel_rfl) (by simp) ?_
                        intro io hio
                        rcases (by simpa using hio : io = 9) with rfl
                        refine wpOp_append50 (ad := ⟨q15y, 0, none⟩) (m := 1) (c := 1) (news := zero50.toList) rfl (by rfl) rfl rfl hGv17x.o rfl rfl (blk_cells hQv17x) ones_z (by omega) hGv17x.z ?_
                        intro vv18x v18x hOv18x hgv18x
                        obtain ⟨gv18x, cv18x, rfl⟩ := own_some hOv18x (by omega)
                        have hlv18x := grown_blk hGv17x.o hgv18x hGv17x.l hpz.out
                        have hfv18x := grown_blk hGv17x.o hgv18x hGv17x.f hbz.out
                        have hBv18x := grown_bel hGv17x.o hgv18x hBv17x hlo13.out hBv17x.size
                        have hSv18x : SB bF p11 v18x := ⟨hlv18x, _, hfv18x⟩
                        refine ⟨hSv18x, ?_⟩
                        simp only [Act.put, List.getElem_toArray, List.getElem_cons_zero, List.getElem_cons_succ, List.setIfInBounds_toArray, List.set_cons_zero, List.set_cons_succ]
                        refine wpAnyH_take (i := 10) (v := .pointer (some ⟨bF, 0, none⟩)) rfl (by kernel_rfl) (by kernel_rfl) (by kernel_rfl) (fun _ _ _ h => h) (Or.inl ⟨by rfl, fun w hw => by go_simp⟩) hSv18x ?_
                        simp only [Act.put, List.getElem_toArray, List.getElem_cons_zero, List.getElem_cons_succ, List.setIfInBounds_toArray, List.set_cons_zero, List.set_cons_succ]
                        refine wpAnyH_take (i := 11) (v := .pointer (some ⟨bF, 4, none⟩)) rfl (by kernel_rfl) (by kernel_rfl) (by kernel_rfl) (fun _ _ _ h => h) (Or.inl ⟨by rfl, fun w hw => by go_simp⟩) hSv18x ?_
                        simp only [Act.put, List.getElem_toArray, List.getElem_cons_zero, List.getElem_cons_succ, List.setIfInBounds_toArray, List.set_cons_zero, List.set_cons_succ]
                        refine wpAnyH_all (rs := [12]) (by kernel_rfl) (by simp) ?_
                        intro io hio
                        rcases (by simpa using hio : io = 12) with rfl
                        have hf2v18x := setF (u := .slice (some ⟨gv18x, 0, none⟩) (k + 1) cv18x) hfv18x
                        have hl2v18x := (setF_oth (w := v18x) (b := bF) (o := 4) (u := .slice (some ⟨gv18x, 0, none⟩) (k + 1) cv18x) (x := p11) (by have := hFL.out; omega)).trans hlv18x
                        refine wpOp_skip rfl (by rfl) (run_store48 rfl bF _ _ _ rfl rfl v18x hfv18x) ⟨⟨hl2v18x, _, hf2v18x⟩, ?_⟩
                        simp only [Act.put, List.getElem_toArray, List.getElem_cons_zero, List.getElem_cons_succ, List.setIfInBounds_toArray, List.set_cons_zero, List.set_cons_succ]
                        refine wpAnyH_done (by kernel_rfl) ?_ _
                        go_wp2_with fail
                        go_meet
                        case rel => exact ⟨gv18x, cv18x, rfl, rfl, rfl, ⟨hl2v18x, hf2v18x, setF_own hOv18x hbz.out, Nat.le_trans hGv17x.z (by simp; exact hgv18x.size)⟩, hBv18x.setCell hlo.out _⟩
                      · skip
                        refine wpOp_call rfl (by rfl) (f := 26) (args := #[.int .u64 1000000]) (by first | rfl | go_simp) (hc26.out 1000000 v15x) ?_
                        rintro e v19x ⟨rfl, hbv19x⟩
                        have hGv19x := hGv15x.go hbv19x
                        have hBv19x := Below.next hBv15x hbv19x
                        have hSv19x : SB bF p11 v19x := ⟨hGv19x.l, _, hGv19x.f⟩
                        have hQv19x := (hbv19x.block _ (blk_lt hQv15x)).trans hQv15x
                        refine ⟨_, rfl, hSv19x, ?_⟩
                        simp only [Act.put, List.getElem_toArray, List.getElem_cons_zero, List.getElem_cons_succ, List.setIfInBounds_toArray, List.set_cons_zero, List.set_cons_succ]
                        refine wpAnyH_take (i := 6) (v := .agg lgA) rfl (by kernel_rfl) (by kernel_rfl) (by kernel_rfl) (fun _ _ _ h => h) (Or.inl ⟨by rfl, fun w hw => run_builtL rfl rfl rfl rfl w⟩) hSv19x ?_
                        simp only [Act.put, List.getElem_toArray, List.getElem_cons_zero, List.getElem_cons_succ, List.setIfInBounds_toArray, List.set_cons_zero, List.set_cons_succ]
                        refine wpAnyH_all (rs := [4]) (by kernel_rfl) (by simp) ?_
                        intro io hio
                        rcases (by simpa using hio : io = 4) with rfl
                        have gv20x : v19x.cell? ⟨bF, 4, none⟩ = some (.slice A k cA) := by rw [blk_cell hGv19x.f]; rfl
                        refine wpOp_ran (w' := v19x) (v := .slice A k cA) rfl (by rfl) (by go_simp) ⟨hSv19x, ?_⟩
                        simp only [Act.put, List.getElem_toArray, List.getElem_cons_zero, List.getElem_cons_succ, List.setIfInBounds_toArray, List.set_cons_zero, List.set_cons_succ]
                        refine wpAnyH_take (i := 7) (v := .int .i64 (k : Int)) rfl (by kernel_rfl) (by kernel_rfl) (by kernel_rfl) (fun _ _ _ h => h) (Or.inl ⟨by rfl, fun w hw => by go_simp⟩) hSv19x ?_
                        simp only [Act.put, List.getElem_toArray, List.getElem_cons_zero, List.getElem_cons_succ, List.setIfInBounds_toArray, List.set_cons_zero, List.set_cons_succ]
                        refine wpAnyH_all (rs := [9]) (by kernel_rfl) (by simp) ?_
                        intro io hio
                        rcases (by simpa using hio : io = 9) with rfl
                        refine wpOp_append50 (ad := ⟨q15y, 0, none⟩) (m := 1) (c := 1) (news := zero50.toList) rfl (by rfl) rfl rfl hGv19x.o rfl rfl (blk_cells hQv19x) ones_z (by omega) hGv19x.z ?_
                        intro vv21x v21x hOv21x hgv21x
                        obtain ⟨gv21x, cv21x, rfl⟩ := own_some hOv21x (by omega)
                        have hlv21x := grown_blk hGv19x.o hgv21x hGv19x.l hpz.out
                        have hfv21x := grown_blk hGv19x.o hgv21x hGv19x.f hbz.out
                        have hBv21x := grown_bel hGv19x.o hgv21x hBv19x hlo13.out hBv19x.size
                        have hSv21x : SB bF p11 v21x := ⟨hlv21x, _, hfv21x⟩
                        refine ⟨hSv21x, ?_⟩
                        simp only [Act.put, List.getElem_toArray, List.getElem_cons_zero, List.getElem_cons_succ, List.setIfInBounds_toArray, List.set_cons_zero, List.set_cons_succ]
                        refine wpAnyH_take (i := 10) (v := .pointer (some ⟨bF, 0, none⟩)) rfl (by kernel_rfl) (by kernel_rfl) (by kernel_rfl) (fun _ _ _ h => h) (Or.inl ⟨by rfl, fun w hw => by go_simp⟩) hSv21x ?_
                        simp only [Act.put, List.getElem_toArray, List.getElem_cons_zero, List.getElem_cons_succ, List.setIfInBounds_toArray, List.set_cons_zero, List.set_cons_succ]
                        refine wpAnyH_take (i := 11) (v := .pointer (some ⟨bF, 4, none⟩)) rfl (by kernel_rfl) (by kernel_rfl) (by kernel_rfl) (fun _ _ _ h => h) (Or.inl ⟨by rfl, fun w hw => by go_simp⟩) hSv21x ?_
                        simp only [Act.put, List.getElem_toArray, List.getElem_cons_zero, List.getElem_cons_succ, List.setIfInBounds_toArray, List.set_cons_zero, List.set_cons_succ]
                        refine wpAnyH_all (rs := [12]) (by kernel_rfl) (by simp) ?_
                        intro io hio
                        rcases (by simpa using hio : io = 12) with rfl
                        have hf2v21x := setF (u := .slice (some ⟨gv21x, 0, none⟩) (k + 1) cv21x) hfv21x
                        have hl2v21x := (setF_oth (w := v21x) (b := bF) (o := 4) (u := .slice (some ⟨gv21x, 0, none⟩) (k + 1) cv21x) (x := p11) (by have := hFL.out; omega)).trans hlv21x
                        refine wpOp_skip rfl (by rfl) (run_store48 rfl bF _ _ _ rfl rfl v21x hfv21x) ⟨⟨hl2v21x, _, hf2v21x⟩, ?_⟩
                        simp only [Act.put, List.getElem_toArray, List.getElem_cons_zero, List.getElem_cons_succ, List.setIfInBounds_toArray, List.set_cons_zero, List.set_cons_succ]
                        refine wpAnyH_done (by kernel_rfl) ?_ _
                        go_wp2_with fail
                        go_meet
                        case rel => exact ⟨gv21x, cv21x, rfl, rfl, rfl, ⟨hl2v21x, hf2v21x, setF_own hOv21x hbz.out, Nat.le_trans hGv19x.z (by simp; exact hgv21x.size)⟩, hBv21x.setCell hlo.out _⟩
                case rest =>
                  obtain ⟨g, c, rfl, rfl, rfl, hz, hbz2⟩ := hcut
                  have hth : wc.there g (k * 16) lgA.size := fun j hj => by
                    have hj : j < 16 := hj
                    have hlen : (bdC k ++ zero50.toList).length = (k + 1) * 16 := hz.o.1
                    have hc := hz.o.cellAt (k * 16 + j) (by omega)
                    rw [List.getElem?_eq_getElem (by rw [hlen]; omega)] at hc
                    exact ⟨by rw [hc]; rfl, hz.o.frozenAt _⟩
                  obtain ⟨ho1, hg1⟩ := own_setCells lgA.toList (bdC k) zero50.toList [] wc (k * 16) (bdC_len k).symm rfl (by simpa using hz.o)
                  have ho1 : (wc.setCells g (k * 16) lgA.toList).ownsRow W13.heap.size 50 16 (.slice (some ⟨g, 0, none⟩) (k + 1) c) (k + 1) (bdC (k + 1)) := by rw [bdC_succ, ← lgA_list]; simpa using ho1
                  have hfin := Lib.hid (show LG bF p11 W13.heap.size (k + 1) (.slice (some ⟨g, 0, none⟩) (k + 1) c) (wc.setCells g (k * 16) lgA.toList) from ⟨grown_blk hz.o hg1 hz.l hpz.out, grown_blk hz.o hg1 hz.f hbz.out, ho1, Nat.le_trans hz.z hg1.size⟩)
                  have hBfin := Lib.hid (grown_bel hz.o hg1 hbz2 hlo13.out hbz2.size)
                  have hth := Lib.hid hth
                  clear ho1 hg1 hz hbz2
                  have hkg' := Lib.hid hkg
                  obtain ⟨m, hm⟩ : ∃ m, k + 1 = m := ⟨_, rfl⟩
                  rw [hm] at hfin
                  rw [hm]
                  have e1 : (k : Int) < (m : Int) := by omega
                  have hm := Lib.hid hm
                  obtain ⟨wz, hwz⟩ : ∃ wz, wc.setCells g (k * 16) lgA.toList = wz := ⟨_, rfl⟩
                  rw [hwz] at hfin hBfin
                  have hwz := Lib.hid hwz
                  clear hkg hk7
                  go_wp2_with (refine wpList_store_mid rfl 50 (.tmp 60) (.tmp 54) rfl g (k * 16) lgA rfl rfl hth.out (by kernel_rfl) (by kernel_rfl) ?_; rw [hwz.out])
                  have hkg := hkg'.out
                  have hm := hm.out
                  go_roundg g2
                  case measure => omega
                  case rel => exact ⟨m, _, by omega, by rw [← hm]; go_num, hfin.out, hBfin.out⟩
end Go.Proofs.YtnahgfdoiflacaaGreatDoor
