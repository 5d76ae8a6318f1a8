/- Every instruction's line: AsmLines. -/
import Derived.Test.YtmimmnjdgpdjlaaGreatDoorAE
import Derived.Test.YtmimmnjdgpdjlaaGreatDoorAG
set_option linter.unusedSimpArgs false
set_option linter.unusedVariables false
namespace Go.Proofs.YtmimmnjdgpdjlaaGreatDoor
open Go.RowKit Go.Lib Go.Shelf Go.MapKept

theorem lines_there (i : In) (hF : Fit i) : (mayB i = false ∧ ∀ W, Env W → Calls Tryz.prog 19 #[inV i] W fun e w' => e = .returned (.tuple #[.string ⟨#[]⟩, .int .i64 2]) ∧ Below W.heap.size W w') ∨
    ∃ z : ByteArray, mayB i = true ∧ (∀ W, Env W → Calls Tryz.prog 19 #[inV i] W fun e w' => e = .returned (.tuple #[.string z, .int .i64 0]) ∧ Below W.heap.size W w') ∧
      ∀ W, Env W → Calls Tryz.prog 25 #[inV i] W fun e w' => e = .returned (.string z) ∧ Below W.heap.size W w' := by
  have hL := fun W hE => line19_any i hF W hE
  unfold LinePost at hL
  cases hm : mayB i with
  | false =>
    rw [hm] at hL
    exact .inl ⟨rfl, hL⟩
  | true =>
    rw [hm] at hL
    exact .inr ⟨bt (lineL i), rfl, hL, fun W hE => rline25_any (form_of hm hF.1) W hE⟩
set_option maxRecDepth 100000 in
set_option maxHeartbeats 16000000 in
theorem asmLines_any (i : In) (hF : Fit i) (w : World) (hE : Env w) : Calls Tryz.prog 5 #[inV i] w (BoolPost true w) := by
  have hln := lines_there i hF
  have hR := fun W (hE : Env W) => reg20_any i.ds W hE
  have hS := fun W => rreg21_any i.ds W
  have hA := fun W (hE : Env W) => addr22_any i.ba i.ix i.hb i.hi i.dp hF.2.1 hF.2.2 W hE
  have hB := fun W (hE : Env W) => raddr23_any i.ba i.ix i.hb i.hi i.dp hF.2.1 hF.2.2 W hE
  have hM := fun W => rmayOne_any i hF W
  have hK := Lib.hid (fun W (hE : Env W) => known_any W hE)
  unfold RegPost at hR hS
  unfold StrPost adV at hA hB
  unfold BoolPost at hM
  obtain ⟨x, hx'⟩ : ∃ x : ByteArray, (if regB i.ds then bt (atW regW i.ds) else ⟨#[]⟩) = x := ⟨_, rfl⟩
  obtain ⟨r, hr'⟩ : ∃ r, regB i.ds = r := ⟨_, rfl⟩
  rw [hx', hr'] at hR hS
  obtain ⟨y, hy'⟩ : ∃ y, bt (addrS i.ba i.ix i.hb i.hi i.dp) = y := ⟨_, rfl⟩
  rw [hy'] at hA hB
  clear hx' hr' hy'
  obtain ⟨W1, hW1⟩ : ∃ W1, w.alloc (.cells #[.int .i64 i.op, .int .i64 i.bn, .int .i64 i.sh, .int .i64 i.cd, .int .i64 i.ds, .int .i64 i.sr, .int .u64 (i.im : Int), .int .i64 i.ba, .int .i64 i.ix, .bool i.hb, .bool i.hi, .int .i64 i.dp, .int .i64 i.lb] 32) = W1 := ⟨_, rfl⟩
  have hb1 : Below w.heap.size w W1 := by rw [← hW1]; exact below_new w _
  have hx := Lib.hid (show W1.heap[w.heap.size]? = some (.cells #[.int .i64 i.op, .int .i64 i.bn, .int .i64 i.sh, .int .i64 i.cd, .int .i64 i.ds, .int .i64 i.sr, .int .u64 (i.im : Int), .int .i64 i.ba, .int .i64 i.ix, .bool i.hb, .bool i.hi, .int .i64 i.dp, .int .i64 i.lb] 32 (0, 0)) from by rw [← hW1]; exact heap_alloc_new _ _)
  have hR := Lib.hid hR
  have hS := Lib.hid hS
  have hA := Lib.hid hA
  have hB := Lib.hid hB
  have hE' := Lib.hid (fun W (h : Below w.heap.size w W) => hE.below h)
  have hbw := Lib.hid hb1
  have hW1' := Lib.hid hW1
  clear hE hF hb1 hW1
  obtain ⟨g0, g1, g2, g3, g4, g5, g6, g7, g8, g9, g10, g11, g12⟩ := box13 hx.out
  rcases hln with ⟨hm, hL⟩ | ⟨z, hm, hL, hQ⟩
  · rw [hm] at hM
    have hL := Lib.hid hL
    have hM := Lib.hid hM
    clear hm
    unfold inV inC at hL hM ⊢
    go_enter Tryz.func5, Tryz.ntmps5
    go_wp2_with fail
    rw [hW1'.out]
    refine (hL.out _ (hE'.out _ hbw.out)).mono ?_
    rintro e w2 ⟨rfl, hb2⟩
    have hx := Lib.hid ((hb2.block _ (blk_lt hx.out)).trans hx.out)
    have hbw := Lib.hid (Below.next hbw.out hb2)
    clear hb2 g0 g1 g2 g3 g4 g5 g6 g7 g8 g9 g10 g11 g12
    obtain ⟨g0, g1, g2, g3, g4, g5, g6, g7, g8, g9, g10, g11, g12⟩ := box13 hx.out
    go_wp2_with fail
    refine (hR.out _ (hE'.out _ hbw.out)).mono ?_
    rintro e w3 ⟨rfl, hb3⟩
    have hx := Lib.hid ((hb3.block _ (blk_lt hx.out)).trans hx.out)
    have hbw := Lib.hid (Below.next hbw.out hb3)
    clear hb3 g0 g1 g2 g3 g4 g5 g6 g7 g8 g9 g10 g11 g12
    obtain ⟨g0, g1, g2, g3, g4, g5, g6, g7, g8, g9, g10, g11, g12⟩ := box13 hx.out
    go_wp2_with fail
    refine (hS.out _).mono ?_
    rintro e w4 ⟨rfl, hb4⟩
    have hx := Lib.hid ((hb4.block _ (blk_lt hx.out)).trans hx.out)
    have hbw := Lib.hid (Below.next hbw.out hb4)
    clear hb4 g0 g1 g2 g3 g4 g5 g6 g7 g8 g9 g10 g11 g12
    obtain ⟨g0, g1, g2, g3, g4, g5, g6, g7, g8, g9, g10, g11, g12⟩ := box13 hx.out
    go_wp2_with fail
    have c7 := Sub.cell g7
    have c8 := Sub.cell g8
    have c9 := Sub.cell g9
    have c10 := Sub.cell g10
    have c11 := Sub.cell g11
    have sA := Lib.hid (fun s : Sub w4 => hA.out s.val (hE'.out _ (Below.next hbw.out s.property)))
    have sB := Lib.hid (fun s : Sub w4 => hB.out s.val (hE'.out _ (Below.next hbw.out s.property)))
    refine wp_region_below (by kernel_rfl) (by kernel_rfl) ?_
    repeat (go_big_quiet_step ((first | (go_at_call 22; with_reducible exact Sub.call (sA.out _)) | (go_at_call 23; with_reducible exact Sub.call (sB.out _)))))
    refine wpQuiet_nil ?_
    rintro w5 ⟨z5, hz5⟩
    have hb5 := hz5 ▸ z5.property
    have hx := Lib.hid ((hb5.block _ (blk_lt hx.out)).trans hx.out)
    have hbw := Lib.hid (Below.next hbw.out hb5)
    clear hz5 hb5 c7 c8 c9 c10 c11 g0 g1 g2 g3 g4 g5 g6 g7 g8 g9 g10 g11 g12
    obtain ⟨g0, g1, g2, g3, g4, g5, g6, g7, g8, g9, g10, g11, g12⟩ := box13 hx.out
    go_wp2_with fail
    refine (hM.out _).mono ?_
    rintro e w6 ⟨rfl, hb6⟩
    have hx := Lib.hid ((hb6.block _ (blk_lt hx.out)).trans hx.out)
    have hbw := Lib.hid (Below.next hbw.out hb6)
    clear hb6 g0 g1 g2 g3 g4 g5 g6 g7 g8 g9 g10 g11 g12
    obtain ⟨g0, g1, g2, g3, g4, g5, g6, g7, g8, g9, g10, g11, g12⟩ := box13 hx.out
    go_wp2_with fail
    refine (num_any _ _).mono ?_
    rintro e w7 ⟨rfl, rfl⟩
    go_wp2_with fail
    refine (hK.out _ (hE'.out _ hbw.out)).mono ?_
    rintro e w8 ⟨rfl, hb8⟩
    have hbw := Lib.hid (Below.next hbw.out hb8)
    clear hb8
    go_wp2
    go_ret
    exact ⟨rfl, hbw.out⟩
  · rw [hm] at hM
    have hL := Lib.hid hL
    have hM := Lib.hid hM
    have hQ := Lib.hid hQ
    clear hm
    unfold inV inC at hL hM hQ ⊢
    go_enter Tryz.func5, Tryz.ntmps5
    go_wp2_with fail
    rw [hW1'.out]
    refine (hL.out _ (hE'.out _ hbw.out)).mono ?_
    rintro e w2 ⟨rfl, hb2⟩
    have hx := Lib.hid ((hb2.block _ (blk_lt hx.out)).trans hx.out)
    have hbw := Lib.hid (Below.next hbw.out hb2)
    clear hb2 g0 g1 g2 g3 g4 g5 g6 g7 g8 g9 g10 g11 g12
    obtain ⟨g0, g1, g2, g3, g4, g5, g6, g7, g8, g9, g10, g11, g12⟩ := box13 hx.out
    go_wp2_with fail
    refine (hR.out _ (hE'.out _ hbw.out)).mono ?_
    rintro e w3 ⟨rfl, hb3⟩
    have hx := Lib.hid ((hb3.block _ (blk_lt hx.out)).trans hx.out)
    have hbw := Lib.hid (Below.next hbw.out hb3)
    clear hb3 g0 g1 g2 g3 g4 g5 g6 g7 g8 g9 g10 g11 g12
    obtain ⟨g0, g1, g2, g3, g4, g5, g6, g7, g8, g9, g10, g11, g12⟩ := box13 hx.out
    go_wp2_with fail
    refine (hS.out _).mono ?_
    rintro e w4 ⟨rfl, hb4⟩
    have hx := Lib.hid ((hb4.block _ (blk_lt hx.out)).trans hx.out)
    have hbw := Lib.hid (Below.next hbw.out hb4)
    clear hb4 g0 g1 g2 g3 g4 g5 g6 g7 g8 g9 g10 g11 g12
    obtain ⟨g0, g1, g2, g3, g4, g5, g6, g7, g8, g9, g10, g11, g12⟩ := box13 hx.out
    go_wp2_with fail
    have c7 := Sub.cell g7
    have c8 := Sub.cell g8
    have c9 := Sub.cell g9
    have c10 := Sub.cell g10
    have c11 := Sub.cell g11
    have sA := Lib.hid (fun s : Sub w4 => hA.out s.val (hE'.out _ (Below.next hbw.out s.property)))
    have sB := Lib.hid (fun s : Sub w4 => hB.out s.val (hE'.out _ (Below.next hbw.out s.property)))
    refine wp_region_below (by kernel_rfl) (by kernel_rfl) ?_
    repeat (go_big_quiet_step ((first | (go_at_call 22; with_reducible exact Sub.call (sA.out _)) | (go_at_call 23; with_reducible exact Sub.call (sB.out _)))))
    refine wpQuiet_nil ?_
    rintro w5 ⟨z5, hz5⟩
    have hb5 := hz5 ▸ z5.property
    have hx := Lib.hid ((hb5.block _ (blk_lt hx.out)).trans hx.out)
    have hbw := Lib.hid (Below.next hbw.out hb5)
    clear hz5 hb5 c7 c8 c9 c10 c11 g0 g1 g2 g3 g4 g5 g6 g7 g8 g9 g10 g11 g12
    obtain ⟨g0, g1, g2, g3, g4, g5, g6, g7, g8, g9, g10, g11, g12⟩ := box13 hx.out
    go_wp2_with fail
    refine (hM.out _).mono ?_
    rintro e w6 ⟨rfl, hb6⟩
    have hx := Lib.hid ((hb6.block _ (blk_lt hx.out)).trans hx.out)
    have hbw := Lib.hid (Below.next hbw.out hb6)
    clear hb6 g0 g1 g2 g3 g4 g5 g6 g7 g8 g9 g10 g11 g12
    obtain ⟨g0, g1, g2, g3, g4, g5, g6, g7, g8, g9, g10, g11, g12⟩ := box13 hx.out
    go_wp2_with fail
    refine (hQ.out _ (hE'.out _ hbw.out)).mono ?_
    rintro e w9 ⟨rfl, hb9⟩
    have hbw := Lib.hid (Below.next hbw.out hb9)
    clear hb9 g0 g1 g2 g3 g4 g5 g6 g7 g8 g9 g10 g11 g12
    go_wp2_with fail
    refine (num_any _ _).mono ?_
    rintro e w7 ⟨rfl, rfl⟩
    go_wp2_with fail
    refine (hK.out _ (hE'.out _ hbw.out)).mono ?_
    rintro e w8 ⟨rfl, hb8⟩
    have hbw := Lib.hid (Below.next hbw.out hb8)
    clear hb8
    go_wp2
    go_ret
    exact ⟨rfl, hbw.out⟩
end Go.Proofs.YtmimmnjdgpdjlaaGreatDoor
