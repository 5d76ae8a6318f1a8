/- LexTexts: the walk. -/
import Derived.Test.YtmkfoknhjjgipaaGreatDoorAD
set_option linter.unusedSimpArgs false
set_option linter.unusedVariables false
namespace Go.Proofs.YtmkfoknhjjgipaaGreatDoor
open Go.RowKit Go.Lib Go.Shelf

theorem allM_fault {s : ByteArray} (hs : s.size ≤ 65536) : (allM s = ((scanA s).1, 0, 0, 0)) ∨ (∃ er l c, allM s = ([], er, l, c) ∧ er ≠ 0) := by
  rcases h : (scanA s).2 with _ | ⟨er, a⟩
  · left
    unfold allM
    rw [if_neg (by omega), h]
  · right
    refine ⟨er, (placeN s a).1, (placeN s a).2, by unfold allM; rw [if_neg (by omega), h], ?_⟩
    rcases (scanA_fault h).1 with e | e <;> rw [e] <;> decide
set_option maxRecDepth 100000 in
set_option maxHeartbeats 8000000 in
theorem lexTexts_any (s : ByteArray) (m : Int) (w : World) (hE : Env w) : Calls Tryz.prog 4 #[.string s, .int .i64 m] w (OkPost w) := by
  have hEh := Lib.hid hE
  by_cases h9 : 30000 < s.size
  · have e9 : (30000 : Int) < (s.size : Int) := by omega
    have hk := Lib.hid (known_any w hE)
    clear hE
    go_enter Tryz.func4, Tryz.ntmps4
    go_wp2_with fail
    refine hk.out.mono ?_
    rintro e w1 ⟨rfl, hb⟩
    have hb := Lib.hid hb
    go_wp2
    go_ret
    exact ⟨rfl, hb.out⟩
  · have e9 : ¬ (30000 : Int) < (s.size : Int) := by omega
    have hs : s.size ≤ 65536 := by omega
    have h1 := Lib.hid (all_any s w hE (by omega))
    have h2 := Lib.hid fun W => refAll_any s W hs
    clear hE
    go_enter Tryz.func4, Tryz.ntmps4
    go_wp2_with fail
    refine h1.out.mono ?_
    rintro e w1 ⟨v, rfl, hv, hb1⟩
    obtain ⟨A, cp, rfl, _, hT, _⟩ := tpsAt_form hv
    have hb1 := Lib.hid hb1
    have hT := Lib.hid hT
    clear hv
    obtain ⟨er, her⟩ : ∃ er, (allM s).2.1 = er := ⟨_, rfl⟩
    obtain ⟨fl, hfl⟩ : ∃ fl, (allM s).2.2.1 = fl := ⟨_, rfl⟩
    obtain ⟨fc, hfc⟩ : ∃ fc, (allM s).2.2.2 = fc := ⟨_, rfl⟩
    have h2 := fun W => h2.out W
    unfold RefAllPost at h2
    rw [her, hfl, hfc] at h2
    rw [her, hfl, hfc]
    unfold fltV at h2 ⊢
    have h2 := Lib.hid h2
    have hfe := Lib.hid (And.intro her (And.intro hfl hfc))
    clear her hfl hfc
    obtain ⟨W1, hW1⟩ : ∃ W1, w1.alloc (.cells #[.int .i64 er, .int .i64 fl, .int .i64 fc] 33) = W1 := ⟨_, rfl⟩
    obtain ⟨f1, hf1⟩ : ∃ f1, w1.heap.size = f1 := ⟨_, rfl⟩
    have hB1 := Lib.hid (show Below w.heap.size w W1 by rw [← hW1]; exact hb1.out.alloc hb1.out.size _)
    have hF1 := Lib.hid (show W1.heap[f1]? = some (.cells #[.int .i64 er, .int .i64 fl, .int .i64 fc] 33 (0, 0)) by rw [← hW1, ← hf1]; exact heap_alloc_new _ _)
    have hT1 := Lib.hid (show TaAt W1 A ((allM s).1.map Tp.ta) by rw [← hW1]; exact hT.out.below ((Below.refl _ w1).alloc (Nat.le_refl _) _))
    have hW1' := Lib.hid hW1
    have hf1' := Lib.hid hf1
    clear hW1 hf1
    go_wp2_with fail
    rw [hW1'.out, hf1'.out]
    refine (h2.out W1).mono ?_
    rintro e w2 ⟨v1, v2, rfl, hr1, hr2, hb2⟩
    obtain ⟨B, cB, rfl, _, hTB, _⟩ := tpsAt_form hr1
    obtain ⟨D, cD, rfl, hAD⟩ := atAt_form hr2
    obtain ⟨W2, hW2⟩ : ∃ W2, w2.alloc (.cells #[.int .i64 er, .int .i64 fl, .int .i64 fc] 33) = W2 := ⟨_, rfl⟩
    obtain ⟨f2, hf2⟩ : ∃ f2, w2.heap.size = f2 := ⟨_, rfl⟩
    have hb2W : Below W1.heap.size W1 W2 := by rw [← hW2]; exact hb2.alloc hb2.size _
    have hB2 := Lib.hid (Below.next hB1.out hb2W)
    have hF12 := (hb2W.block f1 (blk_lt hF1.out)).trans hF1.out
    have hF2 : W2.heap[f2]? = some (.cells #[.int .i64 er, .int .i64 fl, .int .i64 fc] 33 (0, 0)) := by rw [← hW2, ← hf2]; exact heap_alloc_new _ _
    have hT2 := Lib.hid (hT1.out.below hb2W)
    have hbx : Below w2.heap.size w2 W2 := by rw [← hW2]; exact (Below.refl _ w2).alloc (Nat.le_refl _) _
    have hTB2 := Lib.hid (hTB.below hbx)
    have hAD2 := Lib.hid (hAD.below hbx)
    obtain ⟨x0, x1, x2, xf⟩ := box3 hF12
    obtain ⟨y0, y1, y2, yf⟩ := box3 hF2
    have hF2h := Lib.hid hF2
    have hW2' := Lib.hid hW2
    have hf2' := Lib.hid hf2
    have hnq := flt_neq_self er fl fc
    have x0u := x0
    have x1u := x1
    have x2u := x2
    rw [← hW2] at x0u x1u x2u
    obtain ⟨n, hn⟩ : ∃ n, (scanA s).1.length = n := ⟨_, rfl⟩
    have hnl : n ≤ 65536 := by have := scanA_len s; omega
    rw [hn]
    have hn := Lib.hid hn
    have hO := fun (m : Int) (W : World) (h : Below W2.heap.size W2 W) => once_any s B D n cB cD m W (hEh.out.below (Below.next hB2.out h)) hs hn.out (hTB2.out.below h) (hAD2.out.below h)
    have hO := Lib.hid hO
    have hK := Lib.hid fun (W : World) (h : Below W2.heap.size W2 W) => known_any W (hEh.out.below (Below.next hB2.out h))
    clear hr1 hr2 hTB hAD hb2 hb2W hF12 hF2 hbx hW2 hf2
    rcases allM_fault hs with ha | ⟨er', l', c', ha, hne⟩
    · have e0 : er = 0 := by have := hfe.out.1; rw [ha] at this; exact this.symm
      subst e0
      have hT2' := hT2.out
      rw [ha] at hT2' ⊢
      dsimp only at hT2' ⊢
      rw [hn.out]
      have hst := Lib.hid (sameTokens_self A B n cp cB ((scanA s).1.map Tp.ta) W2 (by rw [List.length_map, hn.out]) hT2' hTB2.out (by omega))
      clear hT2' ha
      go_wp2_with fail
      rw [hW2'.out, hf2'.out]
      refine hst.out.mono ?_
      rintro e w3 ⟨rfl, b3⟩
      obtain ⟨z0, z1, z2, zf⟩ := box3 ((b3.block f2 (blk_lt hF2h.out)).trans hF2h.out)
      have b3 := Lib.hid b3
      go_wp2_with fail
      refine (hO.out m _ b3.out).mono ?_
      rintro e w4 ⟨rfl, b4⟩
      have b4 := Lib.hid (Below.next b3.out b4)
      go_wp2_with fail
      refine (hO.out 0 _ b4.out).mono ?_
      rintro e w5 ⟨rfl, b5⟩
      have b5 := Lib.hid (Below.next b4.out b5)
      go_wp2_with fail
      refine (hK.out _ b5.out).mono ?_
      rintro e w6 ⟨rfl, b6⟩
      have b6 := Lib.hid (Below.next b5.out b6)
      go_wp2
      go_ret
      exact ⟨rfl, Below.next hB2.out b6.out⟩
    · have e0 : er = er' := by have := hfe.out.1; rw [ha] at this; exact this.symm
      subst e0
      rw [ha]
      have hd : (er == 0) = false := by simpa using hne
      have hd2 : (er != 0) = true := by simpa using hne
      have b2 := Lib.hid (Below.refl W2.heap.size W2)
      clear ha
      go_wp2_with fail
      rw [hW2'.out]
      refine (hO.out m _ b2.out).mono ?_
      rintro e w4 ⟨rfl, b4⟩
      have b4 := Lib.hid b4
      go_wp2_with fail
      refine (hO.out 0 _ b4.out).mono ?_
      rintro e w5 ⟨rfl, b5⟩
      have b5 := Lib.hid (Below.next b4.out b5)
      go_wp2_with fail
      refine (hK.out _ b5.out).mono ?_
      rintro e w6 ⟨rfl, b6⟩
      have b6 := Lib.hid (Below.next b5.out b6)
      go_wp2
      go_ret
      exact ⟨rfl, Below.next hB2.out b6.out⟩
end Go.Proofs.YtmkfoknhjjgipaaGreatDoor
