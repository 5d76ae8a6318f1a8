/- The chapter's rows: known. -/
import Derived.Test.YtkbmckmlnphpmaaGreatDoorAI
set_option linter.unusedSimpArgs false
set_option linter.unusedVariables false
namespace Go.Proofs.YtkbmckmlnphpmaaGreatDoor
open Go.RowKit Go.Lib Go.Shelf

theorem kc_words (W w : World) (hb : Below w.heap.size w W) (hE : Env w) : Calls Tryz.prog 14 #[.string ⟨#[105, 110]⟩, .slice (some ⟨W.heap.size, 0, none⟩) 2 2] (W.alloc (.cells #[.int .u64 1, .int .u64 2] 40)) (StrErr ⟨#[105, 110, 32, 49, 32, 50]⟩ 0 (W.alloc (.cells #[.int .u64 1, .int .u64 2] 40))) := by
  have h := words_any inW (some ⟨W.heap.size, 0, none⟩) 2 2 [1, 2] (W.alloc (.cells #[.int .u64 1, .int .u64 2] 40)) rfl
    ⟨by decide, fun _ => ⟨_, 0, rfl, fun i x hx => by
      rw [Nat.zero_add, blk_cell (heap_alloc_new _ _)]
      match i, hx with
      | 0, hx => cases hx; rfl
      | 1, hx => cases hx; rfl⟩⟩ (hE.below (hb.alloc hb.size _)).tab (by decide) (by omega)
  rw [if_pos (show wordB inW = true by decide), if_pos (show wordB inW = true by decide), show lineT inW [1, 2] = ⟨#[105, 110, 32, 49, 32, 50]⟩ from ext_bytes k_words] at h
  exact h
theorem kc_with (W : World) (hE : Env W) : Calls Tryz.prog 18 #[.string ⟨#[119, 105, 116, 104]⟩] W fun e w' => (∃ A c, e = .returned (.tuple #[.string ⟨#[119, 105, 116, 104]⟩, .slice A 0 c, .int .i64 0])) ∧ Below W.heap.size W w' :=
  (unwords_any withW W hE (by decide)).mono fun e w' h => by
    obtain ⟨A, c, h1, _⟩ := h.2.1 withW [] k_with
    exact ⟨⟨A, c, h1⟩, h.2.2⟩
theorem kc_in01 (W : World) (hE : Env W) : Calls Tryz.prog 18 #[.string ⟨#[105, 110, 32, 48, 49]⟩] W fun e w' => e = .returned (.tuple #[.string ⟨#[]⟩, .slice none 0 0, .int .i64 15]) ∧ Below W.heap.size W w' :=
  (unwords_any _ W hE (by decide)).mono fun e w' h => ⟨h.1 k_in01, h.2.2⟩
theorem kc_seen (W w : World) (hb : Below w.heap.size w W) (hE : Env w) : Calls Tryz.prog 26 #[.slice (some ⟨W.heap.size, 0, none⟩) 2 2] (W.alloc (.cells #[.bool true, .bool true, .int .u64 0, .bool false, .bool false, .int .u64 8] 84)) (StrErr ⟨#[106, 49, 32, 56]⟩ 0 (W.alloc (.cells #[.bool true, .bool true, .int .u64 0, .bool false, .bool false, .int .u64 8] 84))) := by
  have h := seen_any (some ⟨W.heap.size, 0, none⟩) 2 2 [⟨true, true, 0⟩, ⟨false, false, 8⟩] (W.alloc (.cells #[.bool true, .bool true, .int .u64 0, .bool false, .bool false, .int .u64 8] 84)) rfl
    ⟨by decide, fun _ => ⟨_, 0, rfl, fun i x hx => by
      simp only [Nat.zero_add, blk_cell (heap_alloc_new _ _)]
      match i, hx with
      | 0, hx => cases hx; exact ⟨rfl, rfl, rfl⟩
      | 1, hx => cases hx; exact ⟨rfl, rfl, rfl⟩⟩⟩ (hE.below (hb.alloc hb.size _)).tab (by omega)
  rw [if_pos (show [(⟨true, true, 0⟩ : Sn), ⟨false, false, 8⟩].all toldB = true by decide), if_pos (show [(⟨true, true, 0⟩ : Sn), ⟨false, false, 8⟩].all toldB = true by decide), show seenText [⟨true, true, 0⟩, ⟨false, false, 8⟩] = ⟨#[106, 49, 32, 56]⟩ from ext_bytes k_seen] at h
  exact h
theorem kc_unseen (W : World) (hE : Env W) : Calls Tryz.prog 27 #[.string ⟨#[106, 49, 32, 56, 32, 106, 50]⟩] W fun e w' => e = .returned (.tuple #[.slice none 0 0, .int .i64 15]) ∧ Below W.heap.size W w' :=
  (unseen_any _ W hE (by decide)).mono fun e w' h => ⟨h.1 k_unseen, h.2.2⟩
theorem kc_parse (W : World) (hE : Env W) : Calls Tryz.prog 24 #[.string ⟨#[105, 110, 32, 49, 10, 115, 111, 117, 114, 99, 101, 32, 49, 48, 10]⟩] W fun e w' => (∃ g c, e = .returned (.tuple #[.slice (some ⟨g, 0, none⟩) 1 c, .int .i64 0, .int .i64 0]) ∧ w'.cell? ⟨g, 4, none⟩ = some (.int .i64 10)) ∧ Below W.heap.size W w' :=
  (parse_any textA W hE (.inl (by decide))).mono fun e w' h => by
    obtain ⟨A, c, h1, h2, h3⟩ := h
    rw [k_parseA] at h1 h2
    obtain ⟨g, rfl, h4⟩ := h2 (by decide)
    obtain ⟨A1, c1, A2, c2, h5, _⟩ := h4 0 _ rfl
    exact ⟨⟨g, c, h1, h5 4 _ rfl⟩, h3⟩
theorem kc_wrong (W : World) (hE : Env W) : Calls Tryz.prog 43 #[.string ⟨#[105, 110, 32, 49, 10, 105, 110, 32, 50, 10]⟩, .int .i64 1] W (BoolPost true W) := by
  have h := wrong_any textB 1 W hE (.inl (by decide))
  rw [k_parseB] at h
  exact h

set_option maxRecDepth 100000 in
set_option maxHeartbeats 8000000 in
theorem known_any (w : World) (hE : Env w) : Calls Tryz.prog 13 #[] w (BoolPost true w) := by
  have hE' := Lib.hid hE
  have hW := Lib.hid (kc_words w w (Below.refl _ _) hE)
  have h1 := Lib.hid fun W (hb : Below w.heap.size w W) => kc_with W (hE.below hb)
  have h2 := Lib.hid fun W (hb : Below w.heap.size w W) => kc_in01 W (hE.below hb)
  have h3 := Lib.hid fun W (hb : Below w.heap.size w W) => kc_seen W w hb hE
  have h4 := Lib.hid fun W (hb : Below w.heap.size w W) => kc_unseen W (hE.below hb)
  have h5 := Lib.hid fun W (hb : Below w.heap.size w W) => kc_parse W (hE.below hb)
  have h6 := Lib.hid fun W (hb : Below w.heap.size w W) => kc_wrong W (hE.below hb)
  have hb0 := Lib.hid ((Below.refl w.heap.size w).alloc (Nat.le_refl _) (.cells #[.int .u64 1, .int .u64 2] 40))
  clear hE
  go_enter Tryz.func13, Tryz.ntmps13
  go_wp2_with fail
  refine hW.out.mono ?_
  rintro e w1 ⟨rfl, hb1⟩
  have b1 := Lib.hid (Below.next hb0.out hb1)
  clear hb1 hW
  go_wp2_with fail
  refine (h1.out _ b1.out).mono ?_
  rintro e w2 ⟨⟨A2, c2, rfl⟩, hb2⟩
  have b2 := Lib.hid (Below.next b1.out hb2)
  clear hb2 h1
  go_wp2_with fail
  refine (h2.out _ b2.out).mono ?_
  rintro e w3 ⟨rfl, hb3⟩
  have b3 := Lib.hid (Below.next b2.out hb3)
  clear hb3 h2
  go_wp2_with fail
  refine (h3.out _ b3.out).mono ?_
  rintro e w4 ⟨rfl, hb4⟩
  have b4 := Lib.hid (Below.next (b3.out.alloc b3.out.size _) hb4)
  clear hb4 h3
  go_wp2_with fail
  refine (h4.out _ b4.out).mono ?_
  rintro e w5 ⟨rfl, hb5⟩
  have b5 := Lib.hid (Below.next b4.out hb5)
  clear hb5 h4
  go_wp2_with fail
  refine (h5.out _ b5.out).mono ?_
  rintro e w6 ⟨⟨g, c6, rfl, hc6⟩, hb6⟩
  have b6 := Lib.hid (Below.next b5.out hb6)
  clear hb6 h5
  go_wp2_with (first | (go_at_call 16; refine (num_any _ _).mono ?_; rintro e wA ⟨rfl, rfl⟩) | (go_at_call 43; refine (h6.out _ b6.out).mono ?_; rintro e w7 ⟨rfl, hb7⟩; have b7 := Lib.hid (Below.next b6.out hb7); clear hb7))
  go_ret
  exact ⟨rfl, b7.out⟩
end Go.Proofs.YtkbmckmlnphpmaaGreatDoor
