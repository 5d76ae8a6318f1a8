/- The chapter's rows: plain. The chapter's rows: known. The chapter's rows: known. -/
import Derived.Test.YtkbmckmlnphpmaaGreatDoorAG
import Derived.Test.YtkbmckmlnphpmaaGreatDoorQ
set_option linter.unusedSimpArgs false
set_option linter.unusedVariables false
namespace Go.Proofs.YtkbmckmlnphpmaaGreatDoor
open Go.RowKit Go.Lib Go.Shelf

theorem dec1 {i : Nat} (h : i < 10) : Lib.decDigits i = [UInt8.ofNat (48 + i)] := decDigits_one h
theorem nI {s : ByteArray} {u : Nat} (h : canonB s.data.toList = true) (h2 : valF 0 s.data.toList = u) (h3 : u ≤ 18446744073709551615) : numI s = some u := by
  subst h2
  exact numI_some h h3
theorem unwM_of {s p : ByteArray} {ps : List ByteArray} {l : List Int} (h1 : partsB s = p :: ps) (h2 : wordB p = true) (h3 : numsM ps = some l) : unwM s = some (p, l) := by
  unfold unwM
  rw [h1]
  show (if wordB p = true then _ else _) = _
  rw [if_pos h2]
  show (numsM ps).map _ = _
  rw [h3]
  rfl
theorem unwM_bad {s p : ByteArray} {ps : List ByteArray} (h1 : partsB s = p :: ps) (h3 : numsM ps = none) : unwM s = none := by
  unfold unwM
  rw [h1]
  show (if wordB p = true then (numsM ps).map _ else _) = _
  rw [h3]
  split <;> rfl
theorem numsM_one {x : ByteArray} {u : Nat} (h : numI x = some u) : numsM [x] = some [(u : Int)] := by
  unfold numsM
  rw [h]
  rfl
-- "in 1 2"
theorem k_words : (lineT inW [1, 2]).data.toList = [105, 110, 32, 49, 32, 50] := by
  rw [lineT_list]
  simp only [tailL, List.map_cons, List.map_nil, List.flatten_cons, List.flatten_nil]
  rw [show (1 : Int).toNat = 1 from rfl, show (2 : Int).toNat = 2 from rfl, dec1 (by omega), dec1 (by omega)]
  rfl
theorem k_with : unwM withW = some (withW, []) := unwM_of (ps := []) (by decide) (by decide) rfl
theorem k_in01 : unwM ⟨#[105, 110, 32, 48, 49]⟩ = none := by
  refine unwM_bad (p := inW) (ps := [⟨#[48, 49]⟩]) (by decide) ?_
  exact numsM_none _ _ (List.mem_singleton.2 rfl) (numI_zero (by decide))
theorem k_seen : (seenText [⟨true, true, 0⟩, ⟨false, false, 8⟩]).data.toList = [106, 49, 32, 56] := by
  show (Lib.join _ _) = _
  simp only [List.map_cons, List.map_nil]
  rw [Lib.join_cons, Lib.joinTail]
  show [106, 49] ++ (([[32] ++ Lib.decDigits 8] : List (List UInt8))).flatten = _
  rw [dec1 (by omega)]
  rfl
theorem k_unseen : unseenM ⟨#[106, 49, 32, 56, 32, 106, 50]⟩ = none := by
  unfold unseenM
  rw [if_neg (by decide)]
  refine unsL_none _ ⟨#[106, 50]⟩ (List.mem_of_getElem? (i := 2) (by decide)) ?_
  unfold unsT
  rw [if_neg (by decide), if_neg (by decide), numI_zero (by decide)]
  rfl
theorem k_in1 : unwM ⟨#[105, 110, 32, 49]⟩ = some (inW, [1]) := unwM_of (ps := [⟨#[49]⟩]) (by decide) (by decide) (numsM_one (u := 1) (nI (by decide) (by decide) (by decide)))
theorem k_in2 : unwM ⟨#[105, 110, 32, 50]⟩ = some (inW, [2]) := unwM_of (ps := [⟨#[50]⟩]) (by decide) (by decide) (numsM_one (u := 2) (nI (by decide) (by decide) (by decide)))
def src10 : ByteArray := ⟨#[115, 111, 117, 114, 99, 101, 32, 49, 48]⟩
theorem k_src10 : unwM src10 = some (srcW, [10]) := unwM_of (ps := [⟨#[49, 48]⟩]) (by decide) (by decide) (numsM_one (u := 10) (nI (by decide) (by decide) (by decide)))
theorem k_asked : askedT 1 0 10 = src10 := by
  apply ext_bytes
  show (lineT srcW [10]).data.toList = _
  rw [lineT_list]
  simp only [tailL, List.map_cons, List.map_nil, List.flatten_cons, List.flatten_nil]
  rw [show (10 : Int).toNat = 10 from rfl, decDigits_two (by omega) (by omega)]
  rfl
theorem k_unline : unlineM src10 = some (1, 0, 10) := by
  unfold unlineM
  rw [k_src10]
  dsimp only
  rw [show kindM srcW = some 1 from by decide]
  dsimp only
  rw [show readV 1 [10] = (0, 10) from by decide]
  dsimp only
  rw [if_pos ⟨by decide, k_asked⟩]
theorem k_unline2 : unlineM ⟨#[105, 110, 32, 50]⟩ = none := by
  unfold unlineM
  rw [k_in2]
  dsimp only
  rw [show kindM inW = none from by decide]
theorem k_take1 : takeM zeroR ⟨#[105, 110, 32, 49]⟩ = some ⟨[], [1], [], true⟩ := by
  unfold takeM zeroR
  dsimp only
  rw [k_in1]
  dsimp only
  rw [if_pos ⟨rfl, by decide⟩]
theorem k_take2 : takeM ⟨[], [1], [], true⟩ src10 = some ⟨[⟨1, [1], [], 0, 10⟩], [1], [], false⟩ := by
  unfold takeM
  dsimp only
  rw [k_src10]
  dsimp only
  rw [if_neg (by decide), k_unline]
  rfl
theorem k_take3 : takeM ⟨[], [1], [], true⟩ ⟨#[105, 110, 32, 50]⟩ = none := by
  unfold takeM
  dsimp only
  rw [k_in2]
  dsimp only
  rw [if_neg (by decide), k_unline2]
theorem runM_step {f : Nat} {rest a b : List UInt8} {r r' : RSt} {n : Nat} (h0 : rest ≠ []) (hc : cutM 10 rest = some (a, b)) (ht : takeM r ⟨a.toArray⟩ = some r') : runM (f + 1) rest r n = runM f b r' (n + 1) := by
  conv => lhs; unfold runM
  rw [if_neg h0, hc]
  dsimp only
  rw [ht]
theorem runM_bad {f : Nat} {rest a b : List UInt8} {r : RSt} {n : Nat} (h0 : rest ≠ []) (hc : cutM 10 rest = some (a, b)) (ht : takeM r ⟨a.toArray⟩ = none) : runM (f + 1) rest r n = (n, none) := by
  conv => lhs; unfold runM
  rw [if_neg h0, hc]
  dsimp only
  rw [ht]
theorem runM_end {f : Nat} {r : RSt} {n : Nat} : runM (f + 1) [] r n = (n, some r) := by
  unfold runM
  rw [if_pos rfl]
def textA : ByteArray := ⟨#[105, 110, 32, 49, 10, 115, 111, 117, 114, 99, 101, 32, 49, 48, 10]⟩
def textB : ByteArray := ⟨#[105, 110, 32, 49, 10, 105, 110, 32, 50, 10]⟩
theorem k_parseA : parseM textA = ([⟨1, [1], [], 0, 10⟩], 0, 0) := by
  unfold parseM
  rw [if_neg (by decide)]
  show finM (runM (14 + 1 + 1) [105, 110, 32, 49, 10, 115, 111, 117, 114, 99, 101, 32, 49, 48, 10] zeroR 0) = _
  rw [runM_step (a := [105, 110, 32, 49]) (b := [115, 111, 117, 114, 99, 101, 32, 49, 48, 10]) (by decide) (by decide) k_take1]
  show finM (runM (14 + 1) [115, 111, 117, 114, 99, 101, 32, 49, 48, 10] _ 1) = _
  rw [runM_step (a := [115, 111, 117, 114, 99, 101, 32, 49, 48]) (b := []) (by decide) (by decide) k_take2]
  show finM (runM (13 + 1) [] _ 2) = _
  rw [runM_end]
  rfl
theorem k_parseB : parseM textB = ([], 1, 15) := by
  unfold parseM
  rw [if_neg (by decide)]
  show finM (runM (9 + 1 + 1) [105, 110, 32, 49, 10, 105, 110, 32, 50, 10] zeroR 0) = _
  rw [runM_step (a := [105, 110, 32, 49]) (b := [105, 110, 32, 50, 10]) (by decide) (by decide) k_take1]
  show finM (runM (9 + 1) [105, 110, 32, 50, 10] _ 1) = _
  rw [runM_bad (a := [105, 110, 32, 50]) (b := []) (by decide) (by decide) k_take3]
  rfl
end Go.Proofs.YtkbmckmlnphpmaaGreatDoor
namespace Go.Proofs.YtkbmckmlnphpmaaGreatDoor
open Go.RowKit Go.Lib Go.Shelf

set_option maxRecDepth 100000 in
set_option maxHeartbeats 1000000 in
theorem num_any (e : Int) (w : World) : Calls Tryz.prog 16 #[.int .i64 e] w fun e' w' => e' = .returned (.int .i64 e) ∧ w = w' := by
  go_enter Tryz.func16, Tryz.ntmps16
  go_wp2
  go_ret
  exact ⟨rfl, rfl⟩
set_option maxRecDepth 100000 in
set_option maxHeartbeats 2000000 in
theorem wrong_any (text : ByteArray) (line : Int) (w : World) (hE : Env w) (hs : text.size ≤ 2000000 ∨ 1048576 < text.size) :
    Calls Tryz.prog 43 #[.string text, .int .i64 line] w (BoolPost (decide ((parseM text).1.length = 0 ∧ ((parseM text).2.1 : Int) = line ∧ (parseM text).2.2 = 15)) w) := by
  have hk := parse_any text w hE hs
  obtain ⟨⟨L, n, er⟩, hp⟩ : ∃ x, parseM text = x := ⟨_, rfl⟩
  unfold ParsePost at hk
  rw [hp] at hk ⊢
  dsimp only at hk ⊢
  have hk' := Lib.hid hk
  obtain ⟨ll, hll⟩ : ∃ ll, L.length = ll := ⟨_, rfl⟩
  rw [hll] at hk' ⊢
  clear hk hp hs hE hll
  have hn := Lib.hid fun e w => num_any e w
  by_cases h1 : ll = 0
  · subst h1
    by_cases h2 : (n : Int) = line
    · subst h2
      by_cases h3 : er = 15
      · subst h3
        go_enter Tryz.func43, Tryz.ntmps43
        go_wp2_with fail
        refine hk'.out.mono ?_
        rintro e w1 ⟨A, c, rfl, _, hb⟩
        have hb' := Lib.hid hb
        clear hb
        go_wp2_with fail
        refine (hn.out _ _).mono ?_
        rintro e w2 ⟨rfl, rfl⟩
        go_wp2
        go_ret
        exact ⟨ret_bool (by simp), hb'.out⟩
      · have e3 : (er == 15) = false := by simpa using h3
        have h3' := Lib.hid h3
        go_enter Tryz.func43, Tryz.ntmps43
        go_wp2_with fail
        refine hk'.out.mono ?_
        rintro e w1 ⟨A, c, rfl, _, hb⟩
        have hb' := Lib.hid hb
        clear hb
        go_wp2_with fail
        refine (hn.out _ _).mono ?_
        rintro e w2 ⟨rfl, rfl⟩
        go_wp2
        go_ret
        exact ⟨ret_bool (by simp [h3'.out]), hb'.out⟩
    · have e2 : ((n : Int) == line) = false := by simpa using h2
      have h2' := Lib.hid h2
      clear h2
      go_enter Tryz.func43, Tryz.ntmps43
      go_wp2_with fail
      refine hk'.out.mono ?_
      rintro e w1 ⟨A, c, rfl, _, hb⟩
      have hb' := Lib.hid hb
      clear hb
      go_wp2
      go_ret
      exact ⟨ret_bool (by simp [h2'.out]), hb'.out⟩
  · have e1 : ((ll : Int) == 0) = false := by simpa using h1
    have h1' := Lib.hid h1
    clear h1
    go_enter Tryz.func43, Tryz.ntmps43
    go_wp2_with fail
    refine hk'.out.mono ?_
    rintro e w1 ⟨A, c, rfl, _, hb⟩
    have hb' := Lib.hid hb
    clear hb
    go_wp2
    go_ret
    exact ⟨ret_bool (by simp [h1'.out]), hb'.out⟩
end Go.Proofs.YtkbmckmlnphpmaaGreatDoor
namespace Go.Proofs.YtkbmckmlnphpmaaGreatDoor
open Go.RowKit Go.Lib Go.Shelf

theorem kc_words (W w : World) (hb : Below w.heap.size w W) (hE : Env w) : Calls Tryz.prog 14 #[.string ⟨#[105, 110]⟩, .slice (some ⟨W.heap.size, 0, none⟩) 2 2] (W.alloc (.cells #[.int .u64 1, .int .u64 2] 40)) (StrErr ⟨#[105, 110, 32, 49, 32, 50]⟩ 0 (W.alloc (.cells #[.int .u64 1, .int .u64 2] 40))) := by
  have h := words_any inW (some ⟨W.heap.size, 0, none⟩) 2 2 [1, 2] (W.alloc (.cells #[.int .u64 1, .int .u64 2] 40)) rfl
    ⟨by decide, fun _ => ⟨_, 0, rfl, fun i x hx => by
      rw [Nat.zero_add, blk_cell (heap_alloc_new _ _)]
      match i, hx with
      | 0, hx => cases hx; rfl
      | 1, hx => cases hx; rfl⟩⟩ (hE.below (hb.alloc hb.size _)).tab (by decide) (by omega)
  rw [if_pos (show wordB inW = true by decide), if_pos (show wordB inW = true by decide), show lineT inW [1, 2] = ⟨#[105, 110, 32, 49, 32, 50]⟩ from ext_bytes k_words] at h
  exact h
theorem kc_with (W : World) (hE : Env W) : Calls Tryz.prog 18 #[.string ⟨#[119, 105, 116, 104]⟩] W fun e w' => (∃ A c, e = .returned (.tuple #[.string ⟨#[119, 105, 116, 104]⟩, .slice A 0 c, .int .i64 0])) ∧ Below W.heap.size W w' :=
  (unwords_any withW W hE (by decide)).mono fun e w' h => by
    obtain ⟨A, c, h1, _⟩ := h.2.1 withW [] k_with
    exact ⟨⟨A, c, h1⟩, h.2.2⟩
theorem kc_in01 (W : World) (hE : Env W) : Calls Tryz.prog 18 #[.string ⟨#[105, 110, 32, 48, 49]⟩] W fun e w' => e = .returned (.tuple #[.string ⟨#[]⟩, .slice none 0 0, .int .i64 15]) ∧ Below W.heap.size W w' :=
  (unwords_any _ W hE (by decide)).mono fun e w' h => ⟨h.1 k_in01, h.2.2⟩
theorem kc_seen (W w : World) (hb : Below w.heap.size w W) (hE : Env w) : Calls Tryz.prog 26 #[.slice (some ⟨W.heap.size, 0, none⟩) 2 2] (W.alloc (.cells #[.bool true, .bool true, .int .u64 0, .bool false, .bool false, .int .u64 8] 84)) (StrErr ⟨#[106, 49, 32, 56]⟩ 0 (W.alloc (.cells #[.bool true, .bool true, .int .u64 0, .bool false, .bool false, .int .u64 8] 84))) := by
  have h := seen_any (some ⟨W.heap.size, 0, none⟩) 2 2 [⟨true, true, 0⟩, ⟨false, false, 8⟩] (W.alloc (.cells #[.bool true, .bool true, .int .u64 0, .bool false, .bool false, .int .u64 8] 84)) rfl
    ⟨by decide, fun _ => ⟨_, 0, rfl, fun i x hx => by
      simp only [Nat.zero_add, blk_cell (heap_alloc_new _ _)]
      match i, hx with
      | 0, hx => cases hx; exact ⟨rfl, rfl, rfl⟩
      | 1, hx => cases hx; exact ⟨rfl, rfl, rfl⟩⟩⟩ (hE.below (hb.alloc hb.size _)).tab (by omega)
  rw [if_pos (show [(⟨true, true, 0⟩ : Sn), ⟨false, false, 8⟩].all toldB = true by decide), if_pos (show [(⟨true, true, 0⟩ : Sn), ⟨false, false, 8⟩].all toldB = true by decide), show seenText [⟨true, true, 0⟩, ⟨false, false, 8⟩] = ⟨#[106, 49, 32, 56]⟩ from ext_bytes k_seen] at h
  exact h
theorem kc_unseen (W : World) (hE : Env W) : Calls Tryz.prog 27 #[.string ⟨#[106, 49, 32, 56, 32, 106, 50]⟩] W fun e w' => e = .returned (.tuple #[.slice none 0 0, .int .i64 15]) ∧ Below W.heap.size W w' :=
  (unseen_any _ W hE (by decide)).mono fun e w' h => ⟨h.1 k_unseen, h.2.2⟩
theorem kc_parse (W : World) (hE : Env W) : Calls Tryz.prog 24 #[.string ⟨#[105, 110, 32, 49, 10, 115, 111, 117, 114, 99, 101, 32, 49, 48, 10]⟩] W fun e w' => (∃ g c, e = .returned (.tuple #[.slice (some ⟨g, 0, none⟩) 1 c, .int .i64 0, .int .i64 0]) ∧ w'.cell? ⟨g, 4, none⟩ = some (.int .i64 10)) ∧ Below W.heap.size W w' :=
  (parse_any textA W hE (.inl (by decide))).mono fun e w' h => by
    obtain ⟨A, c, h1, h2, h3⟩ := h
    rw [k_parseA] at h1 h2
    obtain ⟨g, rfl, h4⟩ := h2 (by decide)
    obtain ⟨A1, c1, A2, c2, h5, _⟩ := h4 0 _ rfl
    exact ⟨⟨g, c, h1, h5 4 _ rfl⟩, h3⟩
theorem kc_wrong (W : World) (hE : Env W) : Calls Tryz.prog 43 #[.string ⟨#[105, 110, 32, 49, 10, 105, 110, 32, 50, 10]⟩, .int .i64 1] W (BoolPost true W) := by
  have h := wrong_any textB 1 W hE (.inl (by decide))
  rw [k_parseB] at h
  exact h

set_option maxRecDepth 100000 in
set_option maxHeartbeats 8000000 in
theorem known_any (w : World) (hE : Env w) : Calls Tryz.prog 13 #[] w (BoolPost true w) := by
  have hE' := Lib.hid hE
  have hW := Lib.hid (kc_words w w (Below.refl _ _) hE)
  have h1 := Lib.hid fun W (hb : Below w.heap.size w W) => kc_with W (hE.below hb)
  have h2 := Lib.hid fun W (hb : Below w.heap.size w W) => kc_in01 W (hE.below hb)
  have h3 := Lib.hid fun W (hb : Below w.heap.size w W) => kc_seen W w hb hE
  have h4 := Lib.hid fun W (hb : Below w.heap.size w W) => kc_unseen W (hE.below hb)
  have h5 := Lib.hid fun W (hb : Below w.heap.size w W) => kc_parse W (hE.below hb)
  have h6 := Lib.hid fun W (hb : Below w.heap.size w W) => kc_wrong W (hE.below hb)
  have hb0 := Lib.hid ((Below.refl w.heap.size w).alloc (Nat.le_refl _) (.cells #[.int .u64 1, .int .u64 2] 40))
  clear hE
  go_enter Tryz.func13, Tryz.ntmps13
  go_wp2_with fail
  refine hW.out.mono ?_
  rintro e w1 ⟨rfl, hb1⟩
  have b1 := Lib.hid (Below.next hb0.out hb1)
  clear hb1 hW
  go_wp2_with fail
  refine (h1.out _ b1.out).mono ?_
  rintro e w2 ⟨⟨A2, c2, rfl⟩, hb2⟩
  have b2 := Lib.hid (Below.next b1.out hb2)
  clear hb2 h1
  go_wp2_with fail
  refine (h2.out _ b2.out).mono ?_
  rintro e w3 ⟨rfl, hb3⟩
  have b3 := Lib.hid (Below.next b2.out hb3)
  clear hb3 h2
  go_wp2_with fail
  refine (h3.out _ b3.out).mono ?_
  rintro e w4 ⟨rfl, hb4⟩
  have b4 := Lib.hid (Below.next (b3.out.alloc b3.out.size _) hb4)
  clear hb4 h3
  go_wp2_with fail
  refine (h4.out _ b4.out).mono ?_
  rintro e w5 ⟨rfl, hb5⟩
  have b5 := Lib.hid (Below.next b4.out hb5)
  clear hb5 h4
  go_wp2_with fail
  refine (h5.out _ b5.out).mono ?_
  rintro e w6 ⟨⟨g, c6, rfl, hc6⟩, hb6⟩
  have b6 := Lib.hid (Below.next b5.out hb6)
  clear hb6 h5
  go_wp2_with (first | (go_at_call 16; refine (num_any _ _).mono ?_; rintro e wA ⟨rfl, rfl⟩) | (go_at_call 43; refine (h6.out _ b6.out).mono ?_; rintro e w7 ⟨rfl, hb7⟩; have b7 := Lib.hid (Below.next b6.out hb7); clear hb7))
  go_ret
  exact ⟨rfl, b7.out⟩
end Go.Proofs.YtkbmckmlnphpmaaGreatDoor
