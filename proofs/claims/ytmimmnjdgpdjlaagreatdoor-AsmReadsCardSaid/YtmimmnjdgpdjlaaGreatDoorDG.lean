/- The reference's Unline. -/
import Derived.Test.YtmimmnjdgpdjlaaGreatDoorDF
import Derived.Test.YtmimmnjdgpdjlaaGreatDoorAQ
set_option linter.unusedSimpArgs false
set_option linter.unusedVariables false
namespace Go.Proofs.YtmimmnjdgpdjlaaGreatDoor
open Go.RowKit Go.Lib Go.Shelf

theorem guess_fit {s : List UInt8} {i : In} (h : i ∈ guessesL s) : Fit i := by
  have hd : ∀ l, -9223372036854775808 ≤ (unaddrR l).dp ∧ (unaddrR l).dp ≤ 9223372036854775807 := fun l => sgn_range _ (numP_lt _)
  have hz : (0 : Nat) < 18446744073709551616 ∧ (-9223372036854775808 : Int) ≤ 0 ∧ (0 : Int) ≤ 9223372036854775807 := by decide
  unfold guessesL at h
  dsimp only at h
  split at h
  · cases h
  · have hn := numG_lt (gsOf s).f
    unfold guessL at h
    rcases List.mem_append.1 h with h | h
    · rcases List.mem_append.1 h with h | h
      · unfold guess1 at h
        simp only [List.mem_cons, List.not_mem_nil, or_false] at h
        rcases h with h | h | h | h | h | h | h | h | h | h | h | h | h <;> subst h <;> first | exact hz | exact ⟨hn, hz.2⟩ | exact ⟨hz.1, hd _⟩
      · unfold guess2 at h
        simp only [List.mem_cons, List.not_mem_nil, or_false] at h
        rcases h with h | h | h | h <;> subst h <;> first | exact hz | exact ⟨hn, hz.2⟩
    · unfold guessC at h
      obtain ⟨c, _, h⟩ := List.mem_flatMap.1 h
      unfold guess3 at h
      simp only [List.mem_cons, List.not_mem_nil, or_false] at h
      rcases h with h | h | h <;> subst h <;> exact hz
theorem guesses_len (s : List UInt8) : (guessesL s).length ≤ 65 := by
  unfold guessesL
  dsimp only
  split
  · exact Nat.zero_le _
  · unfold guessL
    rw [List.length_append, List.length_append, guessC_len]
    simp [guess1, guess2]
def Unl12Post (s : List UInt8) (w : World) (e : Ending) (w' : World) : Prop := e = .returned (.tuple #[inV ((unlL s).getD (inZ 0)), .bool (unlL s).isSome]) ∧ Below w.heap.size w w'
theorem unlG_found {s : List UInt8} {k : Nat} {x : In} (hx : (guessesL s)[k]? = some x) (h : isL s x = true) (hno : ∀ (j : Nat) (y : In), j < k → (guessesL s)[j]? = some y → isL s y = false) : unlL s = some x := by
  rw [← unlR_eq]
  exact find_found hx h hno
theorem unlG_none {s : List UInt8} (hno : ∀ (j : Nat) (y : In), (guessesL s)[j]? = some y → isL s y = false) : unlL s = none := by
  rw [← unlR_eq]
  exact find_none hno
theorem below_set13 {w W : World} (h : Below w.heap.size w W) (v0 v1 v2 v3 v4 v5 v6 v7 v8 v9 v10 v11 v12 : Value) (b : Nat) (hb : w.heap.size ≤ b) :
    Below w.heap.size w (((((((((((((W.setCell ⟨b, 0, none⟩ v0).setCell ⟨b, 1, none⟩ v1).setCell ⟨b, 2, none⟩ v2).setCell ⟨b, 3, none⟩ v3).setCell ⟨b, 4, none⟩ v4).setCell ⟨b, 5, none⟩ v5).setCell ⟨b, 6, none⟩ v6).setCell ⟨b, 7, none⟩ v7).setCell ⟨b, 8, none⟩ v8).setCell ⟨b, 9, none⟩ v9).setCell ⟨b, 10, none⟩ v10).setCell ⟨b, 11, none⟩ v11).setCell ⟨b, 12, none⟩ v12) := by
  repeat refine Below.setCell ?_ (by exact hb) _
  exact h
set_option maxRecDepth 100000 in
set_option maxHeartbeats 8000000 in
theorem unline12_any (s : List UInt8) (w : World) (hE : Env w) (hs : s.length ≤ 2000000) : Calls Tryz.prog 12 #[.string (bt s)] w (Unl12Post s w) := by
  obtain ⟨W1, hW1⟩ : ∃ W1, w.alloc (.cells #[.int .i64 0, .int .i64 0, .int .i64 0, .int .i64 0, .int .i64 0, .int .i64 0, .int .u64 0, .int .i64 0, .int .i64 0, .bool false, .bool false, .int .i64 0, .int .i64 0] 32) = W1 := ⟨_, rfl⟩
  have hb1 : Below w.heap.size w W1 := by rw [← hW1]; exact below_new w _
  have hx1 : W1.heap[w.heap.size]? = some (.cells #[.int .i64 0, .int .i64 0, .int .i64 0, .int .i64 0, .int .i64 0, .int .i64 0, .int .u64 0, .int .i64 0, .int .i64 0, .bool false, .bool false, .int .i64 0, .int .i64 0] 32 (0, 0)) := by rw [← hW1]; exact heap_alloc_new _ _
  have hG := guesses35_any (bt s) W1 (by rw [bt_size]; exact hs)
  rw [bt_list] at hG
  have hG := Lib.hid hG
  have hfound := Lib.hid (fun k x h1 h2 h3 => unlG_found (s := s) (k := k) (x := x) h1 h2 h3)
  have hnone := Lib.hid (fun h => unlG_none (s := s) h)
  have hisL := Lib.hid (fun (x : In) (hm : x ∈ guessesL s) => isL_eq (s := s) (guess_fit hm).1)
  have hfit := Lib.hid (fun (x : In) (hm : x ∈ guessesL s) => guess_fit hm)
  have hlen := guesses_len s
  have hE' := Lib.hid (fun W (h : Below w.heap.size w W) => hE.below h)
  have hx := Lib.hid hx1
  have hbw := Lib.hid hb1
  have hW1' := Lib.hid hW1
  obtain ⟨u, hu⟩ : ∃ u, unlL s = u := ⟨_, rfl⟩
  unfold Unl12Post
  rw [hu] at hfound hnone ⊢
  clear hW1 hb1 hx1 hE hs hu
  obtain ⟨sb, hsb⟩ : ∃ sb, bt s = sb := ⟨_, rfl⟩
  have hsl := Lib.hid (show sb.data.toList = s from by rw [← hsb, bt_list])
  rw [hsb]
  unfold GuessPost at hG
  rw [hsb] at hG
  obtain ⟨G, hGe⟩ : ∃ G, guessesL s = G := ⟨_, rfl⟩
  rw [hGe] at hG hfound hnone hisL hfit hlen
  obtain ⟨n, hn⟩ : ∃ n, G.length = n := ⟨_, rfl⟩
  rw [hn] at hG hlen
  have hn' := Lib.hid hn
  clear hsb hGe hn
  go_enter Tryz.func12, Tryz.ntmps12
  go_wp2_with fail
  rw [hW1'.out]
  refine hG.out.mono ?_
  rintro e w2 ⟨A, c, rfl, hL, hb2⟩
  have hx := Lib.hid ((hb2.block _ (blk_lt hx.out)).trans hx.out)
  have hbw := Lib.hid (Below.next hbw.out hb2)
  have hL := Lib.hid hL
  clear hb2 hG
  go_wp2_with fail
  go_loopg [5] n (fun g s5 wr => ∃ k : Nat, k + g = n ∧ s5 = .int .i64 k ∧ Below w2.heap.size w2 wr ∧ ∀ (j : Nat) (y : In), j < k → G[j]? = some y → isL s y = false)
  case atStart => exact ⟨0, by omega, rfl, Below.refl _ _, fun j y h => absurd h (by omega)⟩
  case round =>
    obtain ⟨k, hkg, rfl, hb, hno⟩ := hrel
    have hb := Lib.hid hb
    have hno := Lib.hid hno
    cases gk with
    | zero =>
      have e0 : ¬ ((k : Int) < (n : Int)) := by omega
      have hq := hnone.out fun j y hy => hno.out j y (by have := (List.getElem?_eq_some_iff.1 hy).1; rw [hn'.out] at this; omega) hy
      subst hq
      have hxr := Lib.hid ((hb.out.block _ (blk_lt hx.out)).trans hx.out)
      have hbr := Lib.hid (Below.next hbw.out hb.out)
      obtain ⟨o0, o1, o2, o3, o4, o5, o6, o7, o8, o9, o10, o11, o12⟩ := box13 hxr.out
      have hf0 := frz hxr.out
      go_wp2_with fail
      obtain ⟨z0, z1, z2, z3, z4, z5, z6, z7, z8, z9, z10, z11, z12⟩ := box13 (set13_cells hxr.out (.int .i64 0) (.int .i64 0) (.int .i64 0) (.int .i64 0) (.int .i64 0) (.int .i64 0) (.int .u64 0) (.int .i64 0) (.int .i64 0) (.bool false) (.bool false) (.int .i64 0) (.int .i64 0))
      refine bodyPost_ret (v := .tuple #[.agg #[.int .i64 0, .int .i64 0, .int .i64 0, .int .i64 0, .int .i64 0, .int .i64 0, .int .u64 0, .int .i64 0, .int .i64 0, .bool false, .bool false, .int .i64 0, .int .i64 0], .bool false]) (by simp [results, Tryz.results12, Tryz.f12, go_sem, z0, z1, z2, z3, z4, z5, z6, z7, z8, z9, z10, z11, z12]) rfl ⟨rfl, ?_⟩
      exact below_set13 hbr.out _ _ _ _ _ _ _ _ _ _ _ _ _ _ (Nat.le_refl _)
    | succ g2 =>
      have e0 : (k : Int) < (n : Int) := by omega
      obtain ⟨blk, off, i, rfl, hi, hcx⟩ := hL.out.at_ (i := k) (by rw [hn'.out]; omega)
      have hm := List.mem_of_getElem? hi
      have hrow := Lib.hid (fun W (h : Below w2.heap.size w2 W) => row_at h hcx)
      have hf := hfit.out i hm
      have hmo := fun W => rmayOne_any i hf W
      have hln := Lib.hid (fun (h : mayB i = true) W hE => rline25_any (form_of h hf.1) W hE)
      have hLi := Lib.hid (hisL.out i hm)
      have hnx := Lib.hid (fun (h : isL s i = false) (j : Nat) (y : In) (hj : j < k + 1) (hy : G[j]? = some y) => (show isL s y = false from by
        rcases Nat.lt_or_ge j k with h1 | h1
        · exact hno.out j y h1 hy
        · obtain rfl : j = k := by omega
          rw [hi] at hy
          obtain rfl := Option.some.inj hy
          exact h))
      have hfd := Lib.hid (fun (h : isL s i = true) => hfound.out k i hi h hno.out)
      have heq := toList_beq (lineL i) sb
      rw [hsl.out] at heq
      unfold BoolPost inV inC at hmo
      unfold StrPost inV inC at hln
      obtain ⟨mb, hmb⟩ : ∃ mb, mayB i = mb := ⟨_, rfl⟩
      obtain ⟨x, hxx⟩ : ∃ x, bt (lineL i) = x := ⟨_, rfl⟩
      obtain ⟨q, hq⟩ : ∃ q, decide (lineL i = s) = q := ⟨_, rfl⟩
      rw [hmb] at hmo hLi hln
      rw [hxx] at hln heq
      rw [hq] at heq hLi
      have hmo := Lib.hid hmo
      clear hi hm hcx hf hmb hxx hq
      obtain ⟨v0, v1, v2, v3, v4, v5, v6, v7, v8, v9, v10, v11, v12⟩ := hrow.out _ hb.out
      go_wp2_with fail
      refine (hmo.out _).mono ?_
      rintro e w3 ⟨rfl, hb3⟩
      have hb := Lib.hid (Below.next hb.out hb3)
      clear hb3 v0 v1 v2 v3 v4 v5 v6 v7 v8 v9 v10 v11 v12 hmo
      cases mb with
      | false =>
        have hr := Lib.hid (hnx.out (by rw [hLi.out]; rfl))
        clear hnx hfd heq hLi hln
        go_wp2
        go_roundg g2
        case measure => omega
        case rel => exact ⟨k + 1, by omega, by go_num, hb.out, hr.out⟩
      | true =>
        obtain ⟨v0, v1, v2, v3, v4, v5, v6, v7, v8, v9, v10, v11, v12⟩ := hrow.out _ hb.out
        go_wp2_with fail
        refine (hln.out (by first | trivial | rfl) _ (hE'.out _ (Below.next hbw.out hb.out))).mono ?_
        rintro e w4 ⟨rfl, hb4⟩
        have hb := Lib.hid (Below.next hb.out hb4)
        clear hb4 v0 v1 v2 v3 v4 v5 v6 v7 v8 v9 v10 v11 v12 hln
        cases q with
        | false =>
          have hr := Lib.hid (hnx.out (by rw [hLi.out]; rfl))
          clear hnx hfd hLi
          go_wp2
          go_roundg g2
          case measure => omega
          case rel => exact ⟨k + 1, by omega, by go_num, hb.out, hr.out⟩
        | true =>
          have hq := hfd.out (by rw [hLi.out]; rfl)
          subst hq
          have hxr := Lib.hid ((hb.out.block _ (blk_lt hx.out)).trans hx.out)
          have hbr := Lib.hid (Below.next hbw.out hb.out)
          obtain ⟨v0, v1, v2, v3, v4, v5, v6, v7, v8, v9, v10, v11, v12⟩ := hrow.out _ hb.out
          obtain ⟨o0, o1, o2, o3, o4, o5, o6, o7, o8, o9, o10, o11, o12⟩ := box13 hxr.out
          have hf0 := frz hxr.out
          clear hnx hfd hLi
          go_wp2_with fail
          obtain ⟨z0, z1, z2, z3, z4, z5, z6, z7, z8, z9, z10, z11, z12⟩ := box13 (set13_cells hxr.out (.int .i64 i.op) (.int .i64 i.bn) (.int .i64 i.sh) (.int .i64 i.cd) (.int .i64 i.ds) (.int .i64 i.sr) (.int .u64 (i.im : Int)) (.int .i64 i.ba) (.int .i64 i.ix) (.bool i.hb) (.bool i.hi) (.int .i64 i.dp) (.int .i64 i.lb))
          refine bodyPost_ret (v := .tuple #[.agg #[.int .i64 i.op, .int .i64 i.bn, .int .i64 i.sh, .int .i64 i.cd, .int .i64 i.ds, .int .i64 i.sr, .int .u64 (i.im : Int), .int .i64 i.ba, .int .i64 i.ix, .bool i.hb, .bool i.hi, .int .i64 i.dp, .int .i64 i.lb], .bool true]) (by simp [results, Tryz.results12, Tryz.f12, go_sem, z0, z1, z2, z3, z4, z5, z6, z7, z8, z9, z10, z11, z12]) rfl ⟨rfl, ?_⟩
          exact below_set13 hbr.out _ _ _ _ _ _ _ _ _ _ _ _ _ _ (Nat.le_refl _)
end Go.Proofs.YtmimmnjdgpdjlaaGreatDoor
