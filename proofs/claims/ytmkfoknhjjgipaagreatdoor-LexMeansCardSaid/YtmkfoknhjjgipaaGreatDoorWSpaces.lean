/- LexSpaces: the walk. -/
import Derived.Test.YtmkfoknhjjgipaaGreatDoorT
import Derived.Test.YtmkfoknhjjgipaaGreatDoorU
set_option linter.unusedSimpArgs false
set_option linter.unusedVariables false
namespace Go.Proofs.YtmkfoknhjjgipaaGreatDoor
open Go.RowKit Go.Lib Go.Shelf

def gapsL : List (List UInt8) := [[32], [10], [9, 32, 9], [32, 35, 32, 97, 32, 110, 111, 116, 101, 32, 36, 10], [13, 10]]
def gapN (j : Nat) : List UInt8 := gapsL.getD (j % 5) [32]
theorem gap_cases (j : Nat) : gapN j = [32] ∨ gapN j = [10] ∨ gapN j = [9, 32, 9] ∨ gapN j = [32, 35, 32, 97, 32, 110, 111, 116, 101, 32, 36, 10] ∨ gapN j = [13, 10] := by
  have h : j % 5 < 5 := Nat.mod_lt _ (by omega)
  unfold gapN
  generalize j % 5 = k at h ⊢
  match k, h with
  | 0, _ => exact .inl rfl
  | 1, _ => exact .inr (.inl rfl)
  | 2, _ => exact .inr (.inr (.inl rfl))
  | 3, _ => exact .inr (.inr (.inr (.inl rfl)))
  | 4, _ => exact .inr (.inr (.inr (.inr rfl)))
theorem gap_ok (j : Nat) : Gap (gapN j) ∧ gapN j ≠ [] ∧ blankB ((gapN j).headD 0) = true ∧ (gapN j).length ≤ 12 := by
  rcases gap_cases j with h | h | h | h | h <;> rw [h]
  all_goals
    refine ⟨fun m => ?_, by simp, by decide, by simp⟩
    simp [skipL, blankB]
    try omega
/-- tokens' texts, each with a gap behind it -/
def sepF (q : Nat) : Nat → List Tk → List UInt8
  | _, [] => []
  | i, x :: xs => x.t ++ (gapN (q + i) ++ sepF q (i + 1) xs)
theorem sepF_snoc (q : Nat) (x : Tk) : ∀ (xs : List Tk) (i : Nat), sepF q i (xs ++ [x]) = sepF q i xs ++ x.t ++ gapN (q + (i + xs.length))
  | [], i => by simp [sepF]
  | y :: xs, i => by
    rw [List.cons_append, sepF, sepF, sepF_snoc q x xs (i + 1), List.length_cons]
    simp only [List.append_assoc]
    rw [show i + 1 + xs.length = i + (xs.length + 1) by omega]
theorem sepF_len (q : Nat) : ∀ (xs : List Tk) (i : Nat), (sepF q i xs).length ≤ (xs.map fun x => x.t.length).sum + 12 * xs.length
  | [], i => Nat.zero_le _
  | y :: xs, i => by
    have := sepF_len q xs (i + 1)
    have := (gap_ok (q + i)).2.2.2
    rw [sepF, List.length_append, List.length_append, List.map_cons, List.sum_cons, List.length_cons]
    omega
theorem sepF_sep (q : Nat) : ∀ (xs : List Tk) (i : Nat) (g : List UInt8), Gap g → (∀ x ∈ xs, Good x) → Sep xs (g ++ sepF q i xs)
  | [], i, g, hg, _ => by rw [sepF, List.append_nil]; exact .nil hg
  | y :: xs, i, g, hg, h => by
    rw [sepF]
    obtain ⟨h1, h2, h3, _⟩ := gap_ok (q + i)
    refine .cons hg (h y List.mem_cons_self) (.inr ?_) (sepF_sep q xs (i + 1) _ h1 fun x hx => h x (List.mem_cons_of_mem _ hx))
    cases hc : gapN (q + i) with
    | nil => exact absurd hc h2
    | cons c l => rw [hc] at h3; exact h3
theorem scanF_sum : ∀ (n : Nat) (r : List UInt8) (a : Nat) (p : Nat × Nat), ((scanF n r a p).1.map fun t => t.x.t.length).sum ≤ r.length
  | 0, _, _, _ => Nat.zero_le _
  | n + 1, r, a, p => by
    rw [scanF]
    split
    · exact Nat.zero_le _
    · rename_i hne
      split
      · exact Nat.zero_le _
      · rename_i x hx
        obtain ⟨k, hk, hkl, hxt, hxk⟩ := oneR_text hne hx
        have := scanF_sum n ((r.drop (skipL false r)).drop x.t.length) (a + skipL false r + x.t.length) (lcF (lcF p (r.take (skipL false r))) x.t)
        rw [List.length_drop] at this
        rw [List.map_cons, List.sum_cons]
        dsimp only
        rw [List.length_drop] at this hkl
        omega
theorem scanA_sum (s : ByteArray) : ((scanA s).1.map fun t => t.x.t.length).sum ≤ s.size := by
  have := scanF_sum s.size s.data.toList 0 (1, 1)
  rw [size_list] at this
  exact this
theorem allM_ok {s : ByteArray} (hs : s.size ≤ 65536) : ((scanA s).2 = none ∧ allM s = ((scanA s).1, 0, 0, 0)) ∨ (∃ er l c, allM s = ([], er, l, c) ∧ er ≠ 0) := by
  rcases h : (scanA s).2 with _ | ⟨er, a⟩
  · left
    exact ⟨rfl, by unfold allM; rw [if_neg (by omega), h]⟩
  · right
    refine ⟨er, (placeN s a).1, (placeN s a).2, by unfold allM; rw [if_neg (by omega), h], ?_⟩
    rcases (scanA_fault h).1 with e | e <;> rw [e] <;> decide
theorem app_list (a b : ByteArray) : (a ++ b).data.toList = a.data.toList ++ b.data.toList := by simp
theorem key_ta (l : List Tp) : (l.map Tp.ta).map keyT = (l.map Tp.x).map fun x => (x.k, mkB x.t, x.u) := by
  rw [List.map_map, List.map_map]
  rfl
def gapCells : Array Value := #[.string ⟨#[32]⟩, .string ⟨#[10]⟩, .string ⟨#[9, 32, 9]⟩, .string ⟨#[32, 35, 32, 97, 32, 110, 111, 116, 101, 32, 36, 10]⟩, .string ⟨#[13, 10]⟩]
theorem gapCells_get (j : Nat) : gapCells[j % 5]? = some (.string (mkB (gapN j))) := by
  have h : j % 5 < 5 := Nat.mod_lt _ (by omega)
  unfold gapN
  generalize j % 5 = k at h ⊢
  match k, h with
  | 0, _ => rfl
  | 1, _ => rfl
  | 2, _ => rfl
  | 3, _ => rfl
  | 4, _ => rfl
/-- tokens' bytes ahead of one, and its own -/
theorem sum_take (s : ByteArray) (k : Nat) : ((((scanA s).1.take k).map Tp.x).map fun x => x.t.length).sum ≤ s.size := by
  have h := scanA_sum s
  have e : ((((scanA s).1.take k).map Tp.x).map fun x => x.t.length).sum + ((((scanA s).1.drop k).map Tp.x).map fun x => x.t.length).sum = ((scanA s).1.map fun t => t.x.t.length).sum := by
    rw [List.map_map, List.map_map, ← List.sum_append, ← List.map_append, List.take_append_drop]
    rfl
  omega
theorem take_next_x {s : ByteArray} {k : Nat} {t : Tp} (h : (scanA s).1[k]? = some t) : ((scanA s).1.take (k + 1)).map Tp.x = ((scanA s).1.take k).map Tp.x ++ [t.x] := by
  rw [List.take_add_one, h, List.map_append]; rfl
theorem len_at {s : ByteArray} {k : Nat} {t : Tp} (h : (scanA s).1[k]? = some t) : t.x.t.length ≤ s.size := by
  have := sum_take s (k + 1)
  rw [take_next_x h, List.map_append, List.sum_append] at this
  simp at this
  omega
theorem spaced_len (s : ByteArray) (u q k : Nat) (hk : k ≤ s.size) : (gapN u ++ sepF q 0 (((scanA s).1.take k).map Tp.x)).length ≤ 12 + (s.size + 12 * s.size) := by
  have h1 := (gap_ok u).2.2.2
  have h2 := sepF_len q (((scanA s).1.take k).map Tp.x) 0
  have h3 := sum_take s k
  have h4 : (((scanA s).1.take k).map Tp.x).length ≤ k := by rw [List.length_map, List.length_take]; omega
  rw [List.length_append]
  omega
set_option maxRecDepth 100000 in
set_option maxHeartbeats 8000000 in
theorem lexSpaces_any (s : ByteArray) (u : Nat) (hu : u < 18446744073709551616) (w : World) (hE : Env w) : Calls Tryz.prog 6 #[.string s, .int .u64 u] w (OkPost w) := by
  have hEh := Lib.hid hE
  by_cases h9 : 9000 < s.size
  · have e9 : (9000 : Int) < (s.size : Int) := by omega
    have hk := Lib.hid (known_any w hE)
    clear hE
    go_enter Tryz.func6, Tryz.ntmps6
    go_wp2_with fail
    refine hk.out.mono ?_
    rintro e w1 ⟨rfl, hb⟩
    have hb := Lib.hid hb
    go_wp2
    go_ret
    exact ⟨rfl, hb.out⟩
  · have e9 : ¬ (9000 : Int) < (s.size : Int) := by omega
    have h1 := Lib.hid (all_any s w hE (by omega))
    clear hE
    go_enter Tryz.func6, Tryz.ntmps6
    go_wp2_with fail
    refine h1.out.mono ?_
    rintro e w1 ⟨v, rfl, hv, hb1⟩
    obtain ⟨A, cp, rfl, _, hT, _⟩ := tpsAt_form hv
    have hb1 := Lib.hid hb1
    have hT := Lib.hid hT
    clear hv
    rcases allM_ok (s := s) (by omega) with ⟨hno, ha⟩ | ⟨er, l, c, ha, hne⟩
    · rw [ha]
      have ha := Lib.hid ha
      unfold fltV
      obtain ⟨n, hn⟩ : ∃ n, (scanA s).1.length = n := ⟨_, rfl⟩
      rw [hn]
      have hns : n ≤ s.size := by have := scanA_len s; omega
      have hnl : n ≤ 9000 := by omega
      obtain ⟨W, hW⟩ : ∃ W, (w1.alloc (.cells #[.int .i64 0, .int .i64 0, .int .i64 0] 33)).alloc (.cells gapCells 9) = W := ⟨_, rfl⟩
      have hbW : Below w1.heap.size w1 W := by rw [← hW]; exact ((Below.refl _ w1).alloc (Nat.le_refl _) _).alloc (by simp) _
      have hcW : W.heap[w1.heap.size + 1]? = some (.cells gapCells 9 (0, 0)) := by rw [← hW]; exact step2
      have hgap : ∀ j, W.cell? ⟨w1.heap.size + 1, j % 5, none⟩ = some (.string (mkB (gapN j))) := fun j => by rw [blk_cell hcW]; exact gapCells_get j
      have hg0 := hgap u
      rw [← hW] at hg0
      unfold gapCells at hg0
      have hTW := hT.out.below hbW
      rw [ha.out] at hTW
      have hTW := Lib.hid hTW
      have hgap := Lib.hid hgap
      have hW' := hW
      unfold gapCells at hW'
      have hW' := Lib.hid hW'
      have hbW := Lib.hid hbW
      have hn' := Lib.hid hn
      clear hW hcW hn
      go_wp2_with fail
      obtain ⟨w1z, hw1z⟩ : ∃ w1z, w1.heap.size = w1z := ⟨_, rfl⟩
      rw [hw1z] at hgap ⊢
      go_loopg [8, 9] n (fun g s8 s9 wr => ∃ (k : Nat) (B : ByteArray), k + g = n ∧ s9 = .int .i64 k ∧ s8 = .string B ∧ B.data.toList = gapN u ++ sepF (u / 5) 0 (((scanA s).1.take k).map Tp.x) ∧ Below W.heap.size W wr)
      case atStart => exact ⟨0, _, by omega, rfl, rfl, by simp [sepF, mkB_list], Below.refl _ _⟩
      case round =>
        obtain ⟨k, B, hkg, rfl, rfl, hB, hb⟩ := hrel
        have hB := Lib.hid hB
        have hb := Lib.hid hb
        cases gk with
        | zero =>
          have e0 : ¬ (k : Int) < (n : Int) := by omega
          have htk : (scanA s).1.take k = (scanA s).1 := List.take_of_length_le (by rw [hn'.out]; omega)
          have hBl := hB.out
          rw [htk] at hBl
          have hBz : B.size ≤ 200000 := by
            have := spaced_len s u (u / 5) k (by omega)
            rw [← hB.out, size_list] at this
            omega
          have hsep := scanF_sep (sepF_sep (u / 5) ((scanA s).1.map Tp.x) 0 (gapN u) (gap_ok u).1 (fun x hx => by
            obtain ⟨t, ht, rfl⟩ := List.mem_map.1 hx
            exact scanA_good s t ht)) B.size 0 (1, 1) (by rw [← hBl, size_list]; exact Nat.le_refl _)
          rw [← hBl] at hsep
          have hsep : (scanA B).2 = none ∧ (scanA B).1.map Tp.x = (scanA s).1.map Tp.x := hsep
          have hall := Lib.hid (all_any B wr (hEh.out.below (Below.next hb1.out (Below.next hbW.out hb.out))) (by omega))
          have hbw := Lib.hid (Below.next hb1.out (Below.next hbW.out hb.out))
          have hTr := Lib.hid (hTW.out.below hb.out)
          have hnum := Lib.hid (num_any 3)
          have hsep := Lib.hid hsep
          clear htk hBl
          go_wp2_with fail
          refine hall.out.mono ?_
          rintro e w3 ⟨v3, rfl, hv3, hb3⟩
          obtain ⟨A3, c3, rfl, _, hT3, _⟩ := tpsAt_form hv3
          have hbw3 := Lib.hid (Below.next hbw.out hb3)
          have hTr3 := Lib.hid (hTr.out.below hb3)
          have hT3 := Lib.hid hT3
          clear hv3 hb3
          by_cases hbig : 65536 < B.size
          · have ham : allM B = ([], 3, 0, 0) := by unfold allM; rw [if_pos hbig]
            rw [ham]
            unfold fltV
            have ebig : (65536 : Int) < (B.size : Int) := by omega
            have hk8 := Lib.hid (known_any (w3.alloc (.cells #[.int .i64 3, .int .i64 0, .int .i64 0] 33)) (hEh.out.below (hbw3.out.alloc hbw3.out.size _)))
            clear ham
            go_wp2_with (go_at_call 15; refine (hnum.out _).mono ?_; rintro e w4 ⟨rfl, rfl⟩)
            refine hk8.out.mono ?_
            rintro e w4 ⟨rfl, hb4⟩
            have hb4 := Lib.hid (Below.next (hbw3.out.alloc hbw3.out.size _) hb4)
            go_wp2
            go_ret
            exact ⟨rfl, hb4.out⟩
          · have ham : allM B = ((scanA B).1, 0, 0, 0) := by unfold allM; rw [if_neg hbig, hsep.out.1]
            have hT3' := hT3.out
            rw [ham] at hT3' ⊢
            unfold fltV
            dsimp only at hT3' ⊢
            have hlen : (scanA B).1.length = n := by
              have := congrArg List.length hsep.out.2
              rw [List.length_map, List.length_map, hn'.out] at this
              exact this
            rw [hlen]
            have hbx : Below w3.heap.size w3 (w3.alloc (.cells #[.int .i64 0, .int .i64 0, .int .i64 0] 33)) := (Below.refl _ _).alloc (Nat.le_refl _) _
            have hsm := same_any A A3 n cp n c3 ((scanA s).1.map Tp.ta) ((scanA B).1.map Tp.ta) (w3.alloc (.cells #[.int .i64 0, .int .i64 0, .int .i64 0] 33)) (by rw [List.length_map, hn'.out]) (by rw [List.length_map, hlen]) (hTr3.out.below hbx) (hT3'.below hbx) (by omega) (by omega)
            have hst : sameL ((scanA s).1.map Tp.ta) ((scanA B).1.map Tp.ta) = true := by
              unfold sameL
              rw [key_ta, key_ta, hsep.out.2]
              simp
            rw [hst] at hsm
            have hsm := Lib.hid hsm
            have hbx := Lib.hid (Below.next hbw3.out hbx)
            clear ham hT3' hst hlen
            go_wp2_with fail
            refine hsm.out.mono ?_
            rintro e w4 ⟨rfl, hb4⟩
            have hb4 := Lib.hid (Below.next hbx.out hb4)
            have hk8 := Lib.hid (known_any w4 (hEh.out.below hb4.out))
            go_wp2_with fail
            refine hk8.out.mono ?_
            rintro e w5 ⟨rfl, hb5⟩
            have hb5 := Lib.hid (Below.next hb4.out hb5)
            go_wp2
            go_ret
            exact ⟨rfl, hb5.out⟩
        | succ g =>
          have e0 : (k : Int) < (n : Int) := by omega
          have hkl : k < (scanA s).1.length := by rw [hn'.out]; omega
          obtain ⟨t, ht⟩ : ∃ t, (scanA s).1[k]? = some t := ⟨_, List.getElem?_eq_getElem hkl⟩
          obtain ⟨blk, off, x, rfl, hx, v1, v2, v3, v4, v5⟩ := (hTW.out.below hb.out).at_ (k := k) (by rw [List.length_map, hn'.out]; omega)
          have hx2 : ((scanA s).1.map Tp.ta)[k]? = some t.ta := by rw [List.getElem?_map, ht]; rfl
          obtain rfl : x = t.ta := by rw [hx2] at hx; exact (Option.some.inj hx).symm
          have hBz : B.size ≤ 200000 := by
            have := spaced_len s u (u / 5) k (by omega)
            rw [← hB.out, size_list] at this
            omega
          have htl := len_at ht
          obtain ⟨T, hTe⟩ : ∃ T, mkB t.x.t = T := ⟨_, rfl⟩
          have hTz : T.size ≤ 9000 := by rw [← hTe, ← size_list, mkB_list]; omega
          have hTd := Lib.hid (show T.data.toList = t.x.t by rw [← hTe, mkB_list])
          replace v2 : wr.cell? ⟨blk, off + k * 5 + 1, none⟩ = some (.string T) := by rw [← hTe]; exact v2
          have hgk := (hb.out.cell (p := ⟨w1z + 1, (u / 5 + k) % 5, none⟩) (cell_some_lt (hgap.out (u / 5 + k)))).trans (hgap.out (u / 5 + k))
          obtain ⟨G, hGe⟩ : ∃ G, mkB (gapN (u / 5 + k)) = G := ⟨_, rfl⟩
          rw [hGe] at hgk
          have hGz : G.size ≤ 12 := by rw [← hGe, ← size_list, mkB_list]; exact (gap_ok _).2.2.2
          have hGd := Lib.hid (show G.data.toList = gapN (u / 5 + k) by rw [← hGe, mkB_list])
          have hnx := Lib.hid (take_next_x ht)
          have hlk := Lib.hid (show (((scanA s).1.take k).map Tp.x).length = k by rw [List.length_map, List.length_take]; omega)
          clear hx hx2 ht htl hTe hGe v1 v3 v4 v5
          go_wp2
          go_quiet (fail)
          go_wp2
          go_roundg g
          case measure => omega
          case rel =>
            refine ⟨k + 1, B ++ T ++ G, by omega, by go_num, rfl, ?_, below_drewN hb.out _⟩
            rw [app_list, app_list, hB.out, hTd.out, hGd.out, hnx.out, sepF_snoc, hlk.out, Nat.zero_add]
            simp only [List.append_assoc]
    · rw [ha]
      unfold fltV
      have hd : (er != 0) = true := by simpa using hne
      have hk := Lib.hid (known_any (w1.alloc (.cells #[.int .i64 er, .int .i64 l, .int .i64 c] 33)) (hEh.out.below (hb1.out.alloc hb1.out.size _)))
      clear ha
      go_wp2_with fail
      refine hk.out.mono ?_
      rintro e w2 ⟨rfl, hb⟩
      have hb := Lib.hid (Below.next (hb1.out.alloc hb1.out.size _) hb)
      go_wp2
      go_ret
      exact ⟨rfl, hb.out⟩
end Go.Proofs.YtmkfoknhjjgipaaGreatDoor
