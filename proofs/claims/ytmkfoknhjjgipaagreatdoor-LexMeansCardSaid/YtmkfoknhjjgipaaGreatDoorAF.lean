/- LexMeans' blank; plain texts that are read again. -/
import Derived.Test.YtmkfoknhjjgipaaGreatDoorY
import Derived.Test.YtmkfoknhjjgipaaGreatDoorT
set_option linter.unusedSimpArgs false
set_option linter.unusedVariables false
namespace Go.Proofs.YtmkfoknhjjgipaaGreatDoor
open Go.RowKit Go.Lib Go.Shelf

set_option maxRecDepth 100000 in
set_option maxHeartbeats 4000000 in
theorem blank_any (s : ByteArray) (w : World) (hs : s.size ≤ 2000000) (h : skipE s false 0 = s.size) : Calls Tryz.prog 26 #[.string s] w fun e w' => e = .returned (.bool true) ∧ w' = w := by
  have hT := Lib.hid h
  clear h
  go_enter Tryz.func26, Tryz.ntmps26
  go_wp2_with fail
  go_loopg [3] (s.size + 1) (fun g s3 wr => ∃ c : Nat, s.size + 1 - c = g ∧ s3 = .int .i64 ((c : Nat) : Int) ∧ c ≤ s.size + 1 ∧ (c ≤ s.size → skipE s false c = s.size) ∧ wr = w)
  case atStart => exact ⟨0, rfl, rfl, Nat.zero_le _, fun _ => hT.out, rfl⟩
  case round =>
    obtain ⟨c, hcg, rfl, hc, hcT, rfl⟩ := hrel
    have hcT := Lib.hid hcT
    rcases Nat.lt_or_ge c s.size with hlt | hge
    · have e0 : (c : Int) < (s.size : Int) := by omega
      by_cases h35 : (s[c]'hlt).toNat = 35
      · have x35 : ((s[c]'hlt).toNat : Int) = 35 := by omega
        have hst := Lib.hid (show skipE s true c = s.size by rw [← skipE_hash hlt h35]; exact hcT.out (Nat.le_of_lt hlt))
        have hn10 := Lib.hid (show (s[c]'hlt).toNat ≠ 10 by omega)
        clear h35
        go_wp2_with fail
        go_loopg [3] (s.size - c) (fun g s3 wr2 => ∃ d : Nat, s.size - d = g ∧ s3 = .int .i64 ((d : Nat) : Int) ∧ d ≤ s.size ∧ c ≤ d ∧ skipE s true d = s.size ∧ wr2 = wr)
        case atStart => exact ⟨c, rfl, rfl, Nat.le_of_lt hlt, Nat.le_refl _, hst.out, rfl⟩
        case round =>
          obtain ⟨d, hdg, rfl, hd, hcd, hdT, rfl⟩ := hrel
          have hdT := Lib.hid hdT
          clear x35
          rcases Nat.lt_or_ge d s.size with hdlt | hdge
          · have f0 : (d : Int) < (s.size : Int) := by omega
            by_cases h10 : (s[d]'hdlt).toNat = 10
            · have hcd2 : c < d := by
                rcases Nat.lt_or_ge c d with h | h
                · exact h
                · obtain rfl : d = c := by omega
                  exact absurd h10 hn10.out
              have f10 : (((s[d]'hdlt).toNat : Int) != 10) = false := by simp; omega
              have hnx := Lib.hid (show skipE s false (d + 1) = s.size by rw [← skipE_blank hdlt (by unfold blankB; rw [h10]; rfl) (by omega), ← skipE_nl hdlt h10]; exact hdT.out)
              clear h10
              go_wp2
              go_roundg (s.size + 1 - (d + 1))
              case measure => omega
              case rel => exact ⟨d + 1, rfl, by go_num, by omega, fun _ => hnx.out, rfl⟩
            · have f10 : (((s[d]'hdlt).toNat : Int) != 10) = true := by simp; omega
              have hnx := Lib.hid (show skipE s true (d + 1) = s.size by rw [← skipE_step hdlt h10]; exact hdT.out)
              clear h10
              go_wp2
              go_roundg (s.size - (d + 1))
              case measure => omega
              case rel => exact ⟨d + 1, rfl, by go_num, hdlt, by omega, hnx.out, rfl⟩
          · have f0 : ¬ (d : Int) < (s.size : Int) := by omega
            go_wp2
            go_roundg (s.size + 1 - (d + 1))
            case measure => omega
            case rel => exact ⟨d + 1, rfl, by go_num, by omega, fun h => absurd h (by omega), rfl⟩
      · have x35 : ¬ ((s[c]'hlt).toNat : Int) = 35 := by omega
        by_cases hbk : (s[c]'hlt).toNat = 32 ∨ (s[c]'hlt).toNat = 9 ∨ (s[c]'hlt).toNat = 10 ∨ (s[c]'hlt).toNat = 13
        · have hnx := Lib.hid (show skipE s false (c + 1) = s.size by
            rw [← skipE_blank hlt ?_ h35]
            · exact hcT.out (Nat.le_of_lt hlt)
            · unfold blankB
              simp only [Bool.or_eq_true, beq_iff_eq]
              omega)
          clear h35
          rcases hbk with hbk | hbk | hbk | hbk
          all_goals
            first | have ebk : ((s[c]'hlt).toNat : Int) = 32 := by omega | have ebk : ((s[c]'hlt).toNat : Int) = 9 := by omega | have ebk : ((s[c]'hlt).toNat : Int) = 10 := by omega | have ebk : ((s[c]'hlt).toNat : Int) = 13 := by omega
            clear hbk x35
            go_wp2
            go_roundg (s.size + 1 - (c + 1))
            case measure => omega
            case rel => exact ⟨c + 1, rfl, by go_num, by omega, fun _ => hnx.out, rfl⟩
        · exfalso
          have := hcT.out (Nat.le_of_lt hlt)
          rw [skipE_stop hlt (by
            unfold blankB
            simp only [Bool.or_eq_false_iff, beq_eq_false_iff_ne]
            omega) h35] at this
          omega
    · have e0 : ¬ (c : Int) < (s.size : Int) := by omega
      go_wp2
      go_ret
      exact ⟨rfl, rfl⟩
theorem gap_one : Gap [32] := fun m => by simp [skipL, blankB]; omega
theorem joinTail_cons (y : List UInt8) (r : List (List UInt8)) : Lib.joinTail [32] (y :: r) = [32] ++ (y ++ Lib.joinTail [32] r) := by simp [Lib.joinTail]
theorem joinTail_head (r : List (List UInt8)) : Lib.joinTail [32] r = [] ∨ blankB ((Lib.joinTail [32] r).headD 0) = true := by
  cases r with
  | nil => exact .inl rfl
  | cons y r => right; rw [joinTail_cons]; rfl
theorem sep_tail : ∀ (xs : List Tk), (∀ x ∈ xs, Good x) → Sep xs (Lib.joinTail [32] (xs.map Tk.t))
  | [], _ => .nil gap_nil
  | y :: ys, h => by
    rw [List.map_cons, joinTail_cons]
    exact .cons gap_one (h y List.mem_cons_self) (joinTail_head _) (sep_tail ys fun x hx => h x (List.mem_cons_of_mem _ hx))
theorem sep_join (xs : List Tk) (h : ∀ x ∈ xs, Good x) : Sep xs (Lib.join (xs.map Tk.t) [32]) := by
  cases xs with
  | nil => exact .nil gap_nil
  | cons x xs =>
    rw [List.map_cons, Lib.join_cons]
    have := Sep.cons gap_nil (h x List.mem_cons_self) (joinTail_head (xs.map Tk.t)) (sep_tail xs fun y hy => h y (List.mem_cons_of_mem _ hy))
    rwa [List.nil_append] at this
theorem plain_bytes (s : ByteArray) : (plainT (((scanA s).1.map Tp.ta).map Ta.t)).data.toList = Lib.join (((scanA s).1.map Tp.x).map Tk.t) [32] := by
  unfold plainT
  show Lib.join _ [32] = _
  rw [List.map_map, List.map_map, List.map_map]
  congr 1
theorem join_len (xs : List Tk) : (Lib.join (xs.map Tk.t) [32]).length ≤ xs.length + (xs.map fun x => x.t.length).sum := by
  have key : ∀ xs : List Tk, (Lib.joinTail [32] (xs.map Tk.t)).length = xs.length + (xs.map fun x => x.t.length).sum := by
    intro xs
    induction xs with
    | nil => rfl
    | cons y ys ih =>
      rw [List.map_cons, joinTail_cons, List.length_append, List.length_append, ih, List.map_cons, List.sum_cons, List.length_cons]
      simp
      omega
  cases xs with
  | nil => exact Nat.zero_le _
  | cons y ys =>
    rw [List.map_cons, Lib.join_cons, List.length_append, key, List.map_cons, List.sum_cons, List.length_cons]
    omega
/-- the plain text of a text's tokens has the same tokens -/
theorem plain_again (s : ByteArray) (hsum : ((scanA s).1.map fun t => t.x.t.length).sum ≤ s.size) (hlen : (scanA s).1.length ≤ s.size) :
    (plainT (((scanA s).1.map Tp.ta).map Ta.t)).size ≤ s.size + s.size ∧ (scanA (plainT (((scanA s).1.map Tp.ta).map Ta.t))).2 = none ∧ (scanA (plainT (((scanA s).1.map Tp.ta).map Ta.t))).1.map Tp.x = (scanA s).1.map Tp.x := by
  have hb := plain_bytes s
  have hsep := scanF_sep (sep_join ((scanA s).1.map Tp.x) (fun x hx => by
    obtain ⟨t, ht, rfl⟩ := List.mem_map.1 hx
    exact scanA_good s t ht)) (plainT (((scanA s).1.map Tp.ta).map Ta.t)).size 0 (1, 1) (by rw [← hb, size_list]; exact Nat.le_refl _)
  rw [← hb] at hsep
  refine ⟨?_, hsep⟩
  have h := join_len ((scanA s).1.map Tp.x)
  rw [← hb, size_list, List.length_map] at h
  have e : (((scanA s).1.map Tp.x).map fun x => x.t.length) = (scanA s).1.map fun t => t.x.t.length := by rw [List.map_map]; rfl
  rw [e] at h
  omega
/-- what lies between is blank -/
theorem blank_extract (s : ByteArray) (a b : Nat) (hb : b ≤ s.size) (h : skipL false ((s.data.toList.take b).drop a) = b - a) : skipE (s.extract a b) false 0 = (s.extract a b).size := by
  unfold skipE
  rw [List.drop_zero, Nat.zero_add, extract_list, h, ← size_list, extract_list, List.length_drop, List.length_take, size_list]
  omega
theorem tok_lies {s : ByteArray} {pre rest : List Tp} {t : Tp} (h : pre ++ t :: rest = (scanA s).1) :
    endN 0 pre ≤ t.a ∧ t.a + t.x.t.length ≤ s.size ∧ s.extract t.a (t.a + t.x.t.length) = mkB t.x.t ∧ skipE (s.extract (endN 0 pre) t.a) false 0 = (s.extract (endN 0 pre) t.a).size := by
  obtain ⟨h1, h2, h3, h4, h5⟩ := scanF_lies _ _ _ _ pre rest t h
  rw [size_list, Nat.zero_add] at h3
  rw [Nat.sub_zero] at h4 h5
  refine ⟨h1, h3, by rw [extract_mk, h4], ?_⟩
  exact blank_extract s _ _ (by omega) h5
theorem last_lies {s : ByteArray} (h : (scanA s).2 = none) : endN 0 (scanA s).1 ≤ s.size ∧ skipE (s.extract (endN 0 (scanA s).1) s.size) false 0 = (s.extract (endN 0 (scanA s).1) s.size).size := by
  obtain ⟨h1, h2, h3⟩ := scanF_last s.size s.data.toList 0 (1, 1) (by rw [size_list]; exact Nat.le_refl _) h
  have h1 : endN 0 (scanA s).1 ≤ 0 + s.data.toList.length := h1
  have h3 : skipL false (s.data.toList.drop (endN 0 (scanA s).1 - 0)) = 0 + s.data.toList.length - endN 0 (scanA s).1 := h3
  rw [size_list] at h1 h3
  refine ⟨by omega, blank_extract s _ _ (Nat.le_refl _) ?_⟩
  rw [List.take_of_length_le (by rw [size_list]; exact Nat.le_refl _)]
  rw [Nat.sub_zero] at h3
  rw [h3]
  omega
end Go.Proofs.YtmkfoknhjjgipaaGreatDoor
