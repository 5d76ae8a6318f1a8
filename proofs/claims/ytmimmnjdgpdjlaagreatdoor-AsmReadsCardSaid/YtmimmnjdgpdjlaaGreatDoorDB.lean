/- The reference's find; numbers with a sign; a register's operand. -/
import Derived.Test.YtmimmnjdgpdjlaaGreatDoorDA
set_option linter.unusedSimpArgs false
set_option linter.unusedVariables false
namespace Go.Proofs.YtmimmnjdgpdjlaaGreatDoor
open Go.RowKit Go.Lib Go.Shelf

theorem lis_at {W : World} {b : Nat} {L : List (List UInt8)} {k : Nat} {x : List UInt8} (hb : W.heap[b]? = some (.cells (lisC L) 9 (0, 0))) (h : L[k]? = some x) : W.cell? ⟨b, k, none⟩ = some (.string (bt x)) := by
  rw [blk_cell hb]
  simp [lisC, h]
set_option maxRecDepth 100000 in
set_option maxHeartbeats 1000000 in
theorem find93_any (L : List (List UInt8)) (n : Nat) (hn : L.length = n) (hlen : n ≤ 1000) (b : Nat) (w : World) (hb : w.heap[b]? = some (.cells (lisC L) 9 (0, 0))) (s : ByteArray) :
    Calls Tryz.prog 93 #[.slice (some ⟨b, 0, none⟩) n n, .string s] w fun e w' => e = .returned (.int .i64 (((idxW L s.data.toList).getD 0 : Nat) : Int)) ∧ w = w' := by
  have hhit := Lib.hid (fun (k : Nat) (x : List UInt8) (hx : L[k]? = some x) (hno : ∀ (j : Nat) (y : List UInt8), j < k → L[j]? = some y → y ≠ s.data.toList) (h : x = s.data.toList) => (show (k : Int) = (((idxW L s.data.toList).getD 0 : Nat) : Int) by rw [idxW_step hx hno h]; rfl))
  have hend := Lib.hid (fun (hno : ∀ (j : Nat) (y : List UInt8), L[j]? = some y → y ≠ s.data.toList) => (show (0 : Int) = (((idxW L s.data.toList).getD 0 : Nat) : Int) by rw [idxW_none hno]; rfl))
  obtain ⟨R, hR⟩ : ∃ R, (((idxW L s.data.toList).getD 0 : Nat) : Int) = R := ⟨_, rfl⟩
  rw [hR] at hhit hend ⊢
  have hn' := Lib.hid hn
  have hb' := Lib.hid hb
  clear hR hb hn
  go_enter Tryz.func93, Tryz.ntmps93
  go_wp2_with fail
  go_loopg [5] n (fun g s5 wr => ∃ k : Nat, k + g = n ∧ s5 = .int .i64 k ∧ (∀ (j : Nat) (y : List UInt8), j < k → L[j]? = some y → y ≠ s.data.toList) ∧ w = wr)
  case atStart => exact ⟨0, by omega, rfl, fun j y h => absurd h (by omega), rfl⟩
  case round =>
    obtain ⟨k, hkg, rfl, hno, rfl⟩ := hrel
    have hno := Lib.hid hno
    cases gk with
    | zero =>
      have e0 : ¬ ((k : Int) < (n : Int)) := by omega
      have hfin := Lib.hid (hend.out fun j y hy => hno.out j y (by have := (List.getElem?_eq_some_iff.1 hy).1; rw [hn'.out] at this; omega) hy)
      go_wp2
      go_ret
      exact ⟨by rw [← hfin.out]; rfl, rfl⟩
    | succ g2 =>
      have e0 : (k : Int) < (n : Int) := by omega
      have hx := at_get (L := L) (k := k) (by rw [hn'.out]; omega)
      have cx := lis_at hb'.out hx
      obtain ⟨x, hxe⟩ : ∃ x, atW L (k : Int) = x := ⟨_, rfl⟩
      rw [hxe] at hx cx
      have heq := toList_beq x s
      have hx := Lib.hid hx
      by_cases hxs : x = s.data.toList
      · have hfin := Lib.hid (hhit.out k x hx.out hno.out hxs)
        rw [decide_eq_true hxs] at heq
        clear hxs hxe
        go_wp2
        go_ret
        exact ⟨by rw [← hfin.out]; rfl, rfl⟩
      · rw [decide_eq_false hxs] at heq
        have hxs := Lib.hid hxs
        clear hxe
        go_wp2
        go_roundg g2
        case measure => omega
        case rel =>
          refine ⟨k + 1, by omega, by go_num, fun j y hj hy => ?_, rfl⟩
          rcases Nat.lt_or_ge j k with h | h
          · exact hno.out j y h hy
          · obtain rfl : j = k := by omega
            rw [hx.out] at hy
            cases hy
            exact hxs.out
theorem digits91_any (s : ByteArray) (w : World) (hs : s.size ≤ 2000000) : Calls Tryz.prog 91 #[.string s] w fun e w' => e = .returned (.tuple #[.int .u64 (((numI s).getD 0 : Nat) : Int), .bool (numI s).isSome]) ∧ w = w' := by
  have hn := Lib.hid (refNumber_any s w hs)
  obtain ⟨a, ha⟩ : ∃ a : Int, (((numI s).getD 0 : Nat) : Int) = a := ⟨_, rfl⟩
  obtain ⟨q, hqq⟩ : ∃ q : Bool, (numI s).isSome = q := ⟨_, rfl⟩
  rw [ha, hqq]
  have ha' := Lib.hid ha
  have hq' := Lib.hid hqq
  clear ha hqq
  go_enter Tryz.func91, Tryz.ntmps91
  go_wp2_with fail
  refine hn.out.mono ?_
  rintro e w2 ⟨v, er, rfl, h1, h2, rfl⟩
  cases hq : numI s with
  | none =>
    obtain ⟨rfl, rfl⟩ := h1 hq
    have hz := Lib.hid hq
    clear h1 h2 hq
    go_wp2
    go_ret2
    exact ⟨by rw [← ha'.out, ← hq'.out, hz.out]; rfl, rfl⟩
  | some u =>
    obtain ⟨rfl, rfl⟩ := h2 u hq
    have hz := Lib.hid hq
    clear h1 h2 hq
    go_wp2
    go_ret2
    exact ⟨by rw [← ha'.out, ← hq'.out, hz.out]; rfl, rfl⟩
theorem numI_bt (l : List UInt8) : numI (bt l) = numS l := rfl
theorem bt_empty_iff (s : ByteArray) : s.size = 0 → s.data.toList = [] := fun h => List.length_eq_zero_iff.1 (by rw [size_list]; exact h)
theorem head_get (s : ByteArray) (h : 0 < s.size) : s.data.toList.head? = some (s[0]'h) := by rw [List.head?_eq_getElem?]; exact get_list s 0 h
theorem tail_extract (s : ByteArray) : s.extract 1 s.size = bt s.data.toList.tail := by rw [extract_from, List.drop_one]
theorem trim_of_ne (c : UInt8) (l : List UInt8) (h : l.head? ≠ some c) : trimP c l = l := by
  cases l with
  | nil => rfl
  | cons b r => rw [trimP, if_neg (fun e => h (by rw [e]; rfl))]
theorem trim_tail (c : UInt8) (l : List UInt8) (h : l.head? = some c) : trimP c l = l.tail := by
  cases l with
  | nil => cases h
  | cons b r =>
    obtain rfl : b = c := by simpa using h
    rw [trimP, if_pos rfl]; rfl
theorem neg_wrapR (n : Nat) (h : n < 18446744073709551616) : IntKind.wrap .u64 (-(n : Int)) = ((neg64 n : Nat) : Int) := by
  rw [wrap_u64]
  unfold neg64
  split <;> omega
theorem numS_lt' (l : List UInt8) : (numS l).getD 0 < 18446744073709551616 := by
  cases h : numS l with
  | none => decide
  | some u => exact numI_lt h
set_option maxRecDepth 100000 in
theorem signed90_any (s : ByteArray) (w : World) (hs : s.size ≤ 2000000) : Calls Tryz.prog 90 #[.string s] w fun e w' => e = .returned (.int .u64 ((numP s.data.toList : Nat) : Int)) ∧ w = w' := by
  by_cases h0 : s.size = 0
  · have hl := bt_empty_iff s h0
    have hd := Lib.hid (digits91_any s w hs)
    have hv := Lib.hid (show (((numI s).getD 0 : Nat) : Int) = ((numP s.data.toList : Nat) : Int) by
      unfold numP
      rw [hl, if_neg (by simp), ← bt_data s, hl]
      rfl)
    have e0 : ¬ (0 : Int) < (s.size : Int) := by omega
    clear hl h0
    go_enter Tryz.func90, Tryz.ntmps90
    go_wp2_with fail
    refine hd.out.mono ?_
    rintro e w2 ⟨rfl, rfl⟩
    go_wp2
    go_ret
    exact ⟨by rw [← hv.out]; rfl, rfl⟩
  · have hp : 0 < s.size := by omega
    have e0 : (0 : Int) < (s.size : Int) := by omega
    have hh := head_get s hp
    by_cases hc : s[0]'hp = 45
    · have e1 : (((s[0]'hp).toNat : Int) == 45) = true := by rw [hc]; rfl
      have hd := digits91_any (s.extract 1 s.size) w (by rw [tail_extract, bt_size, List.length_tail, size_list]; omega)
      have hv := Lib.hid (show IntKind.wrap .u64 (-(((numI (s.extract 1 s.size)).getD 0 : Nat) : Int)) = ((numP s.data.toList : Nat) : Int) by
        rw [tail_extract, numI_bt, neg_wrapR _ (numS_lt' _)]
        unfold numP
        rw [if_pos (by rw [hh, hc]), trim_tail 45 _ (by rw [hh, hc])])
      obtain ⟨v, hv0⟩ : ∃ v, (((numI (s.extract 1 s.size)).getD 0 : Nat) : Int) = v := ⟨_, rfl⟩
      rw [hv0] at hd hv
      have hd := Lib.hid hd
      have hw1 : (1 : Int) ≤ (s.size : Int) := by omega
      clear hh hc hv0 h0
      go_enter Tryz.func90, Tryz.ntmps90
      go_wp2_with fail
      refine hd.out.mono ?_
      rintro e w2 ⟨rfl, rfl⟩
      go_wp2
      go_ret
      exact ⟨by rw [← hv.out]; rfl, rfl⟩
    · have e1 : (((s[0]'hp).toNat : Int) == 45) = false := by
        have : (s[0]'hp).toNat ≠ (45 : UInt8).toNat := fun e => hc (UInt8.toNat_inj.1 e)
        have h45 : (45 : UInt8).toNat = 45 := rfl
        simp; omega
      have hd := Lib.hid (digits91_any s w hs)
      have hv := Lib.hid (show (((numI s).getD 0 : Nat) : Int) = ((numP s.data.toList : Nat) : Int) by
        have hne : s.data.toList.head? ≠ some 45 := by rw [hh]; intro e; exact hc (Option.some.inj e)
        unfold numP
        rw [if_neg hne, trim_of_ne 45 _ hne, ← numI_bt, bt_data])
      clear hh hc h0
      go_enter Tryz.func90, Tryz.ntmps90
      go_wp2_with fail
      refine hd.out.mono ?_
      rintro e w2 ⟨rfl, rfl⟩
      go_wp2
      go_ret
      exact ⟨by rw [← hv.out]; rfl, rfl⟩
end Go.Proofs.YtmimmnjdgpdjlaaGreatDoor
