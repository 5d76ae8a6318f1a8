/- The reference's cut and find; numbers with a sign; a register's operand. -/
import Derived.Test.YtmimmnjdgpdjlaaGreatDoorAE
set_option linter.unusedSimpArgs false
set_option linter.unusedVariables false
namespace Go.Proofs.YtmimmnjdgpdjlaaGreatDoor
open Go.RowKit Go.Lib Go.Shelf

theorem extract_bytes (s : ByteArray) (a b : Nat) : s.extract a b = bt ((s.data.toList.take b).drop a) := by
  refine ext_bytes ?_
  rw [bt_list, ByteArray.data_extract, Array.toList_extract]
  simp [List.drop_take]
theorem extract_to (s : ByteArray) (k : Nat) : s.extract 0 k = bt (s.data.toList.take k) := by rw [extract_bytes, List.drop_zero]
theorem extract_from (s : ByteArray) (k : Nat) : s.extract k s.size = bt (s.data.toList.drop k) := by rw [extract_bytes, List.take_of_length_le (by rw [size_list]; exact Nat.le_refl _)]
theorem cut_at (c : UInt8) : ∀ (l : List UInt8) (k : Nat), l[k]? = some c → (∀ j b, j < k → l[j]? = some b → b ≠ c) → cutL c l = (l.take k, l.drop (k + 1))
  | [], k, h, _ => by simp at h
  | b :: l, 0, h, _ => by
    obtain rfl : b = c := by simpa using h
    rw [cutL, if_pos rfl]
    rfl
  | b :: l, k + 1, h, hno => by
    have ih := cut_at c l k (by simpa using h) fun j x hj hx => hno (j + 1) x (by omega) (by simpa using hx)
    rw [cutL, if_neg (hno 0 b (by omega) rfl), ih]
    rfl
set_option maxRecDepth 100000 in
set_option maxHeartbeats 4000000 in
theorem cut42_any (s : ByteArray) (c : UInt8) (z : Int) (hz : (c.toNat : Int) = z) (w : World) (hs : s.size ≤ 2000000) : Calls Tryz.prog 42 #[.string s, .int .u8 z] w fun e w' =>
    e = .returned (.tuple #[.string (bt (cutL c s.data.toList).1), .string (bt (cutL c s.data.toList).2)]) ∧ Below w.heap.size w w' := by
  subst hz
  have hend := Lib.hid (fun (h : c ∉ s.data.toList) => (⟨by rw [cut_none c _ h]; exact (bt_data s).symm, by rw [cut_none c _ h]; rfl⟩ : s = bt (cutL c s.data.toList).1 ∧ (⟨#[]⟩ : ByteArray) = bt (cutL c s.data.toList).2))
  have hhit := Lib.hid (fun (k : Nat) (h : s.data.toList[k]? = some c) (hno : ∀ j b, j < k → s.data.toList[j]? = some b → b ≠ c) => (⟨by rw [cut_at c _ k h hno]; exact extract_to s k, by rw [cut_at c _ k h hno]; exact extract_from s (k + 1)⟩ : s.extract 0 k = bt (cutL c s.data.toList).1 ∧ s.extract (k + 1) s.size = bt (cutL c s.data.toList).2))
  obtain ⟨Y1, hY1⟩ : ∃ Y, bt (cutL c s.data.toList).1 = Y := ⟨_, rfl⟩
  obtain ⟨Y2, hY2⟩ : ∃ Y, bt (cutL c s.data.toList).2 = Y := ⟨_, rfl⟩
  rw [hY1, hY2] at hend hhit ⊢
  clear hY1 hY2
  obtain ⟨n, hn⟩ : ∃ n, s.size = n := ⟨_, rfl⟩
  rw [hn] at hs
  have hn' := Lib.hid hn
  clear hn
  have hsz : (s.size : Int) = (n : Int) := by rw [hn'.out]
  go_enter Tryz.func42, Tryz.ntmps42
  go_wp2_with fail
  go_loopg [6] n (fun g s6 wr => ∃ k : Nat, k + g = n ∧ s6 = .int .i64 k ∧ w = wr ∧ ∀ (j : Nat) (b : UInt8), j < k → s.data.toList[j]? = some b → b ≠ c)
  case atStart => exact ⟨0, by omega, rfl, rfl, fun j b h => absurd h (by omega)⟩
  case round =>
    obtain ⟨k, hkg, rfl, hw, hno⟩ := hrel
    subst hw
    have hno := Lib.hid hno
    cases gk with
    | zero =>
      have e0 : ¬ ((k : Int) < (s.size : Int)) := by omega
      have hf := Lib.hid (hend.out fun hm => by
        obtain ⟨j, hj⟩ := List.getElem?_of_mem hm
        have hjl := (List.getElem?_eq_some_iff.1 hj).1
        rw [size_list, hn'.out] at hjl
        exact hno.out j c (by omega) hj rfl)
      go_wp2
      go_ret2
      exact ⟨by rw [← hf.out.2, ← hf.out.1]; rfl, Below.refl _ _⟩
    | succ g2 =>
      have hk : k < s.size := by rw [hn'.out]; omega
      have e0 : (k : Int) < (s.size : Int) := by omega
      have hgk := get_list s k hk
      by_cases hc : s[k]'hk = c
      · have e1 : (((s[k]'hk).toNat : Int) == (c.toNat : Int)) = true := by rw [hc]; simp
        obtain ⟨f1, f2⟩ := hhit.out k (by rw [hgk, hc]) hno.out
        have hw1 : (k : Int) + 1 ≤ (s.size : Int) := by omega
        clear hgk hc
        go_wp2_with fail
        go_quiet (fail)
        go_wp2
        go_ret2
        exact ⟨rfl, below_drewN (Below.refl _ _) _⟩
      · have e1 : (((s[k]'hk).toNat : Int) == (c.toNat : Int)) = false := by
          have : (s[k]'hk).toNat ≠ c.toNat := fun e => hc (UInt8.toNat_inj.1 e)
          simp; omega
        have hnx := Lib.hid (fun (j : Nat) (b : UInt8) (hj : j < k + 1) (hb : s.data.toList[j]? = some b) => (show b ≠ c from by
          rcases Nat.lt_or_ge j k with h | h
          · exact hno.out j b h hb
          · obtain rfl : j = k := by omega
            rw [hgk] at hb
            cases hb
            exact hc))
        clear hgk hc
        go_wp2
        go_roundg g2
        case measure => omega
        case rel => exact ⟨k + 1, by omega, by go_num, rfl, hnx.out⟩
end Go.Proofs.YtmimmnjdgpdjlaaGreatDoor
