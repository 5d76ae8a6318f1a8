/- The reference's Number. -/
import Derived.Test.YtkbmckmlnphpmaaGreatDoorH
set_option linter.unusedSimpArgs false
set_option linter.unusedVariables false
namespace Go.Proofs.YtkbmckmlnphpmaaGreatDoor
open Go.RowKit Go.Lib Go.Shelf

set_option maxRecDepth 100000 in
set_option maxHeartbeats 1000000 in
theorem digit_any (b : UInt8) (w : World) : Calls Tryz.prog 85 #[.int .u8 (b.toNat : Int)] w fun e w' => e = .returned (.bool (digB b)) ∧ w = w' := by
  unfold digB
  by_cases h1 : 48 ≤ b.toNat
  · have e1 : ((48 : Int) ≤ (b.toNat : Int)) := by omega
    have d1 : decide (48 ≤ b.toNat) = true := by simpa using h1
    have f1 : decide ((48 : Int) ≤ (b.toNat : Int)) = true := by simpa using e1
    by_cases h2 : b.toNat ≤ 57
    · have e2 : ((b.toNat : Int) ≤ 57) := by omega
      have d2 : decide (b.toNat ≤ 57) = true := by simpa using h2
      rw [d1, d2]
      clear d1 d2
      go_enter Tryz.func85, Tryz.ntmps85
      go_wp2
      go_ret
      exact ⟨rfl, rfl⟩
    · have e2 : ¬ ((b.toNat : Int) ≤ 57) := by omega
      have d2 : decide (b.toNat ≤ 57) = false := by simpa using h2
      rw [d1, d2]
      clear d1 d2
      go_enter Tryz.func85, Tryz.ntmps85
      go_wp2
      go_ret
      exact ⟨rfl, rfl⟩
  · have e1 : ¬ ((48 : Int) ≤ (b.toNat : Int)) := by omega
    have d1 : decide (48 ≤ b.toNat) = false := by simpa using h1
    rw [d1]
    clear d1
    go_enter Tryz.func85, Tryz.ntmps85
    go_wp2
    go_ret
    exact ⟨rfl, rfl⟩

def RefNum (s : ByteArray) (w : World) (e : Ending) (w' : World) : Prop := ∃ v er : Int, e = .returned (.tuple #[.int .u64 v, .int .i64 er]) ∧ (numI s = none → er = 15) ∧ (∀ u, numI s = some u → v = u ∧ er = 0) ∧ w = w'

theorem size_list (s : ByteArray) : s.data.toList.length = s.size := Array.length_toList
theorem get_list (s : ByteArray) (k : Nat) (hk : k < s.size) : s.data.toList[k]? = some (s[k]'hk) := by
  rw [List.getElem?_eq_getElem (by rw [size_list]; exact hk)]
  exact congrArg some (Array.getElem_toList (xs := s.data) (by exact hk))
theorem take_next (s : ByteArray) (k : Nat) (hk : k < s.size) : s.data.toList.take (k + 1) = s.data.toList.take k ++ [s[k]'hk] := by
  rw [List.take_add_one, get_list s k hk]; rfl
theorem take_val (s : ByteArray) (k : Nat) : valF 0 (s.data.toList.take k) ≤ valF 0 s.data.toList := by
  have h := valF_app 0 (s.data.toList.take k) (s.data.toList.drop k)
  rw [List.take_append_drop] at h
  rw [h]
  exact valF_ge _ _

set_option maxRecDepth 100000 in
set_option maxHeartbeats 2000000 in
theorem refNumber_any (s : ByteArray) (w : World) (hs : s.size ≤ 1000000) : Calls Tryz.prog 55 #[.string s] w (RefNum s w) := by
  have hB := Lib.hid (show ∀ (k : Nat) (hk : k < s.size) (w : World), Calls Tryz.prog 85 #[.int .u8 ((s[k]'hk).toNat : Int)] w fun e w' => e = .returned (.bool (digB (s[k]'hk))) ∧ w = w' from fun k hk w => digit_any _ w)
  by_cases h1 : s.size < 1
  · have e1 : ((s.size : Int) < 1) := by omega
    have hn := Lib.hid (numI_zero (s := s) (by unfold canonB; rw [size_list]; simp; omega))
    go_enter Tryz.func55, Tryz.ntmps55
    go_wp2
    go_ret2
    exact ⟨0, 15, rfl, fun _ => rfl, (fun u h => by rw [hn.out] at h; cases h), rfl⟩
  · have e1 : ¬ ((s.size : Int) < 1) := by omega
    by_cases h2 : 20 < s.size
    · have e2 : (20 : Int) < (s.size : Int) := by omega
      have hn := Lib.hid (numI_long h2)
      go_enter Tryz.func55, Tryz.ntmps55
      go_wp2
      go_ret2
      exact ⟨0, 15, rfl, fun _ => rfl, (fun u h => by rw [hn.out] at h; cases h), rfl⟩
    · have e2 : ¬ (20 : Int) < (s.size : Int) := by omega
      have hk0 : 0 < s.size := by omega
      by_cases h3 : 1 < s.size ∧ (s[0]'hk0).toNat = 48
      · have e3 : (1 : Int) < (s.size : Int) := by omega
        have e4 : ((s[0]'hk0).toNat : Int) = 48 := by omega
        have hn := Lib.hid (numI_zero (s := s) (by
          have hg := get_list s 0 hk0
          unfold canonB
          rw [size_list]
          have hh : s.data.toList.headD 0 = 48 := by
            cases hl : s.data.toList with
            | nil => rw [hl] at hg; simp at hg
            | cons c r =>
              rw [hl] at hg
              have : c = s[0]'hk0 := by simpa using hg
              show c = 48
              rw [this]
              exact UInt8.toNat_inj.1 h3.2
          rw [hh]
          have : ¬ s.size ≤ 1 := by omega
          simp [this]))
        go_enter Tryz.func55, Tryz.ntmps55
        go_wp2
        go_ret2
        exact ⟨0, 15, rfl, fun _ => rfl, (fun u h => by rw [hn.out] at h; cases h), rfl⟩
      · have hcan : s.data.toList.all digB = true → canonB s.data.toList = true := fun hall => by
          unfold canonB
          rw [hall, Bool.and_true, size_list, decide_eq_true hk0, Bool.true_and]
          by_cases h4 : s.size ≤ 1
          · rw [decide_eq_true h4, Bool.true_or]
          · have h5 : ¬ (s[0]'hk0).toNat = 48 := fun e => h3 ⟨by omega, e⟩
            have hg := get_list s 0 hk0
            cases hl : s.data.toList with
            | nil => rw [hl] at hg; simp at hg
            | cons c r =>
              rw [hl] at hg
              have : c = s[0]'hk0 := by simpa using hg
              have : c ≠ 48 := fun e => h5 (by rw [← this, e]; rfl)
              simp [this]
        have hcan' := Lib.hid hcan
        have key : Calls Tryz.prog 55 #[.string s] w (RefNum s w) := by
          have hpos : 0 < s.size := hk0
          rcases (show ((1 : Int) < (s.size : Int) ∧ ¬ ((s[0]'hk0).toNat : Int) = 48) ∨ (¬ (1 : Int) < (s.size : Int) ∧ True) from by
            by_cases h4 : 1 < s.size
            · exact .inl ⟨by omega, by omega⟩
            · exact .inr ⟨by omega, trivial⟩) with ⟨e3, e4⟩ | ⟨e3, e4⟩
          all_goals clear h3 hcan
          all_goals (
            go_enter Tryz.func55, Tryz.ntmps55
            go_wp2_with fail
            go_loopg [4, 5, 6] s.size (fun g s4 s5 s6 wr => ∃ k n : Nat, k + g = s.size ∧ s5 = .int .i64 k ∧ s4 = .int .u64 n ∧ n = valF 0 (s.data.toList.take k) ∧ n ≤ 18446744073709551615 ∧ (s.data.toList.take k).all digB = true ∧ w = wr)
            case atStart => exact ⟨0, 0, by omega, rfl, rfl, rfl, by omega, rfl, rfl⟩
            case round =>
              obtain ⟨k, n, hkg, rfl, rfl, hn, hn2, hall, rfl⟩ := hrel
              have hn' := Lib.hid hn
              have hall' := Lib.hid hall
              clear hn hall
              cases gk with
              | zero =>
                have e0 : ¬ ((k : Int) < (s.size : Int)) := by omega
                have htk : s.data.toList.take k = s.data.toList := List.take_of_length_le (by rw [size_list]; omega)
                have hv := hn'.out
                have ha := hall'.out
                rw [htk] at hv ha
                have hf := Lib.hid (numI_some (hcan'.out ha) (by omega))
                have hv' := Lib.hid hv
                clear htk hv ha
                go_wp2
                go_ret2
                exact ⟨_, _, rfl, (fun h => by rw [hf.out] at h; cases h), (fun u h => by rw [hf.out] at h; cases h; exact ⟨by rw [hv'.out], rfl⟩), rfl⟩
              | succ g =>
                have e0 : (k : Int) < (s.size : Int) := by omega
                have hk : k < s.size := by omega
                have hd := hB.out k hk w
                have htn := Lib.hid (take_next s k hk)
                cases hdb : digB (s[k]'hk)
                · rw [hdb] at hd
                  have hd' := Lib.hid hd
                  have hf := Lib.hid (numI_zero (s := s) (by
                    unfold canonB
                    have : s.data.toList.all digB = false := by
                      rw [List.all_eq_false]
                      exact ⟨s[k]'hk, List.mem_of_getElem? (get_list s k hk), by simp [hdb]⟩
                    rw [this, Bool.and_false]))
                  clear hd hdb
                  go_wp2_with fail
                  refine hd'.out.mono ?_
                  rintro e w1 ⟨rfl, rfl⟩
                  go_wp2
                  go_ret2
                  exact ⟨0, 15, rfl, fun _ => rfl, (fun u h => by rw [hf.out] at h; cases h), rfl⟩
                · rw [hdb] at hd
                  have hd' := Lib.hid hd
                  have hb := (dig_iff (s[k]'hk)).1 hdb
                  have hdb' := Lib.hid hdb
                  clear hd hdb
                  obtain ⟨d, hd⟩ : ∃ d : Nat, (s[k]'hk).toNat = 48 + d := ⟨(s[k]'hk).toNat - 48, by omega⟩
                  have hd9 : d ≤ 9 := by omega
                  have hdZ : ((s[k]'hk).toNat : Int) = 48 + (d : Int) := by omega
                  have w1 : IntKind.u8.wrap (48 + (d : Int) - 48) = (d : Int) := by rw [IntKind.wrap_u8]; omega
                  have hd2 := hd'.out
                  rw [hdZ] at hd2
                  have hd3 := Lib.hid hd2
                  clear hd2
                  go_wp2_with fail
                  refine hd3.out.mono ?_
                  rintro e w1 ⟨rfl, rfl⟩
                  have w2 : IntKind.u64.wrap (18446744073709551615 - (d : Int)) = 18446744073709551615 - (d : Int) := by rw [IntKind.wrap_u64]; omega
                  by_cases hov : (18446744073709551615 - d) / 10 < n
                  · have q1 : ((18446744073709551615 - (d : Int)) / 10 < (n : Int)) := by omega
                    have hf := Lib.hid (numI_over (s := s) (by
                      have h5 := take_val s (k + 1)
                      rw [htn.out, valF_snoc, hd, ← hn'.out] at h5
                      omega))
                    go_wp2
                    go_ret2
                    exact ⟨0, 15, rfl, fun _ => rfl, (fun u h => by rw [hf.out] at h; cases h), rfl⟩
                  · have q1 : ¬ ((18446744073709551615 - (d : Int)) / 10 < (n : Int)) := by omega
                    have hov' : n * 10 + d ≤ 18446744073709551615 := by omega
                    go_wp2
                    go_roundg g
                    case measure => omega
                    case rel =>
                      refine ⟨k + 1, n * 10 + d, by omega, by go_num, by go_num, ?_, hov', ?_, rfl⟩
                      · rw [htn.out, valF_snoc, hd, ← hn'.out]; omega
                      · rw [htn.out, List.all_append, hall'.out]
                        simp [hdb'.out])
        exact key
end Go.Proofs.YtkbmckmlnphpmaaGreatDoor
