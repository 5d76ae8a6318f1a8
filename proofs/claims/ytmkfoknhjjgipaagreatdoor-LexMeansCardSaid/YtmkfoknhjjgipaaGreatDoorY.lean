/- The reference's skip and sign. -/
import Derived.Test.YtmkfoknhjjgipaaGreatDoorX
set_option linter.unusedSimpArgs false
set_option linter.unusedVariables false
namespace Go.Proofs.YtmkfoknhjjgipaaGreatDoor
open Go.RowKit Go.Lib Go.Shelf

theorem skipF_blank {b : UInt8} {l : List UInt8} (hb : blankB b = true) (hn : b.toNat ≠ 35) : skipL false (b :: l) = skipL false l + 1 := by rw [skipL, if_neg hn, if_pos hb]
theorem skipF_hash {b : UInt8} {l : List UInt8} (hb : b.toNat = 35) : skipL false (b :: l) = skipL true (b :: l) := by
  rw [skipL.eq_def true, skipL.eq_def false]
  simp only [if_pos hb, if_neg (show ¬ b.toNat = 10 by omega)]
theorem skipT_step {b : UInt8} {l : List UInt8} (hb : b.toNat ≠ 10) : skipL true (b :: l) = skipL true l + 1 := by rw [skipL, if_neg hb]
theorem skipT_nl {b : UInt8} {l : List UInt8} (hb : b.toNat = 10) : skipL true (b :: l) = skipL false (b :: l) := by
  rw [skipL, if_pos hb, skipF_blank (by unfold blankB; rw [hb]; rfl) (by omega)]
def skipE (s : ByteArray) (b : Bool) (a : Nat) : Nat := a + skipL b (s.data.toList.drop a)
theorem skipE_end {s : ByteArray} {b : Bool} {a : Nat} (h : s.size ≤ a) : skipE s b a = a := by
  unfold skipE
  rw [List.drop_eq_nil_iff.2 (by rw [size_list]; exact h)]
  cases b <;> rfl
theorem skipE_le {s : ByteArray} {b : Bool} {a : Nat} (h : a ≤ s.size) : skipE s b a ≤ s.size := by
  unfold skipE
  have := skip_le (s.data.toList.drop a) b
  rw [List.length_drop, size_list] at this
  omega
theorem skipE_ge {s : ByteArray} {b : Bool} {a : Nat} : a ≤ skipE s b a := Nat.le_add_right _ _
theorem skipE_stop {s : ByteArray} {a : Nat} (h : a < s.size) (hb : blankB (s[a]'h) = false) (hn : (s[a]'h).toNat ≠ 35) : skipE s false a = a := by
  unfold skipE
  rw [drop_cons h, skipL, if_neg hn, if_neg (by rw [hb]; decide)]
  rfl
theorem skipE_blank {s : ByteArray} {a : Nat} (h : a < s.size) (hb : blankB (s[a]'h) = true) (hn : (s[a]'h).toNat ≠ 35) : skipE s false a = skipE s false (a + 1) := by
  unfold skipE
  rw [drop_cons h, skipF_blank hb hn]
  omega
theorem skipE_hash {s : ByteArray} {a : Nat} (h : a < s.size) (hn : (s[a]'h).toNat = 35) : skipE s false a = skipE s true a := by
  unfold skipE
  rw [drop_cons h, skipF_hash hn]
theorem skipE_step {s : ByteArray} {a : Nat} (h : a < s.size) (hn : (s[a]'h).toNat ≠ 10) : skipE s true a = skipE s true (a + 1) := by
  unfold skipE
  rw [drop_cons h, skipT_step hn]
  omega
theorem skipE_nl {s : ByteArray} {a : Nat} (h : a < s.size) (hn : (s[a]'h).toNat = 10) : skipE s true a = skipE s false a := by
  unfold skipE
  rw [drop_cons h, skipT_nl hn]
set_option maxRecDepth 100000 in
set_option maxHeartbeats 4000000 in
theorem skip_any (s : ByteArray) (a : Nat) (w : World) (hs : s.size ≤ 2000000) (ha : a ≤ s.size) : Calls Tryz.prog 44 #[.string s, .int .i64 a] w fun e w' => e = .returned (.int .i64 (skipE s false a : Nat)) ∧ w' = w := by
  obtain ⟨T, hT⟩ : ∃ T, skipE s false a = T := ⟨_, rfl⟩
  have hT' := Lib.hid hT
  rw [hT]
  clear hT
  go_enter Tryz.func44, Tryz.ntmps44
  go_wp2_with fail
  go_loopg [1] (s.size - a) (fun g s1 wr => ∃ c : Nat, s.size - c = g ∧ s1 = .int .i64 ((c : Nat) : Int) ∧ c ≤ s.size ∧ skipE s false c = T ∧ wr = w)
  case atStart => exact ⟨a, rfl, rfl, ha, hT'.out, rfl⟩
  case round =>
    obtain ⟨c, hcg, rfl, hc, hcT, rfl⟩ := hrel
    have hcT := Lib.hid hcT
    rcases Nat.lt_or_ge c s.size with hlt | hge
    · have e0 : (c : Int) < (s.size : Int) := by omega
      by_cases h35 : (s[c]'hlt).toNat = 35
      · have e35 : ((s[c]'hlt).toNat : Int) = 35 := by omega
        have hst := Lib.hid (show skipE s true c = T by rw [← skipE_hash hlt h35]; exact hcT.out)
        have hn10 := Lib.hid (show (s[c]'hlt).toNat ≠ 10 by omega)
        have hlth := Lib.hid hlt
        have x32 : (((s[c]'hlt).toNat : Int) == 32) = false := by simp; omega
        have x9 : (((s[c]'hlt).toNat : Int) == 9) = false := by simp; omega
        have x10 : (((s[c]'hlt).toNat : Int) == 10) = false := by simp; omega
        have x13 : (((s[c]'hlt).toNat : Int) == 13) = false := by simp; omega
        have x35 : (((s[c]'hlt).toNat : Int) == 35) = true := by simp; omega
        clear h35
        go_wp2_with fail
        go_loopg [1] (s.size - c) (fun g s1 wr2 => ∃ d : Nat, s.size - d = g ∧ s1 = .int .i64 ((d : Nat) : Int) ∧ d ≤ s.size ∧ c ≤ d ∧ skipE s true d = T ∧ wr2 = wr)
        case atStart => exact ⟨c, rfl, rfl, hc, Nat.le_refl _, hst.out, rfl⟩
        case round =>
          obtain ⟨d, hdg, rfl, hd, hcd, hdT, rfl⟩ := hrel
          have hdT := Lib.hid hdT
          clear x32 x9 x10 x13 x35 e35
          rcases Nat.lt_or_ge d s.size with hdlt | hdge
          · have f0 : (d : Int) < (s.size : Int) := by omega
            by_cases h10 : (s[d]'hdlt).toNat = 10
            · have hcd2 : c < d := by
                rcases Nat.lt_or_ge c d with h | h
                · exact h
                · obtain rfl : d = c := by omega
                  exact absurd h10 hn10.out
              have f10 : (((s[d]'hdlt).toNat : Int) != 10) = false := by simp; omega
              have hnx := Lib.hid (show skipE s false d = T by rw [← skipE_nl hdlt h10]; exact hdT.out)
              clear h10
              go_wp2
              go_roundg (s.size - d)
              case measure => omega
              case rel => exact ⟨d, rfl, rfl, hd, hnx.out, rfl⟩
            · have f10 : (((s[d]'hdlt).toNat : Int) != 10) = true := by simp; omega
              have hnx := Lib.hid (show skipE s true (d + 1) = T by rw [← skipE_step hdlt h10]; exact hdT.out)
              clear h10
              go_wp2
              go_roundg (s.size - (d + 1))
              case measure => omega
              case rel => exact ⟨d + 1, rfl, by go_num, hdlt, by omega, hnx.out, rfl⟩
          · have f0 : ¬ (d : Int) < (s.size : Int) := by omega
            have hnx := Lib.hid (show skipE s false d = T by rw [skipE_end hdge, ← hdT.out, skipE_end hdge])
            go_wp2
            go_roundg (s.size - d)
            case measure => omega
            case rel => exact ⟨d, rfl, rfl, hd, hnx.out, rfl⟩
      · have h35' := Lib.hid h35
        by_cases hbk : (s[c]'hlt).toNat = 32 ∨ (s[c]'hlt).toNat = 9 ∨ (s[c]'hlt).toNat = 10 ∨ (s[c]'hlt).toNat = 13
        · have hnx := Lib.hid (show skipE s false (c + 1) = T by
            rw [← skipE_blank hlt ?_ h35]
            · exact hcT.out
            · unfold blankB
              simp only [Bool.or_eq_true, beq_iff_eq]
              omega)
          have h35b := h35
          clear h35
          rcases hbk with hbk | hbk | hbk | hbk
          all_goals
            first | have ebk : ((s[c]'hlt).toNat : Int) = 32 := by omega | have ebk : ((s[c]'hlt).toNat : Int) = 9 := by omega | have ebk : ((s[c]'hlt).toNat : Int) = 10 := by omega | have ebk : ((s[c]'hlt).toNat : Int) = 13 := by omega
            go_wp2
            go_roundg (s.size - (c + 1))
            case measure => omega
            case rel => exact ⟨c + 1, rfl, by go_num, hlt, hnx.out, rfl⟩
        · have hfin := Lib.hid (show c = T from (hcT.out.symm.trans (skipE_stop hlt (by
            unfold blankB
            simp only [Bool.or_eq_false_iff, beq_eq_false_iff_ne]
            omega) h35)).symm)
          have x32 : (((s[c]'hlt).toNat : Int) == 32) = false := by simp; omega
          have x9 : (((s[c]'hlt).toNat : Int) == 9) = false := by simp; omega
          have x10 : (((s[c]'hlt).toNat : Int) == 10) = false := by simp; omega
          have x13 : (((s[c]'hlt).toNat : Int) == 13) = false := by simp; omega
          have x35 : (((s[c]'hlt).toNat : Int) == 35) = false := by simp; omega
          clear h35 hbk
          go_wp2
          go_ret
          exact ⟨congrArg (fun x : Nat => Ending.returned (.int .i64 (x : Int))) hfin.out, rfl⟩
    · have e0 : ¬ (c : Int) < (s.size : Int) := by omega
      have hfin := Lib.hid (show c = T from (hcT.out.symm.trans (skipE_end hge)).symm)
      go_wp2
      go_ret
      exact ⟨congrArg (fun x : Nat => Ending.returned (.int .i64 (x : Int))) hfin.out, rfl⟩
end Go.Proofs.YtmkfoknhjjgipaaGreatDoor
