/- The reference's Split: the lines of a text. -/
import Derived.Test.YtkbmckmlnphpmaaGreatDoorAQ
import Derived.BigQuiet
import Derived.Deep.QuietTactic
set_option linter.unusedSimpArgs false
set_option linter.unusedVariables false
namespace Go.Proofs.YtkbmckmlnphpmaaGreatDoor
open Go.RowKit Go.Lib Go.Shelf

def restB (l : List UInt8) : ByteArray := ⟨(linesF l).2.toArray⟩
def SplitPost (s : ByteArray) (w : World) (e : Ending) (w' : World) : Prop := ∃ A c, e = .returned (.tuple #[.slice A (linesB s.data.toList).length c, .string (restB s.data.toList)]) ∧ SAt w' A (linesB s.data.toList) ∧ Below w.heap.size w w'
theorem map_back (L : List ByteArray) : (L.map (·.data.toList)).map (fun p => (⟨p.toArray⟩ : ByteArray)) = L := by
  rw [List.map_map]
  have : ((fun l : List UInt8 => (⟨l.toArray⟩ : ByteArray)) ∘ fun x : ByteArray => x.data.toList) = id := by funext x; simp
  rw [this, List.map_id]

set_option maxRecDepth 100000 in
set_option maxHeartbeats 2000000 in
theorem refSplit_any (s : ByteArray) (w : World) (hs : s.size ≤ 1000000) : Calls Tryz.prog 61 #[.string s] w (SplitPost s w) := by
  obtain ⟨i0, hi, hz0, hz1, hz2⟩ := info_parts info9
  have hi' := Lib.hid (And.intro hi (And.intro hz0 (And.intro hz1 hz2)))
  clear hi hz0 hz1 hz2
  go_enter Tryz.func61, Tryz.ntmps61
  go_wp2_with fail
  go_loopg [4, 5, 6] s.size (fun g s4 s5 s6 wr => ∃ (k a n : Nat) (L : List ByteArray), k + g = s.size ∧ s6 = .int .i64 k ∧ s5 = .int .i64 a ∧ L.length = n ∧ n ≤ k ∧ a ≤ k ∧ wr.ownsRow w.heap.size 9 1 s4 n (sCells L) ∧ linesF (s.data.toList.take k) = (L.map (·.data.toList), (s.data.toList.take k).drop a) ∧ Below w.heap.size w wr)
  case atStart => exact ⟨0, 0, 0, [], by omega, rfl, rfl, rfl, by omega, by omega, ⟨rfl, .inl ⟨rfl, rfl⟩⟩, rfl, Below.refl _ _⟩
  case round =>
    obtain ⟨k, a, n, L, hkg, rfl, rfl, hL, hnk, hak, ho, hp, hb⟩ := hrel
    have hp' := Lib.hid hp
    have ho' := Lib.hid ho
    have hb' := Lib.hid hb
    have hL' := Lib.hid hL
    clear hp ho hb hL
    cases gk with
    | zero =>
      obtain rfl : k = s.size := by omega
      have e0 : ¬ ((s.size : Int) < (s.size : Int)) := by omega
      obtain ⟨A, c, rfl, hA⟩ := own_SAt ho'.out hL'.out
      have hA' := Lib.hid hA
      have hfin := Lib.hid (show n = (linesB s.data.toList).length ∧ L = linesB s.data.toList ∧ s.extract a s.size = restB s.data.toList from by
        have htk : s.data.toList.take s.size = s.data.toList := List.take_of_length_le (by rw [size_list]; exact Nat.le_refl _)
        have h1 := hp'.out
        rw [htk] at h1
        have e1 : linesB s.data.toList = L := by unfold linesB; rw [h1]; exact map_back L
        refine ⟨by rw [e1]; exact hL'.out.symm, e1.symm, ?_⟩
        apply ext_bytes
        unfold restB
        rw [h1, extract_list, htk])
      have i1 : (0 : Int) ≤ (a : Int) := by omega
      have i2 : (a : Int) ≤ (s.size : Int) := by omega
      clear hA
      go_wp2
      go_quiet (fail)
      go_wp2
      go_ret2
      obtain ⟨f1, f2, f3⟩ := hfin.out
      refine ⟨A, c, ?_, ?_, ?_⟩
      · rw [← f1, ← f3]; try rfl
      · rw [← f2]; exact hA'.out.below (below_drewN (Below.refl _ _) _)
      · exact below_drewN hb'.out _
    | succ g =>
      have e0 : (k : Int) < (s.size : Int) := by omega
      have hks : k < s.size := by omega
      have hown := Lib.hid ((show wr.ownsRow w.heap.size 9 1 u4 n (sCells L) from ho'.out).alloc (.cells #[.string (s.extract a k)] 9))
      have hnew := Lib.hid (cell_one_new wr (.string (s.extract a k)) 9)
      have hbA := Lib.hid ((Below.refl wr.heap.size wr).alloc (Nat.le_refl _) (.cells #[.string (s.extract a k)] 9))
      have hone := Lib.hid (show ∀ v ∈ [Value.string (s.extract a k)], v.oneCell' = true by simp [Value.oneCell'])
      have hszw := hb'.out.size
      have hbs := Lib.hid (show w.heap.size ≤ (wr.alloc (.cells #[.string (s.extract a k)] 9)).heap.size by simp; omega)
      have hk1 := Lib.hid (show n + 1 ≤ maxLen by unfold maxLen; omega)
      have hk2 := Lib.hid (show (n + 1) * 16 ≤ 140737488355328 by omega)
      have hak2 : (a : Int) ≤ (k : Int) := by omega
      obtain ⟨hj1, hj2, hj3, hj4⟩ := hi'.out
      have htn := Lib.hid (take_next s k hks)
      have hsn := Lib.hid (lines_snoc (s[k]'hks) _ _ _ hp'.out)
      by_cases hsp : (s[k]'hks).toNat = 10
      · have e3 : ((s[k]'hks).toNat : Int) = 10 := by omega
        have hb10 := Lib.hid (show s[k]'hks = 10 from UInt8.toNat_inj.1 hsp)
        go_wp2_with ((at_builtin; refine wpList_append_own_at _ rfl _ _ 67 rfl w.heap.size 9 i0 _ 1 16 und67 hj1 hj2 hj3 hj4 rfl (by decide) u4 n (sCells L) rfl hown.out ⟨wr.heap.size, 0, none⟩ 1 1 [.string (s.extract a k)] rfl rfl hnew.out hone.out hk1.out hk2.out hbs.out ?_; intro v' w4 hown4 hg4 hnil4 hat4))
        have hB4 : Below w.heap.size w w4 := (Below.next hb'.out hbA.out).grown hg4 (by simp; omega) (fun g' e => (hown.out.lt g' e).1)
        have hB4' := Lib.hid hB4
        have hown4' := Lib.hid hown4
        clear hB4 hown4 hg4 hnil4 hat4
        go_wp2
        go_roundg g
        case measure => omega
        case rel =>
          refine ⟨k + 1, k + 1, n + 1, L ++ [s.extract a k], by omega, by go_num, by go_num, by simp [hL'.out], by omega, by omega, ?_, ?_, hB4'.out⟩
          · simpa [sCells] using hown4'.out
          · have h1 := hsn.out
            rw [if_pos hb10.out] at h1
            rw [htn.out, h1, List.map_append]
            congr 1
            · simp only [List.map_cons, List.map_nil]
              rw [extract_list]
            · rw [List.drop_eq_nil_of_le (by simp [size_list]; omega)]
      · have e3 : ¬ ((s[k]'hks).toNat : Int) = 10 := by omega
        have e5 : (((s[k]'hks).toNat : Int) == 10) = false := by simpa using e3
        have hb10 := Lib.hid (show ¬ s[k]'hks = 10 from fun e => hsp (by rw [e]; rfl))
        go_wp2
        go_roundg g
        case measure => omega
        case rel =>
          refine ⟨k + 1, a, n, L, by omega, by go_num, rfl, hL'.out, by omega, by omega, ho'.out, ?_, hb'.out⟩
          have h1 := hsn.out
          rw [if_neg hb10.out] at h1
          rw [htn.out, h1]
          congr 1
          rw [List.drop_append_of_le_length (by rw [List.length_take, size_list]; omega)]
end Go.Proofs.YtkbmckmlnphpmaaGreatDoor
