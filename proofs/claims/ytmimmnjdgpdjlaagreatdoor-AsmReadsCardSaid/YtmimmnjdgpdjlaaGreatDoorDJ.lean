/- Texts read as code, the program and the reference: AsmReads. -/
import Derived.Test.YtmimmnjdgpdjlaaGreatDoorDI
import Derived.Test.YtmimmnjdgpdjlaaGreatDoorAM
set_option linter.unusedSimpArgs false
set_option linter.unusedVariables false
namespace Go.Proofs.YtmimmnjdgpdjlaaGreatDoor
open Go.RowKit Go.Lib Go.Shelf Go.MapKept

theorem read_len (s : List UInt8) : (readAll s).1.length ≤ 2000000 := by
  unfold readAll
  split
  · split
    · rename_i h
      by_cases hh : 1048576 < (readG s 0 []).1.length
      · rw [mayAll_long hh] at h
        cases h
      · show (readG s 0 []).1.length ≤ 2000000
        omega
    · exact Nat.zero_le _
  · exact Nat.zero_le _
set_option maxRecDepth 100000 in
set_option maxHeartbeats 16000000 in
theorem asmReads_any (s : ByteArray) (w : World) (hE : Env w) : Calls Tryz.prog 4 #[.string s] w (BoolPost true w) := by
  have hK := Lib.hid (fun W (hE : Env W) => known_any W hE)
  by_cases hs : 9000 < s.size
  · have e0 : (9000 : Int) < (s.size : Int) := by omega
    have hE' := Lib.hid hE
    clear hs hE
    go_enter Tryz.func4, Tryz.ntmps4
    go_wp2_with fail
    refine (hK.out _ hE'.out).mono ?_
    rintro e w2 ⟨rfl, hb2⟩
    go_wp2
    go_ret
    exact ⟨rfl, hb2⟩
  have e0 : ¬ (9000 : Int) < (s.size : Int) := by omega
  have hl : s.data.toList.length ≤ 9000 := by rw [size_list]; omega
  have h16 := fun W hE => read16_any s.data.toList W hE (.inl (by omega)) (by omega)
  have h17 := fun W hE => read17_any s.data.toList W hE (by omega)
  have hX : readX s.data.toList = readAll s.data.toList := by unfold readX; rw [if_neg (by omega)]
  have hlen : (readAll s.data.toList).1.length ≤ 2000000 := read_len _
  unfold Read16Post at h16
  unfold Read17Post at h17
  rw [bt_data] at h16 h17
  rw [hX] at h16
  obtain ⟨R, hR⟩ : ∃ R, readAll s.data.toList = R := ⟨_, rfl⟩
  rw [hR] at h16 h17 hlen
  have hsm := Lib.hid (fun A1 A2 c1 c2 W h1 h2 => same18_any R.1 A1 A2 c1 c2 W h1 h2 hlen)
  obtain ⟨n, hn⟩ : ∃ n : Int, (R.2.1 : Int) = n := ⟨_, rfl⟩
  obtain ⟨x, hx⟩ : ∃ n : Int, (R.2.2 : Int) = n := ⟨_, rfl⟩
  obtain ⟨k, hk⟩ : ∃ n, R.1.length = n := ⟨_, rfl⟩
  rw [hn, hx, hk] at h16 h17
  rw [hk] at hsm
  have h16 := Lib.hid h16
  have h17 := Lib.hid h17
  have hE' := Lib.hid (fun W (h : Below w.heap.size w W) => hE.below h)
  have hbw := Lib.hid (Below.refl w.heap.size w)
  clear hE hs hl hX hlen hR hn hx hk
  go_enter Tryz.func4, Tryz.ntmps4
  go_wp2_with fail
  refine (h16.out _ (hE'.out _ hbw.out)).mono ?_
  rintro e w2 ⟨A1, c1, rfl, hi1, hb2⟩
  have hbw := Lib.hid (Below.next hbw.out hb2)
  have hi1 := Lib.hid hi1
  clear hb2
  go_wp2_with fail
  refine (h17.out _ (hE'.out _ hbw.out)).mono ?_
  rintro e w3 ⟨A2, c2, rfl, hi2, hb3⟩
  have hbw := Lib.hid (Below.next hbw.out hb3)
  have hi1 := Lib.hid (hi1.out.keep hb3)
  have hi2 := Lib.hid hi2
  clear hb3
  go_wp2_with fail
  refine (hsm.out A1 A2 c1 c2 _ hi1.out hi2.out).mono ?_
  rintro e w4 ⟨rfl, hb4⟩
  have hbw := Lib.hid (Below.next hbw.out hb4)
  clear hb4
  go_wp2_with fail
  refine (num_any _ _).mono ?_
  rintro e w5 ⟨rfl, rfl⟩
  go_wp2_with fail
  refine (hK.out _ (hE'.out _ hbw.out)).mono ?_
  rintro e w11 ⟨rfl, hb11⟩
  have hbw := Lib.hid (Below.next hbw.out hb11)
  clear hb11
  go_wp2
  go_ret
  exact ⟨rfl, hbw.out⟩
end Go.Proofs.YtmimmnjdgpdjlaaGreatDoor
