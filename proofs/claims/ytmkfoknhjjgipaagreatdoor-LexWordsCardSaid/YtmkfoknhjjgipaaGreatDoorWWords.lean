/- LexWords: the walk. -/
import Derived.Test.YtmkfoknhjjgipaaGreatDoorO
set_option linter.unusedSimpArgs false
set_option linter.unusedVariables false
namespace Go.Proofs.YtmkfoknhjjgipaaGreatDoor
open Go.RowKit Go.Lib Go.Shelf

set_option maxRecDepth 100000 in
set_option maxHeartbeats 8000000 in
theorem lexWords_any (s : ByteArray) (w : World) (hE : Env w) : Calls Tryz.prog 3 #[.string s] w (OkPost w) := by
  have hEh := Lib.hid hE
  by_cases h9 : 9000 < s.size
  · have e9 : (9000 : Int) < (s.size : Int) := by omega
    have hk := Lib.hid (known_any w hE)
    clear hE
    go_enter Tryz.func3, Tryz.ntmps3
    go_wp2_with fail
    refine hk.out.mono ?_
    rintro e w1 ⟨rfl, hb⟩
    have hb := Lib.hid hb
    go_wp2
    go_ret
    exact ⟨rfl, hb.out⟩
  · have e9 : ¬ (9000 : Int) < (s.size : Int) := by omega
    have hs : s.size ≤ 2000000 := by omega
    have h1 := Lib.hid (number_any s w hE hs)
    have hnum : ∃ (n : Nat) (er : Int), (∀ w e w', NumPost s w e w' → e = .returned (.tuple #[.int .u64 n, .int .i64 er]) ∧ Below w.heap.size w w') ∧ ∀ w e w', RefNum s w e w' → e = .returned (.tuple #[.int .u64 n, .int .i64 er]) ∧ w = w' := by
      rcases hq : numI s with _ | u
      · refine ⟨0, 15, fun w e w' h => ⟨h.1 hq, h.2.2⟩, fun w e w' ⟨v, er, h1, h2, _, h3⟩ => ?_⟩
        obtain ⟨rfl, rfl⟩ := h2 hq
        exact ⟨h1, h3⟩
      · refine ⟨u, 0, fun w e w' h => ⟨h.2.1 u hq, h.2.2⟩, fun w e w' ⟨v, er, h1, _, h2, h3⟩ => ?_⟩
        obtain ⟨rfl, rfl⟩ := h2 u hq
        exact ⟨h1, h3⟩
    obtain ⟨n, er, hp, hr⟩ := hnum
    have h1 := Lib.hid ((number_any s w hE hs).mono (hp w))
    have h2 := Lib.hid fun W => (refNumber_any s W hs).mono (hr W)
    have h3 := Lib.hid fun W => name_any s W hs
    have h4 := Lib.hid fun W => refName_any s W hs
    have h5 := Lib.hid fun W => own_any s W
    have h6 := Lib.hid fun W => refOwn_any s W
    generalize nameB s = nb at h3 h4
    generalize ownB s = ob at h5 h6
    clear hE hp hr hs
    go_enter Tryz.func3, Tryz.ntmps3
    go_wp2_with fail
    refine h1.out.mono ?_
    rintro e w1 ⟨rfl, hb1⟩
    have hb1h := Lib.hid hb1
    clear hb1
    go_wp2_with fail
    refine (h2.out w1).mono ?_
    rintro e w1 ⟨rfl, rfl⟩
    go_wp2_with fail
    refine (h3.out _).mono ?_
    rintro e w2 ⟨rfl, hb2⟩
    have hb2h := Lib.hid (Below.next hb1h.out hb2)
    clear hb2
    go_wp2_with fail
    refine (h4.out _).mono ?_
    rintro e w3 ⟨rfl, hb3⟩
    have hb3h := Lib.hid (Below.next hb2h.out hb3)
    clear hb3
    have enb : (nb == nb) = true := by simp
    have eob : (ob == ob) = true := by simp
    go_wp2_with fail
    refine (h5.out _).mono ?_
    rintro e w4 ⟨rfl, hb4⟩
    have hb4h := Lib.hid (Below.next hb3h.out hb4)
    clear hb4
    go_wp2_with fail
    refine (h6.out _).mono ?_
    rintro e w5 ⟨rfl, hb5⟩
    have hb5h := Lib.hid (Below.next hb4h.out hb5)
    clear hb5
    have h7 := Lib.hid (num_any er)
    go_wp2_with fail
    refine (h7.out _).mono ?_
    rintro e w6 ⟨rfl, rfl⟩
    have h8 := Lib.hid (known_any w5 (hEh.out.below hb5h.out))
    go_wp2_with fail
    refine h8.out.mono ?_
    rintro e w7 ⟨rfl, hb7⟩
    have hb7h := Lib.hid (Below.next hb5h.out hb7)
    clear hb7
    go_wp2
    go_ret
    exact ⟨rfl, hb7h.out⟩
end Go.Proofs.YtmkfoknhjjgipaaGreatDoor
