/- LexPlaces: the reference's Place; the walk. -/
import Derived.Test.YtmkfoknhjjgipaaDoorO
set_option linter.unusedSimpArgs false
set_option linter.unusedVariables false
namespace Go.Proofs.YtmkfoknhjjgipaaDoor
open Go.RowKit Go.Lib Go.Shelf

theorem lc_next (s : ByteArray) (k : Nat) (hk : k < s.size) : lcF (1, 1) (s.data.toList.take (k + 1)) = lcS (lcF (1, 1) (s.data.toList.take k)) (s[k]'hk) := by
  rw [take_next s k hk, lcF_snoc]
theorem lc_bound (s : ByteArray) (k : Nat) (hk : k ≤ s.size) : (lcF (1, 1) (s.data.toList.take k)).1 ≤ s.size + 1 ∧ (lcF (1, 1) (s.data.toList.take k)).2 ≤ s.size + 2 := by
  have h := lcF_le (s.data.toList.take k) (1, 1)
  have hl : (s.data.toList.take k).length ≤ k := by rw [List.length_take]; omega
  dsimp only at h
  omega
set_option maxRecDepth 100000 in
set_option maxHeartbeats 4000000 in
theorem refPlace_any (s : ByteArray) (t : Int) (a : Nat) (w : World) (hs : s.size ≤ 2000000) (hT : t = (a : Int) ∨ a = 0 ∧ t ≤ 0 ∨ a = s.size ∧ (s.size : Int) ≤ t) (ha : a ≤ s.size) :
    Calls Tryd.prog 7 #[.string s, .int .i64 t] w fun e w' => e = .returned (.tuple #[.int .i64 (placeN s a).1, .int .i64 (placeN s a).2]) ∧ w' = w := by
  go_enter Tryd.func7, Tryd.ntmps7
  go_wp2_with fail
  go_loopg [6, 7, 8] a (fun g s6 s7 s8 wr => ∃ k, k + g = a ∧ s8 = .int .i64 ((k : Nat) : Int) ∧ s6 = .int .i64 (((lcF (1, 1) (s.data.toList.take k)).1 : Nat) : Int) ∧ s7 = .int .i64 (((lcF (1, 1) (s.data.toList.take k)).2 : Nat) : Int) ∧ wr = w)
  case atStart => exact ⟨0, by omega, rfl, rfl, rfl, rfl⟩
  case round =>
    obtain ⟨k, hkg, rfl, rfl, rfl, rfl⟩ := hrel
    have hbd := lc_bound s k (by omega)
    obtain ⟨M, hM⟩ : ∃ M, lcF (1, 1) (s.data.toList.take k) = M := ⟨_, rfl⟩
    rw [hM] at hbd ⊢
    obtain ⟨Ma, Mb⟩ := M
    dsimp only at hbd ⊢
    have hM := Lib.hid hM
    obtain ⟨hbd1, hbd2⟩ := hbd
    cases gk with
    | zero =>
      obtain rfl : k = a := by omega
      have hfin : Hid (placeN s k = (Ma, Mb)) := hM
      have hpost : Ending.returned (.tuple #[.int .i64 (Ma : Int), .int .i64 (Mb : Int)]) = Ending.returned (.tuple #[.int .i64 ((placeN s k).1 : Int), .int .i64 ((placeN s k).2 : Int)]) := by rw [hfin.out]
      have hpost := Lib.hid hpost
      rcases Nat.lt_or_ge k s.size with hlt | hge
      · have e0 : (k : Int) < (s.size : Int) := by omega
        have e1 : ¬ (k : Int) < t := by omega
        go_wp2
        go_ret2
        exact ⟨hpost.out, rfl⟩
      · have e0 : ¬ (k : Int) < (s.size : Int) := by omega
        go_wp2
        go_ret2
        exact ⟨hpost.out, rfl⟩
    | succ g =>
      have hks : k < s.size := by omega
      have e0 : (k : Int) < (s.size : Int) := by omega
      have e1 : (k : Int) < t := by omega
      have hnx := Lib.hid (show lcF (1, 1) (s.data.toList.take (k + 1)) = lcS (Ma, Mb) (s[k]'hks) by rw [lc_next s k hks, hM.out])
      by_cases h10 : (s[k]'hks).toNat = 10
      · have hn2 := Lib.hid (show lcF (1, 1) (s.data.toList.take (k + 1)) = (Ma + 1, 1) by rw [hnx.out]; unfold lcS; rw [if_pos h10])
        have g10 : ((s[k]'hks).toNat : Int) = 10 := by omega
        clear h10
        go_wp2
        go_roundg g
        case measure => omega
        case rel => exact ⟨k + 1, by omega, by go_num, by rw [hn2.out]; go_num, by rw [hn2.out]; rfl, rfl⟩
      · have hn2 := Lib.hid (show lcF (1, 1) (s.data.toList.take (k + 1)) = (Ma, Mb + 1) by rw [hnx.out]; unfold lcS; rw [if_neg h10])
        have g10 : ¬ ((s[k]'hks).toNat : Int) = 10 := by omega
        clear h10
        go_wp2
        go_roundg g
        case measure => omega
        case rel => exact ⟨k + 1, by omega, by go_num, by rw [hn2.out], by rw [hn2.out]; go_num, rfl⟩
set_option maxRecDepth 100000 in
set_option maxHeartbeats 4000000 in
theorem lexPlaces_any (s : ByteArray) (t : Int) (w : World) (hE : Env w) : Calls Tryd.prog 3 #[.string s, .int .i64 t] w (OkPost w) := by
  have hEh := Lib.hid hE
  by_cases h9 : 30000 < s.size
  · have e9 : (30000 : Int) < (s.size : Int) := by omega
    have hk := Lib.hid (known_any w hE)
    clear hE
    go_enter Tryd.func3, Tryd.ntmps3
    go_wp2_with fail
    refine hk.out.mono ?_
    rintro e w1 ⟨rfl, hb⟩
    have hb := Lib.hid hb
    go_wp2
    go_ret
    exact ⟨rfl, hb.out⟩
  · have e9 : ¬ (30000 : Int) < (s.size : Int) := by omega
    obtain ⟨a, hT, ha⟩ : ∃ a : Nat, (t = (a : Int) ∨ a = 0 ∧ t ≤ 0 ∨ a = s.size ∧ (s.size : Int) ≤ t) ∧ a ≤ s.size := by
      by_cases h0 : t ≤ 0
      · exact ⟨0, .inr (.inl ⟨rfl, h0⟩), Nat.zero_le _⟩
      · by_cases h1 : (s.size : Int) ≤ t
        · exact ⟨s.size, .inr (.inr ⟨rfl, h1⟩), Nat.le_refl _⟩
        · exact ⟨t.toNat, .inl (by omega), by omega⟩
    have h1 := line_any s t a w (by omega) hT ha
    have h2 := fun W => refPlace_any s t a W (by omega) hT ha
    unfold LinePost at h1
    obtain ⟨p, hp⟩ : ∃ p, placeN s a = p := ⟨_, rfl⟩
    rw [hp] at h1 h2
    obtain ⟨p1, p2⟩ := p
    have h1 := Lib.hid h1
    have h2 := Lib.hid h2
    clear hE hp hT
    have q1 : ((p1 : Int) == (p1 : Int)) = true := by simp
    have q2 : ((p2 : Int) == (p2 : Int)) = true := by simp
    go_enter Tryd.func3, Tryd.ntmps3
    go_wp2_with fail
    refine h1.out.mono ?_
    rintro e w1 ⟨rfl, hb1⟩
    have hb1 := Lib.hid hb1
    go_wp2_with fail
    refine (h2.out _).mono ?_
    rintro e w2 ⟨rfl, rfl⟩
    have h3 := Lib.hid (known_any w2 (hEh.out.below hb1.out))
    go_wp2_with fail
    refine h3.out.mono ?_
    rintro e w3 ⟨rfl, hb3⟩
    have hb3 := Lib.hid (Below.next hb1.out hb3)
    go_wp2
    go_ret
    exact ⟨rfl, hb3.out⟩
end Go.Proofs.YtmkfoknhjjgipaaDoor
