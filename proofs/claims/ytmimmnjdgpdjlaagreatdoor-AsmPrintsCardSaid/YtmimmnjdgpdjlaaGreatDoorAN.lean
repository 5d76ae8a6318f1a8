/- Code's text there and back: AsmBack. -/
import Derived.Test.YtmimmnjdgpdjlaaGreatDoorAL
import Derived.Test.YtmimmnjdgpdjlaaGreatDoorAM
set_option linter.unusedSimpArgs false
set_option linter.unusedVariables false
namespace Go.Proofs.YtmimmnjdgpdjlaaGreatDoor
open Go.RowKit Go.Lib Go.Shelf

theorem tell_ge : ∀ L : List In, L.length ≤ (tellT L).length
  | [] => by simp
  | i :: L => by
    have := tell_ge L
    rw [tell_cons]
    simp only [List.length_append, List.length_cons]
    omega
theorem readAll_er (s : List UInt8) : (readAll s).2.2 = 0 ∨ (readAll s).2.2 = 15 := by
  unfold readAll
  split
  · split
    · exact .inl rfl
    · exact .inr rfl
  · exact .inr rfl
theorem read_there (s : ByteArray) (h : s.size ≤ 9000) :
    (∃ (m : Nat) (k : Int), ∀ W, Env W → Calls Tryz.prog 16 #[.string s] W fun e w' => ∃ A c, e = .returned (.tuple #[.slice A m c, .int .i64 k, .int .i64 15]) ∧ Below W.heap.size W w') ∨
    (∃ X : List In, X.length ≤ 9000 ∧ (∀ i ∈ X, Fit i) ∧ mayAll X = true ∧ bt (tellT X) = s ∧ ∀ W, Env W → Calls Tryz.prog 16 #[.string s] W fun e w' => ∃ A c, e = .returned (.tuple #[.slice A X.length c, .int .i64 0, .int .i64 0]) ∧ InsAt w' X A ∧ Below W.heap.size W w') := by
  have hS : s.data.toList.length = s.size := by show s.data.toList.length = s.data.size; simp
  have hR := fun W (hE : Env W) => read16_any s.data.toList W hE (.inl (by omega)) (by omega)
  rw [bt_data] at hR
  unfold Read16Post at hR
  have hX : readX s.data.toList = readAll s.data.toList := by unfold readX; rw [if_neg (by omega)]
  rw [hX] at hR
  obtain ⟨X, n, e, hq⟩ : ∃ X n e, readAll s.data.toList = (X, n, e) := ⟨_, _, _, rfl⟩
  have her := readAll_er s.data.toList
  rw [hq] at hR her
  rcases her with h0 | h0
  · have h0 : e = 0 := h0
    subst h0
    obtain ⟨h1, h2, h3, h4⟩ := readAll_back hq
    subst h2
    refine .inr ⟨X, ?_, fun i hi => form_fit ((mayAll_parts h3).2.2 i hi).1 (h4 i hi), h3, by rw [← h1, bt_data], fun W hE => (hR W hE).mono fun e w' ⟨A, c, he, hI, hb⟩ => ⟨A, c, he, hI, hb⟩⟩
    have := tell_ge X
    rw [← h1] at this
    omega
  · have h0 : e = 15 := h0
    subst h0
    exact .inl ⟨X.length, n, fun W hE => (hR W hE).mono fun e w' ⟨A, c, he, hI, hb⟩ => ⟨A, c, he, hb⟩⟩
theorem print_there (L : List In) (hF : ∀ i ∈ L, Fit i) (hlen : L.length ≤ 9000) :
    (mayAll L = false ∧ ∀ (A : Option Addr) (c : Nat) W, Env W → InsAt W L A → Calls Tryz.prog 27 #[.slice A L.length c] W fun e w' => e = .returned (.tuple #[.string ⟨#[]⟩, .int .i64 2]) ∧ Below W.heap.size W w') ∨
    (mayAll L = true ∧ ∀ (A : Option Addr) (c : Nat) W, Env W → InsAt W L A → Calls Tryz.prog 27 #[.slice A L.length c] W fun e w' => e = .returned (.tuple #[.string (bt (tellT L)), .int .i64 0]) ∧ Below W.heap.size W w') := by
  have hP := fun (A : Option Addr) (c : Nat) W (hE : Env W) (hL : InsAt W L A) => print27_any L A c W hE hL hF (by omega)
  unfold PrintPost at hP
  cases hm : mayAll L with
  | false => rw [hm] at hP; exact .inl ⟨rfl, hP⟩
  | true => rw [hm] at hP; exact .inr ⟨rfl, hP⟩
theorem back_there (L : List In) (hF : ∀ i ∈ L, Fit i) (hlen : L.length ≤ 200) (hm : mayAll L = true) : ∀ W, Env W → Calls Tryz.prog 16 #[.string (bt (tellT L))] W fun e w' => ∃ A c, e = .returned (.tuple #[.slice A L.length c, .int .i64 0, .int .i64 0]) ∧ InsAt w' L A ∧ Below W.heap.size W w' := by
  have h1 := tell_len L fun i hi => form_of ((mayAll_parts hm).2.2 i hi).1 (hF i hi).1
  have hR := fun W (hE : Env W) => read16_any (tellT L) W hE (.inl (by omega)) (by omega)
  unfold Read16Post at hR
  have hX : readX (tellT L) = readAll (tellT L) := by unfold readX; rw [if_neg (by omega)]
  rw [hX, readAll_tell hm fun i hi => (hF i hi).1] at hR
  exact hR
set_option maxRecDepth 100000 in
set_option maxHeartbeats 16000000 in
theorem asmBack_any (L : List In) (A0 : Option Addr) (c0 : Nat) (s : ByteArray) (w : World) (hE : Env w) (hL : InsAt w L A0) (hF : ∀ i ∈ L, Fit i) : Calls Tryz.prog 8 #[.slice A0 L.length c0, .string s] w (BoolPost true w) := by
  have hK := Lib.hid (fun W (hE : Env W) => known_any W hE)
  have hE' := Lib.hid (fun W (h : Below w.heap.size w W) => hE.below h)
  have hL' := Lib.hid (fun W (h : Below w.heap.size w W) => hL.keep h)
  have hlist : (200 < L.length) ∨ (L.length ≤ 200 ∧ ∀ (A : Option Addr) (c : Nat) W, Env W → InsAt W L A → Calls Tryz.prog 27 #[.slice A L.length c] W fun e w' => e = .returned (.tuple #[.string ⟨#[]⟩, .int .i64 2]) ∧ Below W.heap.size W w') ∨
      (L.length ≤ 200 ∧ ∃ z, (∀ (A : Option Addr) (c : Nat) W, Env W → InsAt W L A → Calls Tryz.prog 27 #[.slice A L.length c] W fun e w' => e = .returned (.tuple #[.string z, .int .i64 0]) ∧ Below W.heap.size W w') ∧
        (∀ W, Env W → Calls Tryz.prog 16 #[.string z] W fun e w' => ∃ A c, e = .returned (.tuple #[.slice A L.length c, .int .i64 0, .int .i64 0]) ∧ InsAt w' L A ∧ Below W.heap.size W w') ∧
        ∀ (A1 A2 : Option Addr) (c1 c2 : Nat) W, InsAt W L A1 → InsAt W L A2 → Calls Tryz.prog 18 #[.slice A1 L.length c1, .slice A2 L.length c2] W fun e w' => e = .returned (.bool true) ∧ Below W.heap.size W w') := by
    by_cases h : 200 < L.length
    · exact .inl h
    · rcases print_there L hF (by omega) with ⟨_, hP⟩ | ⟨hm, hP⟩
      · exact .inr (.inl ⟨by omega, hP⟩)
      · exact .inr (.inr ⟨by omega, _, hP, back_there L hF (by omega) hm, fun A1 A2 c1 c2 W h1 h2 => same18_any L A1 A2 c1 c2 W h1 h2 (by omega)⟩)
  have htext : (9000 < s.size) ∨ (s.size ≤ 9000 ∧ ∃ (m : Nat) (k : Int), ∀ W, Env W → Calls Tryz.prog 16 #[.string s] W fun e w' => ∃ A c, e = .returned (.tuple #[.slice A m c, .int .i64 k, .int .i64 15]) ∧ Below W.heap.size W w') ∨
      (s.size ≤ 9000 ∧ ∃ X : List In, (∀ W, Env W → Calls Tryz.prog 16 #[.string s] W fun e w' => ∃ A c, e = .returned (.tuple #[.slice A X.length c, .int .i64 0, .int .i64 0]) ∧ InsAt w' X A ∧ Below W.heap.size W w') ∧
        ∀ (A : Option Addr) (c : Nat) W, Env W → InsAt W X A → Calls Tryz.prog 27 #[.slice A X.length c] W fun e w' => e = .returned (.tuple #[.string s, .int .i64 0]) ∧ Below W.heap.size W w') := by
    by_cases h : 9000 < s.size
    · exact .inl h
    · rcases read_there s (by omega) with h1 | ⟨X, h1, h2, h3, h4, h5⟩
      · exact .inr (.inl ⟨by omega, h1⟩)
      · refine .inr (.inr ⟨by omega, X, h5, ?_⟩)
        rcases print_there X h2 h1 with ⟨hm, _⟩ | ⟨_, hP⟩
        · rw [h3] at hm; cases hm
        · rw [h4] at hP; exact hP
  clear hE hL hF
  obtain ⟨n, hnn⟩ : ∃ n, L.length = n := ⟨_, rfl⟩
  rw [hnn] at hlist ⊢
  clear hnn
  have hbw := Lib.hid (Below.refl w.heap.size w)
  rcases htext with h9 | ⟨h9, m, k, hRd⟩ | ⟨h9, X, hRd, hPr⟩
  · have e9 : ¬ (s.size : Int) ≤ 9000 := by omega
    rcases hlist with hmu | ⟨hmu, hP⟩ | ⟨hmu, z, hP, hRz, hSm⟩
    · go_enter Tryz.func8, Tryz.ntmps8
      go_wp2_with fail
      refine (hK.out _ (hE'.out _ hbw.out)).mono ?_
      rintro e w1 ⟨rfl, hb1⟩
      have hbw := Lib.hid (Below.next hbw.out hb1)
      clear hb1
      go_wp2_with fail
      refine (much26_any _ _ _ _ true (.inl ⟨rfl, hmu⟩)).mono ?_
      rintro e w6 ⟨rfl, rfl⟩
      go_wp2
      go_ret
      exact ⟨rfl, hbw.out⟩
    · have hP := Lib.hid hP
      go_enter Tryz.func8, Tryz.ntmps8
      go_wp2_with fail
      refine (hK.out _ (hE'.out _ hbw.out)).mono ?_
      rintro e w1 ⟨rfl, hb1⟩
      have hbw := Lib.hid (Below.next hbw.out hb1)
      clear hb1
      go_wp2_with fail
      refine (much26_any _ _ _ _ false (.inr ⟨rfl, hmu⟩)).mono ?_
      rintro e w6 ⟨rfl, rfl⟩
      go_wp2_with fail
      refine (hP.out _ _ _ (hE'.out _ hbw.out) (hL'.out _ hbw.out)).mono ?_
      rintro e w7 ⟨rfl, hb7⟩
      have hbw := Lib.hid (Below.next hbw.out hb7)
      clear hb7
      go_wp2_with fail
      refine (num_any _ _).mono ?_
      rintro e w8 ⟨rfl, rfl⟩
      go_wp2
      go_ret
      exact ⟨rfl, hbw.out⟩
    · have hP := Lib.hid hP
      have hRz := Lib.hid hRz
      have hSm := Lib.hid hSm
      go_enter Tryz.func8, Tryz.ntmps8
      go_wp2_with fail
      refine (hK.out _ (hE'.out _ hbw.out)).mono ?_
      rintro e w1 ⟨rfl, hb1⟩
      have hbw := Lib.hid (Below.next hbw.out hb1)
      clear hb1
      go_wp2_with fail
      refine (much26_any _ _ _ _ false (.inr ⟨rfl, hmu⟩)).mono ?_
      rintro e w6 ⟨rfl, rfl⟩
      go_wp2_with fail
      refine (hP.out _ _ _ (hE'.out _ hbw.out) (hL'.out _ hbw.out)).mono ?_
      rintro e w7 ⟨rfl, hb7⟩
      have hbw := Lib.hid (Below.next hbw.out hb7)
      clear hb7
      go_wp2_with fail
      refine (num_any _ _).mono ?_
      rintro e w8 ⟨rfl, rfl⟩
      go_wp2_with fail
      refine (hRz.out _ (hE'.out _ hbw.out)).mono ?_
      rintro e w9 ⟨A9, c9, rfl, hI9, hb9⟩
      have hbw := Lib.hid (Below.next hbw.out hb9)
      have hI9 := Lib.hid hI9
      clear hb9
      go_wp2_with fail
      refine (hSm.out _ _ _ _ _ hI9.out (hL'.out _ hbw.out)).mono ?_
      rintro e w10 ⟨rfl, hb10⟩
      have hbw := Lib.hid (Below.next hbw.out hb10)
      clear hb10
      go_wp2_with fail
      refine (num_any _ _).mono ?_
      rintro e w11 ⟨rfl, rfl⟩
      go_wp2
      go_ret
      exact ⟨rfl, hbw.out⟩
  · have e9 : (s.size : Int) ≤ 9000 := by omega
    have hRd := Lib.hid hRd
    rcases hlist with hmu | ⟨hmu, hP⟩ | ⟨hmu, z, hP, hRz, hSm⟩
    · go_enter Tryz.func8, Tryz.ntmps8
      go_wp2_with fail
      refine (hK.out _ (hE'.out _ hbw.out)).mono ?_
      rintro e w1 ⟨rfl, hb1⟩
      have hbw := Lib.hid (Below.next hbw.out hb1)
      clear hb1
      go_wp2_with fail
      refine (hRd.out _ (hE'.out _ hbw.out)).mono ?_
      rintro e w2 ⟨A, c, rfl, hb2⟩
      have hbw := Lib.hid (Below.next hbw.out hb2)
      clear hb2
      go_wp2_with fail
      refine (num_any _ _).mono ?_
      rintro e w3 ⟨rfl, rfl⟩
      go_wp2_with fail
      refine (much26_any _ _ _ _ true (.inl ⟨rfl, hmu⟩)).mono ?_
      rintro e w6 ⟨rfl, rfl⟩
      go_wp2
      go_ret
      exact ⟨rfl, hbw.out⟩
    · have hP := Lib.hid hP
      go_enter Tryz.func8, Tryz.ntmps8
      go_wp2_with fail
      refine (hK.out _ (hE'.out _ hbw.out)).mono ?_
      rintro e w1 ⟨rfl, hb1⟩
      have hbw := Lib.hid (Below.next hbw.out hb1)
      clear hb1
      go_wp2_with fail
      refine (hRd.out _ (hE'.out _ hbw.out)).mono ?_
      rintro e w2 ⟨A, c, rfl, hb2⟩
      have hbw := Lib.hid (Below.next hbw.out hb2)
      clear hb2
      go_wp2_with fail
      refine (num_any _ _).mono ?_
      rintro e w3 ⟨rfl, rfl⟩
      go_wp2_with fail
      refine (much26_any _ _ _ _ false (.inr ⟨rfl, hmu⟩)).mono ?_
      rintro e w6 ⟨rfl, rfl⟩
      go_wp2_with fail
      refine (hP.out _ _ _ (hE'.out _ hbw.out) (hL'.out _ hbw.out)).mono ?_
      rintro e w7 ⟨rfl, hb7⟩
      have hbw := Lib.hid (Below.next hbw.out hb7)
      clear hb7
      go_wp2_with fail
      refine (num_any _ _).mono ?_
      rintro e w8 ⟨rfl, rfl⟩
      go_wp2
      go_ret
      exact ⟨rfl, hbw.out⟩
    · have hP := Lib.hid hP
      have hRz := Lib.hid hRz
      have hSm := Lib.hid hSm
      go_enter Tryz.func8, Tryz.ntmps8
      go_wp2_with fail
      refine (hK.out _ (hE'.out _ hbw.out)).mono ?_
      rintro e w1 ⟨rfl, hb1⟩
      have hbw := Lib.hid (Below.next hbw.out hb1)
      clear hb1
      go_wp2_with fail
      refine (hRd.out _ (hE'.out _ hbw.out)).mono ?_
      rintro e w2 ⟨A, c, rfl, hb2⟩
      have hbw := Lib.hid (Below.next hbw.out hb2)
      clear hb2
      go_wp2_with fail
      refine (num_any _ _).mono ?_
      rintro e w3 ⟨rfl, rfl⟩
      go_wp2_with fail
      refine (much26_any _ _ _ _ false (.inr ⟨rfl, hmu⟩)).mono ?_
      rintro e w6 ⟨rfl, rfl⟩
      go_wp2_with fail
      refine (hP.out _ _ _ (hE'.out _ hbw.out) (hL'.out _ hbw.out)).mono ?_
      rintro e w7 ⟨rfl, hb7⟩
      have hbw := Lib.hid (Below.next hbw.out hb7)
      clear hb7
      go_wp2_with fail
      refine (num_any _ _).mono ?_
      rintro e w8 ⟨rfl, rfl⟩
      go_wp2_with fail
      refine (hRz.out _ (hE'.out _ hbw.out)).mono ?_
      rintro e w9 ⟨A9, c9, rfl, hI9, hb9⟩
      have hbw := Lib.hid (Below.next hbw.out hb9)
      have hI9 := Lib.hid hI9
      clear hb9
      go_wp2_with fail
      refine (hSm.out _ _ _ _ _ hI9.out (hL'.out _ hbw.out)).mono ?_
      rintro e w10 ⟨rfl, hb10⟩
      have hbw := Lib.hid (Below.next hbw.out hb10)
      clear hb10
      go_wp2_with fail
      refine (num_any _ _).mono ?_
      rintro e w11 ⟨rfl, rfl⟩
      go_wp2
      go_ret
      exact ⟨rfl, hbw.out⟩
  · have e9 : (s.size : Int) ≤ 9000 := by omega
    have hRd := Lib.hid hRd
    have hPr := Lib.hid hPr
    rcases hlist with hmu | ⟨hmu, hP⟩ | ⟨hmu, z, hP, hRz, hSm⟩
    · go_enter Tryz.func8, Tryz.ntmps8
      go_wp2_with fail
      refine (hK.out _ (hE'.out _ hbw.out)).mono ?_
      rintro e w1 ⟨rfl, hb1⟩
      have hbw := Lib.hid (Below.next hbw.out hb1)
      clear hb1
      go_wp2_with fail
      refine (hRd.out _ (hE'.out _ hbw.out)).mono ?_
      rintro e w2 ⟨A, c, rfl, hIX, hb2⟩
      have hbw := Lib.hid (Below.next hbw.out hb2)
      have hIX := Lib.hid hIX
      clear hb2
      go_wp2_with fail
      refine (num_any _ _).mono ?_
      rintro e w3 ⟨rfl, rfl⟩
      go_wp2_with fail
      refine (hPr.out _ _ _ (hE'.out _ hbw.out) hIX.out).mono ?_
      rintro e w4 ⟨rfl, hb4⟩
      have hbw := Lib.hid (Below.next hbw.out hb4)
      clear hb4
      go_wp2_with fail
      refine (num_any _ _).mono ?_
      rintro e w5 ⟨rfl, rfl⟩
      go_wp2_with fail
      refine (much26_any _ _ _ _ true (.inl ⟨rfl, hmu⟩)).mono ?_
      rintro e w6 ⟨rfl, rfl⟩
      go_wp2
      go_ret
      exact ⟨rfl, hbw.out⟩
    · have hP := Lib.hid hP
      go_enter Tryz.func8, Tryz.ntmps8
      go_wp2_with fail
      refine (hK.out _ (hE'.out _ hbw.out)).mono ?_
      rintro e w1 ⟨rfl, hb1⟩
      have hbw := Lib.hid (Below.next hbw.out hb1)
      clear hb1
      go_wp2_with fail
      refine (hRd.out _ (hE'.out _ hbw.out)).mono ?_
      rintro e w2 ⟨A, c, rfl, hIX, hb2⟩
      have hbw := Lib.hid (Below.next hbw.out hb2)
      have hIX := Lib.hid hIX
      clear hb2
      go_wp2_with fail
      refine (num_any _ _).mono ?_
      rintro e w3 ⟨rfl, rfl⟩
      go_wp2_with fail
      refine (hPr.out _ _ _ (hE'.out _ hbw.out) hIX.out).mono ?_
      rintro e w4 ⟨rfl, hb4⟩
      have hbw := Lib.hid (Below.next hbw.out hb4)
      clear hb4
      go_wp2_with fail
      refine (num_any _ _).mono ?_
      rintro e w5 ⟨rfl, rfl⟩
      go_wp2_with fail
      refine (much26_any _ _ _ _ false (.inr ⟨rfl, hmu⟩)).mono ?_
      rintro e w6 ⟨rfl, rfl⟩
      go_wp2_with fail
      refine (hP.out _ _ _ (hE'.out _ hbw.out) (hL'.out _ hbw.out)).mono ?_
      rintro e w7 ⟨rfl, hb7⟩
      have hbw := Lib.hid (Below.next hbw.out hb7)
      clear hb7
      go_wp2_with fail
      refine (num_any _ _).mono ?_
      rintro e w8 ⟨rfl, rfl⟩
      go_wp2
      go_ret
      exact ⟨rfl, hbw.out⟩
    · have hP := Lib.hid hP
      have hRz := Lib.hid hRz
      have hSm := Lib.hid hSm
      go_enter Tryz.func8, Tryz.ntmps8
      go_wp2_with fail
      refine (hK.out _ (hE'.out _ hbw.out)).mono ?_
      rintro e w1 ⟨rfl, hb1⟩
      have hbw := Lib.hid (Below.next hbw.out hb1)
      clear hb1
      go_wp2_with fail
      refine (hRd.out _ (hE'.out _ hbw.out)).mono ?_
      rintro e w2 ⟨A, c, rfl, hIX, hb2⟩
      have hbw := Lib.hid (Below.next hbw.out hb2)
      have hIX := Lib.hid hIX
      clear hb2
      go_wp2_with fail
      refine (num_any _ _).mono ?_
      rintro e w3 ⟨rfl, rfl⟩
      go_wp2_with fail
      refine (hPr.out _ _ _ (hE'.out _ hbw.out) hIX.out).mono ?_
      rintro e w4 ⟨rfl, hb4⟩
      have hbw := Lib.hid (Below.next hbw.out hb4)
      clear hb4
      go_wp2_with fail
      refine (num_any _ _).mono ?_
      rintro e w5 ⟨rfl, rfl⟩
      go_wp2_with fail
      refine (much26_any _ _ _ _ false (.inr ⟨rfl, hmu⟩)).mono ?_
      rintro e w6 ⟨rfl, rfl⟩
      go_wp2_with fail
      refine (hP.out _ _ _ (hE'.out _ hbw.out) (hL'.out _ hbw.out)).mono ?_
      rintro e w7 ⟨rfl, hb7⟩
      have hbw := Lib.hid (Below.next hbw.out hb7)
      clear hb7
      go_wp2_with fail
      refine (num_any _ _).mono ?_
      rintro e w8 ⟨rfl, rfl⟩
      go_wp2_with fail
      refine (hRz.out _ (hE'.out _ hbw.out)).mono ?_
      rintro e w9 ⟨A9, c9, rfl, hI9, hb9⟩
      have hbw := Lib.hid (Below.next hbw.out hb9)
      have hI9 := Lib.hid hI9
      clear hb9
      go_wp2_with fail
      refine (hSm.out _ _ _ _ _ hI9.out (hL'.out _ hbw.out)).mono ?_
      rintro e w10 ⟨rfl, hb10⟩
      have hbw := Lib.hid (Below.next hbw.out hb10)
      clear hb10
      go_wp2_with fail
      refine (num_any _ _).mono ?_
      rintro e w11 ⟨rfl, rfl⟩
      go_wp2
      go_ret
      exact ⟨rfl, hbw.out⟩
end Go.Proofs.YtmimmnjdgpdjlaaGreatDoor
