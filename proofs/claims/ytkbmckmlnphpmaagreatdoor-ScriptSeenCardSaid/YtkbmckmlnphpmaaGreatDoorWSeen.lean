/- ScriptSeen: what was seen, told and read again; the walk. -/
import Derived.Test.YtkbmckmlnphpmaaGreatDoorAW
import Derived.Test.YtkbmckmlnphpmaaGreatDoorAJ
set_option linter.unusedSimpArgs false
set_option linter.unusedVariables false
namespace Go.Proofs.YtkbmckmlnphpmaaGreatDoor
open Go.RowKit Go.Lib Go.Shelf

theorem seenT_no32 (x : Sn) : ∀ b ∈ (seenT x).data.toList, b ≠ 32 := by
  unfold seenT
  split
  · decide
  · split
    · decide
    · exact dec_no _ 32 (by decide)
theorem unsT_seenT (x : Sn) (h : toldB x = true) (hr : 0 ≤ x.a ∧ x.a ≤ 18446744073709551615) : unsT (seenT x) = some x := by
  obtain ⟨j, t, a⟩ := x
  unfold toldB at h
  unfold seenT
  dsimp only at h hr ⊢
  cases t
  · cases j
    · rw [if_neg (by simp), if_neg (by simp)]
      obtain ⟨u, rfl⟩ := Int.eq_ofNat_of_zero_le hr.1
      have hne : ∀ c : ByteArray, (∃ b ∈ c.data.toList, digB b = false) → numT u ≠ c := fun c ⟨b, hb, hd⟩ e => by
        rw [← e] at hb
        have h1 := List.all_eq_true.1 (dec_all u) b hb
        rw [hd] at h1; cases h1
      unfold unsT
      rw [Int.toNat_natCast, if_neg (hne j0W ⟨106, by decide, by decide⟩), if_neg (hne j1W ⟨106, by decide, by decide⟩), numI_numT u (by have := hr.2; omega)]
      rfl
    · rw [if_neg (by simp), if_pos rfl]
      have : a = 0 := by simpa using h
      subst this
      decide
  · cases j
    · simp at h
    · rw [if_pos rfl]
      have : a = 0 := by simpa using h
      subst this
      decide
theorem unsL_told : ∀ (L : List Sn), L.all toldB = true → (∀ x ∈ L, 0 ≤ x.a ∧ x.a ≤ 18446744073709551615) → unsL (L.map seenT) = some L
  | [], _, _ => rfl
  | x :: L, h, hr => by
    rw [List.all_cons, Bool.and_eq_true] at h
    rw [List.map_cons]
    unfold unsL
    rw [unsT_seenT x h.1 (hr x (by simp)), unsL_told L h.2 (fun y hy => hr y (by simp [hy]))]
    rfl
theorem seenT_pos (x : Sn) : 0 < (seenT x).data.toList.length := by
  unfold seenT
  split
  · decide
  · split
    · decide
    · exact List.length_pos_iff.2 (dec_ne _)
theorem unseen_told (L : List Sn) (h : L.all toldB = true) (hr : ∀ x ∈ L, 0 ≤ x.a ∧ x.a ≤ 18446744073709551615) : unseenM (seenText L) = some L := by
  cases L with
  | nil => decide
  | cons x r =>
    have hl := seenText_list (x :: r)
    unfold seenF at hl
    rw [List.map_cons, Lib.join_cons] at hl
    have hn : (seenText (x :: r)).size ≠ 0 := by
      rw [← size_list, hl, List.length_append]
      have := seenT_pos x
      omega
    have hp : partsB (seenText (x :: r)) = (x :: r).map seenT := by
      unfold partsB
      rw [hl]
      have e : Lib.joinTail [32] (r.map fun x => (seenT x).data.toList) = ((r.map fun x => (seenT x).data.toList).map (32 :: ·)).flatten := rfl
      rw [e, parts_of 32 _ _ (seenT_no32 x) (by
        intro q hq
        obtain ⟨y, _, rfl⟩ := List.mem_map.1 hq
        exact seenT_no32 y)]
      rw [List.map_cons, List.map_cons, List.map_map]
      rfl
    unfold unseenM
    rw [if_neg hn, hp]
    exact unsL_told _ h hr
theorem seenTail_len : ∀ (L : List Sn), (∀ x ∈ L, 0 ≤ x.a ∧ x.a ≤ 18446744073709551615) → (Lib.joinTail [32] (L.map fun x => (seenT x).data.toList)).length ≤ 21 * L.length
  | [], _ => Nat.le_refl _
  | x :: L, h => by
    have h1 := seenTail_len L (fun y hy => h y (by simp [hy]))
    have h2 := seenT_size x (h x (by simp))
    rw [← size_list] at h2
    simp only [Lib.joinTail, List.map_cons, List.flatten_cons, List.length_append, List.length_cons, List.length_nil] at h1 ⊢
    omega
theorem seenText_size (L : List Sn) (h : ∀ x ∈ L, 0 ≤ x.a ∧ x.a ≤ 18446744073709551615) : (seenText L).size ≤ 21 * L.length := by
  rw [← size_list, seenText_list]
  unfold seenF
  cases L with
  | nil => exact Nat.le_refl _
  | cons x r =>
    rw [List.map_cons, Lib.join_cons, List.length_append]
    have h1 := seenTail_len r (fun y hy => h y (by simp [hy]))
    have h2 := seenT_size x (h x (by simp))
    rw [← size_list] at h2
    rw [List.length_cons]
    omega

def Uns27 (M : List Sn) (ok : Bool) (w : World) (e : Ending) (w' : World) : Prop := (∃ A c, e = .returned (.tuple #[.slice A M.length c, .int .i64 (if ok then 0 else 15)]) ∧ SnAt w' A M) ∧ Below w.heap.size w w'
def Uns28 (M : List Sn) (ok : Bool) (w : World) (e : Ending) (w' : World) : Prop := (∃ A c, e = .returned (.tuple #[.slice A M.length c, .bool ok]) ∧ SnAt w' A M) ∧ Below w.heap.size w w'
theorem uns_both (s : ByteArray) (hs : s.size ≤ 1000000) : ∃ (M : List Sn) (ok : Bool), M.length ≤ 1000001 ∧ (∀ W, Env W → Calls Tryz.prog 27 #[.string s] W (Uns27 M ok W)) ∧ (∀ W, Calls Tryz.prog 28 #[.string s] W (Uns28 M ok W)) := by
  cases hu : unseenM s with
  | none => exact ⟨[], false, Nat.zero_le _, fun W hE => (unseen_any s W hE hs).mono fun e w' h => ⟨⟨none, 0, h.1 hu, snAt_nil _⟩, h.2.2⟩, fun W => (refUnseen_any s W hs).mono fun e w' h => ⟨⟨none, 0, h.1 hu, snAt_nil _⟩, h.2.2⟩⟩
  | some M =>
    refine ⟨M, true, ?_, fun W hE => (unseen_any s W hE hs).mono fun e w' h => ⟨h.2.1 M hu, h.2.2⟩, fun W => (refUnseen_any s W hs).mono fun e w' h => ⟨h.2.1 M hu, h.2.2⟩⟩
    unfold unseenM at hu
    split at hu
    · cases hu; exact Nat.zero_le _
    · have := unsL_len _ _ hu
      have := parts_le s
      omega

set_option maxRecDepth 100000 in
set_option maxHeartbeats 8000000 in
theorem scriptSeen_any (A : Option Addr) (n c : Nat) (L : List Sn) (s : ByteArray) (w : World) (hL : L.length = n) (hA : SnAt w A L) (hE : Env w) :
    Calls Tryz.prog 6 #[.slice A n c, .string s] w (BoolPost true w) := by
  have hk0 := Lib.hid (known_any w hE)
  by_cases h1 : 600 < n
  · have e1 : (600 : Int) < (n : Int) := by omega
    clear h1
    go_enter Tryz.func6, Tryz.ntmps6
    go_wp2_with fail
    refine hk0.out.mono ?_
    rintro e w1 ⟨rfl, hb⟩
    have hb' := Lib.hid hb
    clear hb
    go_wp2
    go_ret
    exact ⟨rfl, hb'.out⟩
  · have e1 : ¬ (600 : Int) < (n : Int) := by omega
    by_cases h2 : 9000 < s.size
    · have e2 : (9000 : Int) < (s.size : Int) := by omega
      clear h1 h2
      go_enter Tryz.func6, Tryz.ntmps6
      go_wp2_with fail
      refine hk0.out.mono ?_
      rintro e w1 ⟨rfl, hb⟩
      have hb' := Lib.hid hb
      clear hb
      go_wp2
      go_ret
      exact ⟨rfl, hb'.out⟩
    · have e2 : ¬ (9000 : Int) < (s.size : Int) := by omega
      obtain ⟨M, ok, hMl, hU, hV⟩ := uns_both s (by omega)
      obtain ⟨t, ht⟩ : ∃ t, L.all toldB = t := ⟨_, rfl⟩
      have kS := seen_any A n c L w hL hA hE.tab (by omega)
      have kM := fun W (hb : Below w.heap.size w W) => maySeen_any A n c L W hL (hA.below hb) (by omega)
      rw [ht] at kS kM
      have kM := Lib.hid kM
      have kU := Lib.hid fun W (hb : Below w.heap.size w W) => hU W (hE.below hb)
      have kV := Lib.hid hV
      have kE := Lib.hid fun W A1 c1 A2 c2 (h1 : SnAt W A1 M) (h2 : SnAt W A2 M) => (show Calls Tryz.prog 29 #[.slice A1 M.length c1, .slice A2 M.length c2] W (BoolPost true W) from by
        have h := sameSeen_any A1 A2 M.length c1 M.length c2 M M W rfl rfl h1 h2 hMl hMl
        rw [decide_eq_true rfl] at h
        exact h)
      have kK := Lib.hid fun W (hb : Below w.heap.size w W) => known_any W (hE.below hb)
      have hnn := Lib.hid fun e w => num_any e w
      cases t
      · rw [if_neg (by simp), if_neg (by simp)] at kS
        have kS := Lib.hid kS
        clear hU hV hMl hL hA hE h1 h2 hk0 ht
        cases ok
        all_goals (
          go_enter Tryz.func6, Tryz.ntmps6
          go_wp2_with fail
          refine kS.out.mono ?_
          rintro e w1 ⟨rfl, hb1⟩
          have b1 := Lib.hid hb1
          clear hb1
          go_wp2_with fail
          refine (kU.out _ b1.out).mono ?_
          rintro e w2 ⟨⟨A1, c1, rfl, hS1⟩, hb2⟩
          have b2 := Lib.hid (Below.next b1.out hb2)
          have hS1 := Lib.hid hS1
          clear hb2
          go_wp2_with fail
          refine (kV.out _).mono ?_
          rintro e w3 ⟨⟨A2, c2, rfl, hS2⟩, hb3⟩
          have hS1 := Lib.hid (hS1.out.below hb3)
          have b3 := Lib.hid (Below.next b2.out hb3)
          have hS2 := Lib.hid hS2
          clear hb3
          go_wp2_with fail
          refine (kE.out _ _ _ _ _ hS1.out hS2.out).mono ?_
          rintro e w4 ⟨rfl, hb4⟩
          have b4 := Lib.hid (Below.next b3.out hb4)
          clear hb4
          go_wp2_with (first | (go_at_call 16; refine (hnn.out _ _).mono ?_; rintro e wA ⟨rfl, rfl⟩) | (go_at_call 30; refine (kM.out _ b4.out).mono ?_; rintro e wB ⟨rfl, rfl⟩) | (go_at_call 13; refine (kK.out _ b4.out).mono ?_; rintro e w6 ⟨rfl, hb6⟩; have b6 := Lib.hid (Below.next b4.out hb6); clear hb6))
          go_ret
          exact ⟨rfl, b6.out⟩)
      · rw [if_pos rfl, if_pos rfl] at kS
        have hb9 := seenText_size L hA.1
        obtain ⟨T, hT⟩ : ∃ T, seenText L = T := ⟨_, rfl⟩
        have hun := unseen_told L ht hA.1
        have kR := fun W (hb : Below w.heap.size w W) => refSeen_any A n c L W hL (hA.below hb) (hE.below hb).tab (by omega) ht
        rw [hT] at kS hb9 hun kR
        have kR := Lib.hid kR
        have kS := Lib.hid kS
        have kB := Lib.hid fun W (hb : Below w.heap.size w W) => ((unseen_any T W (hE.below hb) (by omega)).mono fun e w' h => (show Uns27 L true W e w' from ⟨h.2.1 L hun, h.2.2⟩))
        have kF := Lib.hid fun W (hb : Below w.heap.size w W) A1 c1 (h1 : SnAt W A1 L) => (show Calls Tryz.prog 29 #[.slice A1 L.length c1, .slice A n c] W (BoolPost true W) from by
          have h := sameSeen_any A1 A L.length c1 n c L L W rfl hL h1 (hA.below hb) (by omega) (by omega)
          rw [decide_eq_true rfl] at h
          exact h)
        have hll := Lib.hid hL
        clear hU hV hMl hL hA hE h1 h2 hk0 ht hun hT
        cases ok
        all_goals (
          go_enter Tryz.func6, Tryz.ntmps6
          go_wp2_with fail
          refine kS.out.mono ?_
          rintro e w1 ⟨rfl, hb1⟩
          have b1 := Lib.hid hb1
          clear hb1
          go_wp2_with fail
          refine (kU.out _ b1.out).mono ?_
          rintro e w2 ⟨⟨A1, c1, rfl, hS1⟩, hb2⟩
          have b2 := Lib.hid (Below.next b1.out hb2)
          have hS1 := Lib.hid hS1
          clear hb2
          go_wp2_with fail
          refine (kV.out _).mono ?_
          rintro e w3 ⟨⟨A2, c2, rfl, hS2⟩, hb3⟩
          have hS1 := Lib.hid (hS1.out.below hb3)
          have b3 := Lib.hid (Below.next b2.out hb3)
          have hS2 := Lib.hid hS2
          clear hb3
          go_wp2_with fail
          refine (kE.out _ _ _ _ _ hS1.out hS2.out).mono ?_
          rintro e w4 ⟨rfl, hb4⟩
          have b4 := Lib.hid (Below.next b3.out hb4)
          clear hb4
          go_wp2_with (first | (go_at_call 16; refine (hnn.out _ _).mono ?_; rintro e wA ⟨rfl, rfl⟩) | (go_at_call 30; refine (kM.out _ b4.out).mono ?_; rintro e wB ⟨rfl, rfl⟩) | (go_at_call 27; refine (kB.out _ b4.out).mono ?_; rintro e w5 ⟨⟨A3, c3, rfl, hS3⟩, hb5⟩; have b5 := Lib.hid (Below.next b4.out hb5); have hS3 := Lib.hid hS3; clear hb5) | (go_at_call 31; refine (kR.out _ b5.out).mono ?_; rintro e w6 ⟨rfl, hb6⟩; have b6 := Lib.hid (Below.next b5.out hb6); have hS3 := Lib.hid (hS3.out.below hb6); clear hb6) | (go_at_call 29; refine (kF.out _ b6.out _ _ hS3.out).mono ?_; rintro e w7 ⟨rfl, hb7⟩; have b7 := Lib.hid (Below.next b6.out hb7); clear hb7) | (go_at_call 13; refine (kK.out _ b7.out).mono ?_; rintro e w8 ⟨rfl, hb8⟩; have b8 := Lib.hid (Below.next b7.out hb8); clear hb8))
          go_ret
          exact ⟨rfl, b8.out⟩)
end Go.Proofs.YtkbmckmlnphpmaaGreatDoor
