/- LexLists: the walk. -/
import Derived.Test.YtmkfoknhjjgipaaGreatDoorT
set_option linter.unusedSimpArgs false
set_option linter.unusedVariables false
namespace Go.Proofs.YtmkfoknhjjgipaaGreatDoor
open Go.RowKit Go.Lib Go.Shelf

theorem joinTail_len (xs : List (List UInt8)) : (Lib.joinTail [32] xs).length = xs.length + (xs.map List.length).sum := by
  induction xs with
  | nil => rfl
  | cons x r ih =>
    have e : Lib.joinTail [32] (x :: r) = [32] ++ x ++ Lib.joinTail [32] r := by simp [Lib.joinTail]
    rw [e, List.length_append, ih, List.map_cons, List.sum_cons, List.length_append, List.length_cons]
    simp
    omega
theorem plainF_len (L : List Ta) : (Lib.join (L.map fun x => x.t.data.toList) [32]).length ≤ L.length + sizesT L := by
  cases L with
  | nil => exact Nat.zero_le _
  | cons x r =>
    rw [List.map_cons, Lib.join_cons, List.length_append, joinTail_len, List.length_map, List.map_map]
    unfold sizesT
    rw [List.map_cons, List.sum_cons, List.length_cons]
    have e : (List.length ∘ fun x : Ta => x.t.data.toList) = fun x : Ta => x.t.size := by funext y; exact size_list y.t
    rw [e, size_list]
    omega
theorem sameL_self (L : List Ta) : sameL L L = true := by unfold sameL; simp
set_option maxRecDepth 100000 in
set_option maxHeartbeats 8000000 in
theorem lexLists_any (A B : Option Addr) (n c m d : Nat) (L M : List Ta) (w : World) (hE : Env w) (hL : L.length = n) (hM : M.length = m) (hA : TaAt w A L) (hB : TaAt w B M) (hn : n ≤ 9223372036854775807) (hm : m ≤ 9223372036854775807) :
    Calls Tryz.prog 5 #[.slice A n c, .slice B m d] w (OkPost w) := by
  have hEh := Lib.hid hE
  have hk0 := Lib.hid (known_any w hE)
  have h1 := much_any A c L w hA (by omega)
  have h2 := much_any B d M w hB (by omega)
  rw [hL] at h1
  rw [hM] at h2
  have h1 := Lib.hid h1
  have h2 := Lib.hid h2
  have hA := Lib.hid hA
  have hB := Lib.hid hB
  have hL := Lib.hid hL
  have hM := Lib.hid hM
  clear hE
  go_enter Tryz.func5, Tryz.ntmps5
  go_wp2_with fail
  refine h1.out.mono ?_
  rintro e w1 ⟨b1, rfl, hb1, rfl⟩
  cases b1
  · have hs1 := Lib.hid (hb1 rfl)
    clear hb1
    go_wp2_with fail
    refine h2.out.mono ?_
    rintro e w2 ⟨b2, rfl, hb2, rfl⟩
    cases b2
    · have hs2 := Lib.hid (hb2 rfl)
      clear hb2
      have p1 := plain_any A c L w2 hA.out (by have := hs1.out; have := hL.out; omega) (by have := plainF_len L; have := hs1.out; have := hL.out; omega)
      have p2 := fun W (h : Below w2.heap.size w2 W) => refPlain_any A c L W (hA.out.below h) (by have := hs1.out; have := hL.out; omega)
      rw [hL.out] at p1 p2
      have p1 := Lib.hid p1
      have p2 := Lib.hid p2
      have hn4 := Lib.hid (show n ≤ 4000000 by have := hs1.out; omega)
      have hm4 := Lib.hid (show m ≤ 4000000 by have := hs2.out; omega)
      have q1 := Lib.hid fun W (h : Below w2.heap.size w2 W) => same_any A B n c m d L M W hL.out hM.out (hA.out.below h) (hB.out.below h) hn4.out hm4.out
      have q2 := Lib.hid fun W (h : Below w2.heap.size w2 W) => refSame_any A B n c m d L M W hL.out hM.out (hA.out.below h) (hB.out.below h) hn4.out hm4.out
      have q3 := fun W (h : Below w2.heap.size w2 W) => same_any A A n c n c L L W hL.out hL.out (hA.out.below h) (hA.out.below h) hn4.out hn4.out
      rw [sameL_self] at q3
      have q3 := Lib.hid q3
      generalize sameL L M = t at q1 q2
      generalize plainT (L.map Ta.t) = pt at p1 p2
      have et : (t == t) = true := by simp
      have ep : (pt.toList == pt.toList) = true := by simp
      go_wp2_with fail
      refine p1.out.mono ?_
      rintro e w3 ⟨rfl, b3⟩
      have b3 := Lib.hid b3
      go_wp2_with fail
      refine (p2.out _ b3.out).mono ?_
      rintro e w4 ⟨rfl, b4⟩
      have b4 := Lib.hid (Below.next b3.out b4)
      go_wp2_with fail
      refine (q1.out _ b4.out).mono ?_
      rintro e w5 ⟨rfl, b5⟩
      have b5 := Lib.hid (Below.next b4.out b5)
      go_wp2_with fail
      refine (q2.out _ b5.out).mono ?_
      rintro e w6 ⟨rfl, b6⟩
      have b6 := Lib.hid (Below.next b5.out b6)
      go_wp2_with fail
      refine (q3.out _ b6.out).mono ?_
      rintro e w7 ⟨rfl, b7⟩
      have b7 := Lib.hid (Below.next b6.out b7)
      have h8 := Lib.hid (known_any w7 (hEh.out.below b7.out))
      go_wp2_with fail
      refine h8.out.mono ?_
      rintro e w8 ⟨rfl, b8⟩
      have b8 := Lib.hid (Below.next b7.out b8)
      go_wp2
      go_ret
      exact ⟨rfl, b8.out⟩
    · clear hb2
      go_wp2_with fail
      refine hk0.out.mono ?_
      rintro e w3 ⟨rfl, hb⟩
      have hb := Lib.hid hb
      go_wp2
      go_ret
      exact ⟨rfl, hb.out⟩
  · clear hb1
    go_wp2_with fail
    refine hk0.out.mono ?_
    rintro e w3 ⟨rfl, hb⟩
    have hb := Lib.hid hb
    go_wp2
    go_ret
    exact ⟨rfl, hb.out⟩
end Go.Proofs.YtmkfoknhjjgipaaGreatDoor
