/- All code's text: AsmPrints. -/
import Derived.Test.YtmimmnjdgpdjlaaGreatDoorAN
import Derived.Test.YtmimmnjdgpdjlaaGreatDoorAQ
import Derived.Test.YtmimmnjdgpdjlaaGreatDoorAS
set_option linter.unusedSimpArgs false
set_option linter.unusedVariables false
namespace Go.Proofs.YtmimmnjdgpdjlaaGreatDoor
open Go.RowKit Go.Lib Go.Shelf

set_option maxRecDepth 100000 in
set_option maxHeartbeats 16000000 in
theorem asmPrints_any (L : List In) (A : Option Addr) (c : Nat) (leave : Int) (w : World) (hE : Env w) (hL : InsAt w L A) (hF : ∀ i ∈ L, Fit i) : Calls Tryz.prog 7 #[.slice A L.length c, .int .i64 leave] w (BoolPost true w) := by
  have hK := Lib.hid (fun W (hE : Env W) => known_any W hE)
  have hE' := Lib.hid (fun W (h : Below w.heap.size w W) => hE.below h)
  have hL' := Lib.hid (fun W (h : Below w.heap.size w W) => hL.keep h)
  have hc : (200 < L.length) ∨ (L.length ≤ 200 ∧ (∀ W, Env W → InsAt W L A → Calls Tryz.prog 27 #[.slice A L.length c] W fun e w' => e = .returned (.tuple #[.string ⟨#[]⟩, .int .i64 2]) ∧ Below W.heap.size W w') ∧
        (∀ W, InsAt W L A → Calls Tryz.prog 28 #[.slice A L.length c] W fun e w' => e = .returned (.bool false) ∧ Below W.heap.size W w') ∧
        (∀ (most : Int) W, Env W → InsAt W L A → Calls Tryz.prog 29 #[.slice A L.length c, .string ⟨#[]⟩, .int .i64 most] W fun e w' => e = .returned (.bool true) ∧ Below W.heap.size W w')) ∨
      (L.length ≤ 200 ∧ ∃ z : ByteArray, (∀ W, Env W → InsAt W L A → Calls Tryz.prog 27 #[.slice A L.length c] W fun e w' => e = .returned (.tuple #[.string z, .int .i64 0]) ∧ Below W.heap.size W w') ∧
        (∀ W, InsAt W L A → Calls Tryz.prog 28 #[.slice A L.length c] W fun e w' => e = .returned (.bool true) ∧ Below W.heap.size W w') ∧
        (∀ W, Env W → InsAt W L A → Calls Tryz.prog 30 #[.slice A L.length c] W fun e w' => e = .returned (.string z) ∧ Below W.heap.size W w') ∧
        (∀ (most : Int) W, Env W → InsAt W L A → Calls Tryz.prog 29 #[.slice A L.length c, .string z, .int .i64 most] W fun e w' => e = .returned (.bool true) ∧ Below W.heap.size W w')) := by
    by_cases h : 200 < L.length
    · exact .inl h
    · have h28 := fun W (h : InsAt W L A) => rmay28_any L A c W h hF (by omega)
      unfold BoolPost at h28
      rcases print_there L hF (by omega) with ⟨hm, hP⟩ | ⟨hm, hP⟩
      · rw [hm] at h28
        exact .inr (.inl ⟨by omega, fun W => hP A c W, h28, fun most W hE hL => once29_any L A c ⟨#[]⟩ most W hE hL hF (by omega) (by rw [if_neg (by rw [hm]; simp)])⟩)
      · rw [hm] at h28
        exact .inr (.inr ⟨by omega, _, fun W => hP A c W, h28, fun W hE hL => rprint30_any L A c W hE hL hF (by omega) (fun i hi => ((mayAll_parts hm).2.2 i hi).1), fun most W hE hL => once29_any L A c _ most W hE hL hF (by omega) (by rw [if_pos hm])⟩)
  clear hE hL hF
  obtain ⟨n, hnn⟩ : ∃ n, L.length = n := ⟨_, rfl⟩
  rw [hnn] at hc ⊢
  clear hnn
  have hbw := Lib.hid (Below.refl w.heap.size w)
  rcases hc with hmu | ⟨hmu, hP, hY, hO⟩ | ⟨hmu, z, hP, hY, hR, hO⟩
  · go_enter Tryz.func7, Tryz.ntmps7
    go_wp2_with fail
    refine (much26_any _ _ _ _ true (.inl ⟨rfl, hmu⟩)).mono ?_
    rintro e w6 ⟨rfl, rfl⟩
    go_wp2_with fail
    refine (hK.out _ (hE'.out _ hbw.out)).mono ?_
    rintro e w20 ⟨rfl, hb20⟩
    have hbw := Lib.hid (Below.next hbw.out hb20)
    clear hb20
    go_wp2
    go_ret
    exact ⟨rfl, hbw.out⟩
  · have hP := Lib.hid hP
    have hY := Lib.hid hY
    have hO := Lib.hid hO
    go_enter Tryz.func7, Tryz.ntmps7
    go_wp2_with fail
    refine (much26_any _ _ _ _ false (.inr ⟨rfl, hmu⟩)).mono ?_
    rintro e w6 ⟨rfl, rfl⟩
    go_wp2_with fail
    refine (hP.out _ (hE'.out _ hbw.out) (hL'.out _ hbw.out)).mono ?_
    rintro e w7 ⟨rfl, hb7⟩
    have hbw := Lib.hid (Below.next hbw.out hb7)
    clear hb7
    go_wp2_with fail
    refine (hY.out _ (hL'.out _ hbw.out)).mono ?_
    rintro e w8 ⟨rfl, hb8⟩
    have hbw := Lib.hid (Below.next hbw.out hb8)
    clear hb8
    go_wp2_with fail
    refine (num_any _ _).mono ?_
    rintro e w9 ⟨rfl, rfl⟩
    go_wp2_with fail
    refine (hO.out _ _ (hE'.out _ hbw.out) (hL'.out _ hbw.out)).mono ?_
    rintro e w10 ⟨rfl, hb10⟩
    have hbw := Lib.hid (Below.next hbw.out hb10)
    clear hb10
    go_wp2_with fail
    refine (hK.out _ (hE'.out _ hbw.out)).mono ?_
    rintro e w20 ⟨rfl, hb20⟩
    have hbw := Lib.hid (Below.next hbw.out hb20)
    clear hb20
    go_wp2
    go_ret
    exact ⟨rfl, hbw.out⟩
  · have hP := Lib.hid hP
    have hY := Lib.hid hY
    have hR := Lib.hid hR
    have hO := Lib.hid hO
    go_enter Tryz.func7, Tryz.ntmps7
    go_wp2_with fail
    refine (much26_any _ _ _ _ false (.inr ⟨rfl, hmu⟩)).mono ?_
    rintro e w6 ⟨rfl, rfl⟩
    go_wp2_with fail
    refine (hP.out _ (hE'.out _ hbw.out) (hL'.out _ hbw.out)).mono ?_
    rintro e w7 ⟨rfl, hb7⟩
    have hbw := Lib.hid (Below.next hbw.out hb7)
    clear hb7
    go_wp2_with fail
    refine (hY.out _ (hL'.out _ hbw.out)).mono ?_
    rintro e w8 ⟨rfl, hb8⟩
    have hbw := Lib.hid (Below.next hbw.out hb8)
    clear hb8
    go_wp2_with fail
    refine (hR.out _ (hE'.out _ hbw.out) (hL'.out _ hbw.out)).mono ?_
    rintro e w9 ⟨rfl, hb9⟩
    have hbw := Lib.hid (Below.next hbw.out hb9)
    clear hb9
    go_wp2_with fail
    refine (num_any _ _).mono ?_
    rintro e w10 ⟨rfl, rfl⟩
    go_wp2_with fail
    refine (hO.out _ _ (hE'.out _ hbw.out) (hL'.out _ hbw.out)).mono ?_
    rintro e w11 ⟨rfl, hb11⟩
    have hbw := Lib.hid (Below.next hbw.out hb11)
    clear hb11
    go_wp2_with fail
    refine (hO.out _ _ (hE'.out _ hbw.out) (hL'.out _ hbw.out)).mono ?_
    rintro e w12 ⟨rfl, hb12⟩
    have hbw := Lib.hid (Below.next hbw.out hb12)
    clear hb12
    go_wp2_with fail
    refine (hK.out _ (hE'.out _ hbw.out)).mono ?_
    rintro e w20 ⟨rfl, hb20⟩
    have hbw := Lib.hid (Below.next hbw.out hb20)
    clear hb20
    go_wp2
    go_ret
    exact ⟨rfl, hbw.out⟩
end Go.Proofs.YtmimmnjdgpdjlaaGreatDoor
