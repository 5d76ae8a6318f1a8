/- What was seen can be told: all, at what was seen. -/
import Derived.Test.YtkbmckmlnphpmaaGreatDoorN
set_option linter.unusedSimpArgs false
set_option linter.unusedVariables false
namespace Go.Proofs.YtkbmckmlnphpmaaGreatDoor
open Go.RowKit Go.Lib Go.Shelf

structure Sn where
  j : Bool
  t : Bool
  a : Int
deriving DecidableEq
/-- a slice that reads as what was seen -/
def SnAt (w : World) (A : Option Addr) (L : List Sn) : Prop :=
  (∀ x ∈ L, 0 ≤ x.a ∧ x.a ≤ 18446744073709551615) ∧ (0 < L.length → ∃ blk off, A = some ⟨blk, off, none⟩ ∧ ∀ (i : Nat) (x : Sn), L[i]? = some x →
    w.cell? ⟨blk, off + i * 3, none⟩ = some (.bool x.j) ∧ w.cell? ⟨blk, off + i * 3 + 1, none⟩ = some (.bool x.t) ∧ w.cell? ⟨blk, off + i * 3 + 2, none⟩ = some (.int .u64 x.a))
theorem SnAt.below {w w' : World} {A : Option Addr} {L : List Sn} (h : SnAt w A L) (hb : Below w.heap.size w w') : SnAt w' A L := by
  refine ⟨h.1, fun hn => ?_⟩
  obtain ⟨blk, off, e, hc⟩ := h.2 hn
  refine ⟨blk, off, e, fun i x hx => ?_⟩
  obtain ⟨h1, h2, h3⟩ := hc i x hx
  have hlt := cell_some_lt h1
  exact ⟨(hb.cell (p := ⟨blk, off + i * 3, none⟩) hlt).trans h1, (hb.cell (p := ⟨blk, off + i * 3 + 1, none⟩) hlt).trans h2, (hb.cell (p := ⟨blk, off + i * 3 + 2, none⟩) hlt).trans h3⟩
theorem SnAt.at_ {w : World} {A : Option Addr} {L : List Sn} (h : SnAt w A L) {k : Nat} (hk : k < L.length) :
    ∃ blk off x, A = some ⟨blk, off, none⟩ ∧ L[k]? = some x ∧ w.cell? ⟨blk, off + k * 3, none⟩ = some (.bool x.j) ∧ w.cell? ⟨blk, off + k * 3 + 1, none⟩ = some (.bool x.t) ∧ w.cell? ⟨blk, off + k * 3 + 2, none⟩ = some (.int .u64 x.a) ∧ 0 ≤ x.a ∧ x.a ≤ 18446744073709551615 := by
  obtain ⟨blk, off, e, hc⟩ := h.2 (by omega)
  have e1 : L[k]? = some L[k] := List.getElem?_eq_getElem hk
  obtain ⟨h1, h2, h3⟩ := hc k _ e1
  obtain ⟨h4, h5⟩ := h.1 _ (List.getElem_mem hk)
  exact ⟨blk, off, _, e, e1, h1, h2, h3, h4, h5⟩
def toldB (x : Sn) : Bool := (x.j && decide (x.a = 0)) || (!x.j && !x.t)

set_option maxRecDepth 100000 in
set_option maxHeartbeats 1000000 in
theorem told_any (j t : Bool) (a : Int) (w : World) : Calls Tryz.prog 64 #[.agg #[.bool j, .bool t, .int .u64 a]] w fun e w' => e = .returned (.bool (toldB ⟨j, t, a⟩)) ∧ Below w.heap.size w w' := by
  have hb0 := Lib.hid ((Below.refl w.heap.size w).alloc (Nat.le_refl _) (.cells #[.bool j, .bool t, .int .u64 a] 84))
  unfold toldB
  dsimp only
  by_cases h0 : a = 0
  · subst h0
    cases j <;> cases t
    all_goals
      go_enter Tryz.func64, Tryz.ntmps64
      go_wp2
      go_ret
      exact ⟨rfl, hb0.out⟩
  · have e0 : (a == 0) = false := by simpa using h0
    have d0 : decide (a = 0) = false := by simpa using h0
    rw [d0]
    clear d0
    cases j <;> cases t
    all_goals
      go_enter Tryz.func64, Tryz.ntmps64
      go_wp2
      go_ret
      exact ⟨rfl, hb0.out⟩
set_option maxRecDepth 100000 in
set_option maxHeartbeats 1000000 in
theorem notTold_any (j t : Bool) (a : Int) (b : Nat) (w : World) (hb : w.cell? ⟨b, 0, none⟩ = some (.func (.func 64) #[] #[])) : Calls Tryz.prog 92 #[.agg #[.bool j, .bool t, .int .u64 a], .pointer (some ⟨b, 0, none⟩)] w fun e w' => e = .returned (.bool (!toldB ⟨j, t, a⟩)) ∧ Below w.heap.size w w' := by
  have hb0 := Lib.hid ((Below.refl w.heap.size w).alloc (Nat.le_refl _) (.cells #[.bool j, .bool t, .int .u64 a] 84))
  have hk := Lib.hid (told_any j t a (w.alloc (.cells #[.bool j, .bool t, .int .u64 a] 84)))
  have hlt := cell_some_lt hb
  generalize toldB ⟨j, t, a⟩ = u at hk ⊢
  go_enter Tryz.func92, Tryz.ntmps92
  go_wp2_with fail
  refine hk.out.mono ?_
  rintro e w1 ⟨rfl, hb1⟩
  have hfin := Lib.hid (Below.next hb0.out hb1)
  clear hb1
  cases u
  all_goals
    go_wp2
    go_ret
    exact ⟨rfl, hfin.out⟩
def IdxPost (t : Bool) (w : World) (e : Ending) (w' : World) : Prop := ∃ v : Int, e = .returned (.int .i64 v) ∧ (t = true → v = -1) ∧ (t = false → 0 ≤ v) ∧ Below w.heap.size w w'
set_option maxRecDepth 100000 in
set_option maxHeartbeats 2000000 in
theorem idxTold_any (A : Option Addr) (n c b : Nat) (L : List Sn) (w : World) (hb : w.cell? ⟨b, 0, none⟩ = some (.func (.func 64) #[] #[])) (hL : L.length = n) (hA : SnAt w A L) (hn : n ≤ 4000000) :
    Calls Tryz.prog 113 #[.slice A n c, .func (.func 92) #[] #[.pointer (some ⟨b, 0, none⟩)]] w (IdxPost (L.all toldB) w) := by
  have hk := Lib.hid fun j t a W hW => notTold_any j t a b W hW
  have hL' := Lib.hid hL
  have hA' := Lib.hid hA
  have hbl := cell_some_lt hb
  have hb' := Lib.hid hb
  clear hL hA hb
  go_enter Tryz.func113, Tryz.ntmps113
  go_wp2_with fail
  go_loopg [8] n (fun g s8 wr => ∃ k : Nat, k + g = n ∧ s8 = .int .i64 k ∧ (∀ (i : Nat) (x : Sn), i < k → L[i]? = some x → toldB x = true) ∧ Below w.heap.size w wr)
  case atStart => exact ⟨0, by omega, rfl, fun i x h => absurd h (by omega), Below.refl _ _⟩
  case round =>
    obtain ⟨k, hkg, rfl, hall, hbr⟩ := hrel
    have hall' := Lib.hid hall
    have hbr' := Lib.hid hbr
    clear hall hbr
    cases gk with
    | zero =>
      have e0 : ¬ ((k : Int) < (n : Int)) := by omega
      have hs := Lib.hid (show L.all toldB = true by
        rw [List.all_eq_true]
        intro x hx
        obtain ⟨i, hi⟩ := List.getElem?_of_mem hx
        exact hall'.out i x (by have := (List.getElem?_eq_some_iff.1 hi).1; have := hL'.out; omega) hi)
      go_wp2
      go_ret
      exact ⟨-1, rfl, fun _ => rfl, (fun h => by rw [hs.out] at h; cases h), hbr'.out⟩
    | succ g =>
      have e0 : (k : Int) < (n : Int) := by omega
      obtain ⟨blk, off, x, rfl, hx, v1, v2, v3, _, _⟩ := (hA'.out.below hbr'.out).at_ (k := k) (by rw [hL'.out]; omega)
      have hx' := Lib.hid hx
      have hk2 := Lib.hid (hk.out x.j x.t x.a wr ((hbr'.out.cell (p := ⟨b, 0, none⟩) hbl).trans hb'.out))
      clear hx
      obtain ⟨t, ht⟩ : ∃ t, toldB x = t := ⟨_, rfl⟩
      rw [show toldB ⟨x.j, x.t, x.a⟩ = t from ht] at hk2
      have ht' := Lib.hid ht
      clear ht
      go_wp2_with fail
      refine hk2.out.mono ?_
      rintro e w1 ⟨rfl, hb1⟩
      have hb1' := Lib.hid (Below.next hbr'.out hb1)
      clear hb1
      cases t
      · have hs := Lib.hid (show L.all toldB = false by
          rw [List.all_eq_false]
          exact ⟨x, List.mem_of_getElem? hx'.out, by rw [ht'.out]; simp⟩)
        go_wp2
        go_ret
        exact ⟨k, rfl, (fun h => by rw [hs.out] at h; cases h), (fun _ => by omega), hb1'.out⟩
      · go_wp2
        go_roundg g
        case measure => omega
        case rel =>
          refine ⟨k + 1, by omega, by go_num, fun i y hi hv => ?_, hb1'.out⟩
          rcases Nat.lt_or_ge i k with h | h
          · exact hall'.out i y h hv
          · obtain rfl : i = k := by omega
            rw [hx'.out] at hv
            cases hv
            exact ht'.out
set_option maxRecDepth 100000 in
set_option maxHeartbeats 1000000 in
theorem hasTold_any (A : Option Addr) (n c b : Nat) (L : List Sn) (w : World) (hb : w.cell? ⟨b, 0, none⟩ = some (.func (.func 64) #[] #[])) (hL : L.length = n) (hA : SnAt w A L) (hn : n ≤ 4000000) :
    Calls Tryz.prog 91 #[.slice A n c, .func (.func 92) #[] #[.pointer (some ⟨b, 0, none⟩)]] w (BoolPost (!L.all toldB) w) := by
  have hk := Lib.hid (idxTold_any A n c b L w hb hL hA hn)
  generalize L.all toldB = t at hk ⊢
  clear hL hA
  go_enter Tryz.func91, Tryz.ntmps91
  go_wp2_with fail
  refine hk.out.mono ?_
  rintro e w1 ⟨v, rfl, h1, h2, hb1⟩
  have hb1' := Lib.hid hb1
  clear hb1
  cases t
  · have e0 : 0 ≤ v := h2 rfl
    have e0' := Lib.hid e0
    clear h1 h2
    go_wp2
    go_ret
    exact ⟨ret_bool (by simp [e0'.out]), hb1'.out⟩
  · have e0 : ¬ 0 ≤ v := by have := h1 rfl; omega
    have e0' := Lib.hid e0
    clear h1 h2
    go_wp2
    go_ret
    exact ⟨ret_bool (by simp [e0'.out]), hb1'.out⟩
set_option maxRecDepth 100000 in
set_option maxHeartbeats 1000000 in
theorem allTold_any (A : Option Addr) (n c : Nat) (L : List Sn) (w : World) (hL : L.length = n) (hA : SnAt w A L) (hn : n ≤ 4000000) :
    Calls Tryz.prog 63 #[.slice A n c, .func (.func 64) #[] #[]] w (BoolPost (L.all toldB) w) := by
  have hb0 := Lib.hid ((Below.refl w.heap.size w).alloc (Nat.le_refl _) (.cells #[.func (.func 64) #[] #[]] 106))
  have hk := Lib.hid (hasTold_any A n c w.heap.size L (w.alloc (.cells #[.func (.func 64) #[] #[]] 106)) (by rw [blk_cell (heap_alloc_new w _)]; rfl) hL (hA.below hb0.out) hn)
  clear hL hA
  generalize L.all toldB = t at hk ⊢
  go_enter Tryz.func63, Tryz.ntmps63
  go_wp2_with fail
  refine hk.out.mono ?_
  rintro e w1 ⟨rfl, hb1⟩
  have hfin := Lib.hid (Below.next hb0.out hb1)
  clear hb1
  cases t
  all_goals
    go_wp2
    go_ret
    exact ⟨rfl, hfin.out⟩
end Go.Proofs.YtkbmckmlnphpmaaGreatDoor
