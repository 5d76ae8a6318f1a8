/- What was seen can be told: all, at what was seen. The text of what was seen: Seen. Going over an iterator that stores into its own captured box between two rounds. strings.SplitSeq at a blank: the iterator's contract. -/
import Derived.Test.YtkbmckmlnphpmaaGreatDoorQ
import Derived.Test.YtkbmckmlnphpmaaGreatDoorAB
import Derived.RangeFuncNested
import Derived.RangeFuncBound
import Derived.RangeFuncCalls
import Derived.RangeFuncLeaves
import Derived.Shelf.Abstract
import Derived.Shelf.RegionOpen
import Derived.OwnWalkIn
import Derived.TacticsInMore
import Derived.LoopNIn
import Derived.LoopIn
set_option linter.unusedSimpArgs false
set_option linter.unusedVariables false
namespace Go.Proofs.YtkbmckmlnphpmaaGreatDoor
open Go.RowKit Go.Lib Go.Shelf

structure Sn where
  j : Bool
  t : Bool
  a : Int
deriving DecidableEq
/-- a slice that reads as what was seen -/
def SnAt (w : World) (A : Option Addr) (L : List Sn) : Prop :=
  (∀ x ∈ L, 0 ≤ x.a ∧ x.a ≤ 18446744073709551615) ∧ (0 < L.length → ∃ blk off, A = some ⟨blk, off, none⟩ ∧ ∀ (i : Nat) (x : Sn), L[i]? = some x →
    w.cell? ⟨blk, off + i * 3, none⟩ = some (.bool x.j) ∧ w.cell? ⟨blk, off + i * 3 + 1, none⟩ = some (.bool x.t) ∧ w.cell? ⟨blk, off + i * 3 + 2, none⟩ = some (.int .u64 x.a))
theorem SnAt.below {w w' : World} {A : Option Addr} {L : List Sn} (h : SnAt w A L) (hb : Below w.heap.size w w') : SnAt w' A L := by
  refine ⟨h.1, fun hn => ?_⟩
  obtain ⟨blk, off, e, hc⟩ := h.2 hn
  refine ⟨blk, off, e, fun i x hx => ?_⟩
  obtain ⟨h1, h2, h3⟩ := hc i x hx
  have hlt := cell_some_lt h1
  exact ⟨(hb.cell (p := ⟨blk, off + i * 3, none⟩) hlt).trans h1, (hb.cell (p := ⟨blk, off + i * 3 + 1, none⟩) hlt).trans h2, (hb.cell (p := ⟨blk, off + i * 3 + 2, none⟩) hlt).trans h3⟩
theorem SnAt.at_ {w : World} {A : Option Addr} {L : List Sn} (h : SnAt w A L) {k : Nat} (hk : k < L.length) :
    ∃ blk off x, A = some ⟨blk, off, none⟩ ∧ L[k]? = some x ∧ w.cell? ⟨blk, off + k * 3, none⟩ = some (.bool x.j) ∧ w.cell? ⟨blk, off + k * 3 + 1, none⟩ = some (.bool x.t) ∧ w.cell? ⟨blk, off + k * 3 + 2, none⟩ = some (.int .u64 x.a) ∧ 0 ≤ x.a ∧ x.a ≤ 18446744073709551615 := by
  obtain ⟨blk, off, e, hc⟩ := h.2 (by omega)
  have e1 : L[k]? = some L[k] := List.getElem?_eq_getElem hk
  obtain ⟨h1, h2, h3⟩ := hc k _ e1
  obtain ⟨h4, h5⟩ := h.1 _ (List.getElem_mem hk)
  exact ⟨blk, off, _, e, e1, h1, h2, h3, h4, h5⟩
def toldB (x : Sn) : Bool := (x.j && decide (x.a = 0)) || (!x.j && !x.t)

set_option maxRecDepth 100000 in
set_option maxHeartbeats 1000000 in
theorem told_any (j t : Bool) (a : Int) (w : World) : Calls Tryz.prog 64 #[.agg #[.bool j, .bool t, .int .u64 a]] w fun e w' => e = .returned (.bool (toldB ⟨j, t, a⟩)) ∧ Below w.heap.size w w' := by
  have hb0 := Lib.hid ((Below.refl w.heap.size w).alloc (Nat.le_refl _) (.cells #[.bool j, .bool t, .int .u64 a] 84))
  unfold toldB
  dsimp only
  by_cases h0 : a = 0
  · subst h0
    cases j <;> cases t
    all_goals
      go_enter Tryz.func64, Tryz.ntmps64
      go_wp2
      go_ret
      exact ⟨rfl, hb0.out⟩
  · have e0 : (a == 0) = false := by simpa using h0
    have d0 : decide (a = 0) = false := by simpa using h0
    rw [d0]
    clear d0
    cases j <;> cases t
    all_goals
      go_enter Tryz.func64, Tryz.ntmps64
      go_wp2
      go_ret
      exact ⟨rfl, hb0.out⟩
set_option maxRecDepth 100000 in
set_option maxHeartbeats 1000000 in
theorem notTold_any (j t : Bool) (a : Int) (b : Nat) (w : World) (hb : w.cell? ⟨b, 0, none⟩ = some (.func (.func 64) #[] #[])) : Calls Tryz.prog 92 #[.agg #[.bool j, .bool t, .int .u64 a], .pointer (some ⟨b, 0, none⟩)] w fun e w' => e = .returned (.bool (!toldB ⟨j, t, a⟩)) ∧ Below w.heap.size w w' := by
  have hb0 := Lib.hid ((Below.refl w.heap.size w).alloc (Nat.le_refl _) (.cells #[.bool j, .bool t, .int .u64 a] 84))
  have hk := Lib.hid (told_any j t a (w.alloc (.cells #[.bool j, .bool t, .int .u64 a] 84)))
  have hlt := cell_some_lt hb
  generalize toldB ⟨j, t, a⟩ = u at hk ⊢
  go_enter Tryz.func92, Tryz.ntmps92
  go_wp2_with fail
  refine hk.out.mono ?_
  rintro e w1 ⟨rfl, hb1⟩
  have hfin := Lib.hid (Below.next hb0.out hb1)
  clear hb1
  cases u
  all_goals
    go_wp2
    go_ret
    exact ⟨rfl, hfin.out⟩
def IdxPost (t : Bool) (w : World) (e : Ending) (w' : World) : Prop := ∃ v : Int, e = .returned (.int .i64 v) ∧ (t = true → v = -1) ∧ (t = false → 0 ≤ v) ∧ Below w.heap.size w w'
set_option maxRecDepth 100000 in
set_option maxHeartbeats 2000000 in
theorem idxTold_any (A : Option Addr) (n c b : Nat) (L : List Sn) (w : World) (hb : w.cell? ⟨b, 0, none⟩ = some (.func (.func 64) #[] #[])) (hL : L.length = n) (hA : SnAt w A L) (hn : n ≤ 4000000) :
    Calls Tryz.prog 113 #[.slice A n c, .func (.func 92) #[] #[.pointer (some ⟨b, 0, none⟩)]] w (IdxPost (L.all toldB) w) := by
  have hk := Lib.hid fun j t a W hW => notTold_any j t a b W hW
  have hL' := Lib.hid hL
  have hA' := Lib.hid hA
  have hbl := cell_some_lt hb
  have hb' := Lib.hid hb
  clear hL hA hb
  go_enter Tryz.func113, Tryz.ntmps113
  go_wp2_with fail
  go_loopg [8] n (fun g s8 wr => ∃ k : Nat, k + g = n ∧ s8 = .int .i64 k ∧ (∀ (i : Nat) (x : Sn), i < k → L[i]? = some x → toldB x = true) ∧ Below w.heap.size w wr)
  case atStart => exact ⟨0, by omega, rfl, fun i x h => absurd h (by omega), Below.refl _ _⟩
  case round =>
    obtain ⟨k, hkg, rfl, hall, hbr⟩ := hrel
    have hall' := Lib.hid hall
    have hbr' := Lib.hid hbr
    clear hall hbr
    cases gk with
    | zero =>
      have e0 : ¬ ((k : Int) < (n : Int)) := by omega
      have hs := Lib.hid (show L.all toldB = true by
        rw [List.all_eq_true]
        intro x hx
        obtain ⟨i, hi⟩ := List.getElem?_of_mem hx
        exact hall'.out i x (by have := (List.getElem?_eq_some_iff.1 hi).1; have := hL'.out; omega) hi)
      go_wp2
      go_ret
      exact ⟨-1, rfl, fun _ => rfl, (fun h => by rw [hs.out] at h; cases h), hbr'.out⟩
    | succ g =>
      have e0 : (k : Int) < (n : Int) := by omega
      obtain ⟨blk, off, x, rfl, hx, v1, v2, v3, _, _⟩ := (hA'.out.below hbr'.out).at_ (k := k) (by rw [hL'.out]; omega)
      have hx' := Lib.hid hx
      have hk2 := Lib.hid (hk.out x.j x.t x.a wr ((hbr'.out.cell (p := ⟨b, 0, none⟩) hbl).trans hb'.out))
      clear hx
      obtain ⟨t, ht⟩ : ∃ t, toldB x = t := ⟨_, rfl⟩
      rw [show toldB ⟨x.j, x.t, x.a⟩ = t from ht] at hk2
      have ht' := Lib.hid ht
      clear ht
      go_wp2_with fail
      refine hk2.out.mono ?_
      rintro e w1 ⟨rfl, hb1⟩
      have hb1' := Lib.hid (Below.next hbr'.out hb1)
      clear hb1
      cases t
      · have hs := Lib.hid (show L.all toldB = false by
          rw [List.all_eq_false]
          exact ⟨x, List.mem_of_getElem? hx'.out, by rw [ht'.out]; simp⟩)
        go_wp2
        go_ret
        exact ⟨k, rfl, (fun h => by rw [hs.out] at h; cases h), (fun _ => by omega), hb1'.out⟩
      · go_wp2
        go_roundg g
        case measure => omega
        case rel =>
          refine ⟨k + 1, by omega, by go_num, fun i y hi hv => ?_, hb1'.out⟩
          rcases Nat.lt_or_ge i k with h | h
          · exact hall'.out i y h hv
          · obtain rfl : i = k := by omega
            rw [hx'.out] at hv
            cases hv
            exact ht'.out
set_option maxRecDepth 100000 in
set_option maxHeartbeats 1000000 in
theorem hasTold_any (A : Option Addr) (n c b : Nat) (L : List Sn) (w : World) (hb : w.cell? ⟨b, 0, none⟩ = some (.func (.func 64) #[] #[])) (hL : L.length = n) (hA : SnAt w A L) (hn : n ≤ 4000000) :
    Calls Tryz.prog 91 #[.slice A n c, .func (.func 92) #[] #[.pointer (some ⟨b, 0, none⟩)]] w (BoolPost (!L.all toldB) w) := by
  have hk := Lib.hid (idxTold_any A n c b L w hb hL hA hn)
  generalize L.all toldB = t at hk ⊢
  clear hL hA
  go_enter Tryz.func91, Tryz.ntmps91
  go_wp2_with fail
  refine hk.out.mono ?_
  rintro e w1 ⟨v, rfl, h1, h2, hb1⟩
  have hb1' := Lib.hid hb1
  clear hb1
  cases t
  · have e0 : 0 ≤ v := h2 rfl
    have e0' := Lib.hid e0
    clear h1 h2
    go_wp2
    go_ret
    exact ⟨ret_bool (by simp [e0'.out]), hb1'.out⟩
  · have e0 : ¬ 0 ≤ v := by have := h1 rfl; omega
    have e0' := Lib.hid e0
    clear h1 h2
    go_wp2
    go_ret
    exact ⟨ret_bool (by simp [e0'.out]), hb1'.out⟩
set_option maxRecDepth 100000 in
set_option maxHeartbeats 1000000 in
theorem allTold_any (A : Option Addr) (n c : Nat) (L : List Sn) (w : World) (hL : L.length = n) (hA : SnAt w A L) (hn : n ≤ 4000000) :
    Calls Tryz.prog 63 #[.slice A n c, .func (.func 64) #[] #[]] w (BoolPost (L.all toldB) w) := by
  have hb0 := Lib.hid ((Below.refl w.heap.size w).alloc (Nat.le_refl _) (.cells #[.func (.func 64) #[] #[]] 106))
  have hk := Lib.hid (hasTold_any A n c w.heap.size L (w.alloc (.cells #[.func (.func 64) #[] #[]] 106)) (by rw [blk_cell (heap_alloc_new w _)]; rfl) hL (hA.below hb0.out) hn)
  clear hL hA
  generalize L.all toldB = t at hk ⊢
  go_enter Tryz.func63, Tryz.ntmps63
  go_wp2_with fail
  refine hk.out.mono ?_
  rintro e w1 ⟨rfl, hb1⟩
  have hfin := Lib.hid (Below.next hb0.out hb1)
  clear hb1
  cases t
  all_goals
    go_wp2
    go_ret
    exact ⟨rfl, hfin.out⟩
end Go.Proofs.YtkbmckmlnphpmaaGreatDoor
namespace Go.Proofs.YtkbmckmlnphpmaaGreatDoor
open Go.RowKit Go.Lib Go.Shelf

def j1W : ByteArray := ⟨#[106, 49]⟩
def j0W : ByteArray := ⟨#[106, 48]⟩
def seenT (x : Sn) : ByteArray := if x.t then j1W else if x.j then j0W else numT x.a.toNat
def seenText (L : List Sn) : ByteArray := joinT (L.map seenT) ⟨#[32]⟩
theorem seen_len (L : List Sn) (hL : ∀ x ∈ L, 0 ≤ x.a ∧ x.a ≤ 18446744073709551615) (h2 : L.length ≤ 2000000) : (Lib.join ((L.map seenT).map (·.data.toList)) [32]).length ≤ 140737488355328 := by
  cases L with
  | nil => simp [Lib.join]
  | cons x L =>
    rw [List.map_cons, List.map_cons, Lib.join_length]
    have h3 := lens_le (((x :: L).map seenT).map (·.data.toList)) 1000 (by
      intro y hy
      rw [List.map_map] at hy
      obtain ⟨z, hz, rfl⟩ := List.mem_map.1 hy
      show (seenT z).data.toList.length ≤ 1000
      unfold seenT
      split
      · exact Nat.le_of_lt (by decide)
      · split
        · exact Nat.le_of_lt (by decide)
        · have := numT_len z.a.toNat (by have := hL z hz; omega)
          omega)
    simp only [List.length_cons, List.length_map, List.length_nil, List.map_cons] at h3 h2 ⊢
    have h4 : (L.length + 1) * 1000 ≤ 2000001 * 1000 := Nat.mul_le_mul_right _ (by omega)
    omega

theorem cell_one_new2 (w : World) (o : Obj) (v : Value) (t : TypeId) : ∀ (j : Nat) (u : Value), [v][j]? = some u → ((w.alloc o).alloc (.cells #[v] t)).cell? ((⟨w.heap.size + 1, 0, none⟩ : Addr).add j) = some u := by
  have h := cell_one_new (w.alloc o) v t
  have e : (w.alloc o).heap.size = w.heap.size + 1 := by simp
  rw [e] at h
  exact h

set_option maxRecDepth 100000 in
set_option maxHeartbeats 4000000 in
theorem seen_any (A : Option Addr) (n c : Nat) (L : List Sn) (w : World) (hL : L.length = n) (hA : SnAt w A L) (hT : Tab w) (hn : n ≤ 2000000) :
    Calls Tryz.prog 26 #[.slice A n c] w (StrErr (if L.all toldB = true then seenText L else ⟨#[]⟩) (if L.all toldB = true then 0 else 2) w) := by
  have hk := Lib.hid (allTold_any A n c L w hL hA (by omega))
  have hlen := Lib.hid (seen_len L hA.1 (by omega))
  have hL' := Lib.hid hL
  have hA' := Lib.hid hA
  have hT' := Lib.hid hT
  clear hL hA hT
  obtain ⟨t, ht⟩ : ∃ t, L.all toldB = t := ⟨_, rfl⟩
  rw [ht] at hk ⊢
  cases t
  · rw [if_neg (by simp), if_neg (by simp)]
    clear ht
    go_enter Tryz.func26, Tryz.ntmps26
    go_wp2_with fail
    refine hk.out.mono ?_
    rintro e w1 ⟨rfl, hb1⟩
    have hb1' := Lib.hid hb1
    clear hb1
    go_wp2
    go_ret2
    exact ⟨rfl, hb1'.out⟩
  · rw [if_pos rfl, if_pos rfl]
    clear ht
    obtain ⟨i0, hi, hz0, hz1, hz2⟩ := info_parts info9
    have hi' := Lib.hid (And.intro hi (And.intro hz0 (And.intro hz1 hz2)))
    clear hi hz0 hz1 hz2
    go_enter Tryz.func26, Tryz.ntmps26
    go_wp2_with fail
    refine hk.out.mono ?_
    rintro e w1 ⟨rfl, hb1⟩
    have hb1' := Lib.hid hb1
    clear hb1
    go_wp2_with fail
    go_loopg [4, 12] n (fun g s4 s12 wr => ∃ k : Nat, k + g = n ∧ s12 = .int .i64 k ∧ wr.ownsRow w.heap.size 9 1 s4 k (sCells ((L.take k).map seenT)) ∧ Below w.heap.size w wr)
    case atStart => exact ⟨0, by omega, rfl, ⟨rfl, .inl ⟨rfl, rfl⟩⟩, hb1'.out⟩
    case round =>
      obtain ⟨k, hkg, rfl, ho, hbr⟩ := hrel
      have ho' := Lib.hid ho
      have hbr' := Lib.hid hbr
      clear ho hbr
      cases gk with
      | zero =>
        have e0 : ¬ ((k : Int) < (n : Int)) := by omega
        have htk : L.take k = L := List.take_of_length_le (by rw [hL'.out]; omega)
        have ho2 := ho'.out
        rw [htk] at ho2
        have hls : (L.map seenT).length = k := by rw [List.length_map, hL'.out]; omega
        obtain ⟨hcl, hcase⟩ := ho2
        rcases hcase with ⟨hv, h0⟩ | ⟨gb, cap, cur, hv, hgb, hh, hcap, hm, hs, htt⟩
        · subst hv
          have hnil := Lib.hid (show seenText L = ⟨#[]⟩ by
            have : L = [] := List.length_eq_zero_iff.1 (by rw [hL'.out]; omega)
            rw [this]
            rfl)
          have hj := Lib.hid (Tryz.strings_Join_none none 0 ⟨#[32]⟩ wr)
          clear hcl htk
          go_wp2_with fail
          refine hj.out.mono ?_
          rintro e w4 ⟨rfl, rfl⟩
          go_wp2
          go_ret2
          exact ⟨by rw [hnil.out]; rfl, hbr'.out⟩
        · have hj := Lib.hid (Tryz.strings_Join gb 0 cap (L.map seenT) ⟨#[32]⟩ wr (fun j x hx => by
            rw [Nat.zero_add, blk_cell hh]
            have h3 : (cur.toList.take (k * 1))[j]? = (sCells (L.map seenT))[j]? := by rw [htt]
            have hjl : j < k := by have := (List.getElem?_eq_some_iff.1 hx).1; omega
            rw [List.getElem?_take, if_pos (by omega), sCells, List.getElem?_map, hx] at h3
            simpa using h3) (blk_lt hh) (by omega) (by omega) hlen.out)
          rw [hls] at hj
          subst hv
          have hj2 := Lib.hid (show Calls Tryz.prog 65 #[.slice (some ⟨gb, 0, none⟩) k cap, .string ⟨#[32]⟩] wr fun e w' => e = .returned (.string (seenText L)) ∧ Below wr.heap.size wr w' from hj.out)
          clear hh htt hs hcl htk hgb hj
          go_wp2_with fail
          refine hj2.out.mono ?_
          rintro e w4 ⟨rfl, hb4⟩
          have hb4' := Lib.hid (Below.next hbr'.out hb4)
          clear hb4
          go_wp2
          go_ret2
          exact ⟨rfl, hb4'.out⟩
      | succ g =>
        have e0 : (k : Int) < (n : Int) := by omega
        obtain ⟨blk, off, x, rfl, hx, v1, v2, v3, x0, x1⟩ := (hA'.out.below hbr'.out).at_ (k := k) (by rw [hL'.out]; omega)
        have hx' := Lib.hid hx
        obtain ⟨u, hu⟩ := Int.eq_ofNat_of_zero_le x0
        rw [hu] at v3 x1
        have hu' := Lib.hid hu
        have hblt := cell_some_lt v1
        have hf := Lib.hid fun (W : World) (h : Below w.heap.size w W) => fmtU u (by omega) W (hT'.out.below h)
        have hsz := hbr'.out.size
        obtain ⟨xj, hxj⟩ : ∃ xj, x.j = xj := ⟨_, rfl⟩
        obtain ⟨xt, hxt⟩ : ∃ xt, x.t = xt := ⟨_, rfl⟩
        rw [hxj] at v1
        rw [hxt] at v2
        have hxj' := Lib.hid hxj
        have hxt' := Lib.hid hxt
        clear hx hu x0 hxj hxt
        cases xt
        · cases xj
          · go_wp2_with fail
            refine (hf.out _ (hbr'.out.alloc hbr'.out.size _)).mono ?_
            rintro e w3 ⟨rfl, hb3⟩
            have hb3' := Lib.hid (Below.next ((Below.refl wr.heap.size wr).alloc (Nat.le_refl _) _) hb3)
            clear hb3
            have hown := Lib.hid ((show (w3).ownsRow w.heap.size 9 1 u4 k (sCells ((L.take k).map seenT)) from ho'.out.kept (row := none) ⟨(hb3'.out).os, (hb3'.out).tape, (hb3'.out).output, (hb3'.out).size, fun i hi _ => (hb3'.out).block i hi⟩ (Classical.em _)).alloc (.cells #[.string (numT u)] 9))
            have hnew := Lib.hid (cell_one_new (w3) (.string (numT u)) 9)
            have hbA := Lib.hid (Below.next hbr'.out ((hb3'.out).alloc (hb3'.out).size (.cells #[.string (numT u)] 9)))
            have hone := Lib.hid (show ∀ v ∈ [Value.string (numT u)], v.oneCell' = true by simp [Value.oneCell'])
            have hbs := Lib.hid hbA.out.size
            have hk1 := Lib.hid (show k + 1 ≤ maxLen by unfold maxLen; omega)
            have hk2 := Lib.hid (show (k + 1) * 16 ≤ 140737488355328 by omega)
            obtain ⟨hj1, hj2, hj3, hj4⟩ := hi'.out
            go_wp2_with ((at_builtin; refine wpList_append_own_at _ rfl _ _ 67 rfl w.heap.size 9 i0 _ 1 16 und67 hj1 hj2 hj3 hj4 rfl (by decide) u4 k (sCells ((L.take k).map seenT)) rfl hown.out ⟨w3.heap.size, 0, none⟩ 1 1 [.string (numT u)] rfl rfl hnew.out hone.out hk1.out hk2.out hbs.out ?_; intro v' w4 hown4 hg4 hnil4 hat4))
            have hB4 : Below w.heap.size w w4 := hbA.out.grown hg4 hbs.out (fun g' e => (hown.out.lt g' e).1)
            have hB4' := Lib.hid hB4
            have hown4' := Lib.hid hown4
            clear hB4 hown4 hg4 hnil4 hat4
            go_wp2
            go_roundg g
            case measure => omega
            case rel =>
              refine ⟨k + 1, by omega, by go_num, ?_, hB4'.out⟩
              have e5 : (L.take (k + 1)).map seenT = (L.take k).map seenT ++ [(numT u)] := by
                rw [List.take_add_one, hx'.out, List.map_append]
                have : seenT x = (numT u) := by unfold seenT; rw [hxt'.out]; rw [hxj'.out, hu'.out]; rfl
                simp [this]
              rw [e5]
              simpa [sCells] using hown4'.out
          · have hown := Lib.hid ((show ((wr.alloc (Obj.cells #[.bool true, .bool false, .int .u64 u] 84))).ownsRow w.heap.size 9 1 u4 k (sCells ((L.take k).map seenT)) from ho'.out.kept (row := none) ⟨(((Below.refl wr.heap.size wr).alloc (Nat.le_refl _) (Obj.cells #[.bool true, .bool false, .int .u64 u] 84))).os, (((Below.refl wr.heap.size wr).alloc (Nat.le_refl _) (Obj.cells #[.bool true, .bool false, .int .u64 u] 84))).tape, (((Below.refl wr.heap.size wr).alloc (Nat.le_refl _) (Obj.cells #[.bool true, .bool false, .int .u64 u] 84))).output, (((Below.refl wr.heap.size wr).alloc (Nat.le_refl _) (Obj.cells #[.bool true, .bool false, .int .u64 u] 84))).size, fun i hi _ => (((Below.refl wr.heap.size wr).alloc (Nat.le_refl _) (Obj.cells #[.bool true, .bool false, .int .u64 u] 84))).block i hi⟩ (Classical.em _)).alloc (.cells #[.string ⟨#[106, 48]⟩] 9))
            have hnew := Lib.hid (cell_one_new2 wr (Obj.cells #[.bool true, .bool false, .int .u64 u] 84) (.string ⟨#[106, 48]⟩) 9)
            have hbA := Lib.hid (Below.next hbr'.out ((((Below.refl wr.heap.size wr).alloc (Nat.le_refl _) (Obj.cells #[.bool true, .bool false, .int .u64 u] 84))).alloc (((Below.refl wr.heap.size wr).alloc (Nat.le_refl _) (Obj.cells #[.bool true, .bool false, .int .u64 u] 84))).size (.cells #[.string ⟨#[106, 48]⟩] 9)))
            have hone := Lib.hid (show ∀ v ∈ [Value.string ⟨#[106, 48]⟩], v.oneCell' = true by simp [Value.oneCell'])
            have hbs := Lib.hid hbA.out.size
            have hk1 := Lib.hid (show k + 1 ≤ maxLen by unfold maxLen; omega)
            have hk2 := Lib.hid (show (k + 1) * 16 ≤ 140737488355328 by omega)
            obtain ⟨hj1, hj2, hj3, hj4⟩ := hi'.out
            go_wp2_with ((at_builtin; refine wpList_append_own_at _ rfl _ _ 67 rfl w.heap.size 9 i0 _ 1 16 und67 hj1 hj2 hj3 hj4 rfl (by decide) u4 k (sCells ((L.take k).map seenT)) rfl hown.out ⟨wr.heap.size + 1, 0, none⟩ 1 1 [.string ⟨#[106, 48]⟩] rfl rfl hnew.out hone.out hk1.out hk2.out hbs.out ?_; intro v' w4 hown4 hg4 hnil4 hat4))
            have hB4 : Below w.heap.size w w4 := hbA.out.grown hg4 hbs.out (fun g' e => (hown.out.lt g' e).1)
            have hB4' := Lib.hid hB4
            have hown4' := Lib.hid hown4
            clear hB4 hown4 hg4 hnil4 hat4
            go_wp2
            go_roundg g
            case measure => omega
            case rel =>
              refine ⟨k + 1, by omega, by go_num, ?_, hB4'.out⟩
              have e5 : (L.take (k + 1)).map seenT = (L.take k).map seenT ++ [⟨#[106, 48]⟩] := by
                rw [List.take_add_one, hx'.out, List.map_append]
                have : seenT x = ⟨#[106, 48]⟩ := by unfold seenT; rw [hxt'.out]; rw [hxj'.out]; rfl
                simp [this]
              rw [e5]
              simpa [sCells] using hown4'.out
        · have hown := Lib.hid ((show ((wr.alloc (Obj.cells #[.bool xj, .bool true, .int .u64 u] 84))).ownsRow w.heap.size 9 1 u4 k (sCells ((L.take k).map seenT)) from ho'.out.kept (row := none) ⟨(((Below.refl wr.heap.size wr).alloc (Nat.le_refl _) (Obj.cells #[.bool xj, .bool true, .int .u64 u] 84))).os, (((Below.refl wr.heap.size wr).alloc (Nat.le_refl _) (Obj.cells #[.bool xj, .bool true, .int .u64 u] 84))).tape, (((Below.refl wr.heap.size wr).alloc (Nat.le_refl _) (Obj.cells #[.bool xj, .bool true, .int .u64 u] 84))).output, (((Below.refl wr.heap.size wr).alloc (Nat.le_refl _) (Obj.cells #[.bool xj, .bool true, .int .u64 u] 84))).size, fun i hi _ => (((Below.refl wr.heap.size wr).alloc (Nat.le_refl _) (Obj.cells #[.bool xj, .bool true, .int .u64 u] 84))).block i hi⟩ (Classical.em _)).alloc (.cells #[.string ⟨#[106, 49]⟩] 9))
          have hnew := Lib.hid (cell_one_new2 wr (Obj.cells #[.bool xj, .bool true, .int .u64 u] 84) (.string ⟨#[106, 49]⟩) 9)
          have hbA := Lib.hid (Below.next hbr'.out ((((Below.refl wr.heap.size wr).alloc (Nat.le_refl _) (Obj.cells #[.bool xj, .bool true, .int .u64 u] 84))).alloc (((Below.refl wr.heap.size wr).alloc (Nat.le_refl _) (Obj.cells #[.bool xj, .bool true, .int .u64 u] 84))).size (.cells #[.string ⟨#[106, 49]⟩] 9)))
          have hone := Lib.hid (show ∀ v ∈ [Value.string ⟨#[106, 49]⟩], v.oneCell' = true by simp [Value.oneCell'])
          have hbs := Lib.hid hbA.out.size
          have hk1 := Lib.hid (show k + 1 ≤ maxLen by unfold maxLen; omega)
          have hk2 := Lib.hid (show (k + 1) * 16 ≤ 140737488355328 by omega)
          obtain ⟨hj1, hj2, hj3, hj4⟩ := hi'.out
          go_wp2_with ((at_builtin; refine wpList_append_own_at _ rfl _ _ 67 rfl w.heap.size 9 i0 _ 1 16 und67 hj1 hj2 hj3 hj4 rfl (by decide) u4 k (sCells ((L.take k).map seenT)) rfl hown.out ⟨wr.heap.size + 1, 0, none⟩ 1 1 [.string ⟨#[106, 49]⟩] rfl rfl hnew.out hone.out hk1.out hk2.out hbs.out ?_; intro v' w4 hown4 hg4 hnil4 hat4))
          have hB4 : Below w.heap.size w w4 := hbA.out.grown hg4 hbs.out (fun g' e => (hown.out.lt g' e).1)
          have hB4' := Lib.hid hB4
          have hown4' := Lib.hid hown4
          clear hB4 hown4 hg4 hnil4 hat4
          go_wp2
          go_roundg g
          case measure => omega
          case rel =>
            refine ⟨k + 1, by omega, by go_num, ?_, hB4'.out⟩
            have e5 : (L.take (k + 1)).map seenT = (L.take k).map seenT ++ [⟨#[106, 49]⟩] := by
              rw [List.take_add_one, hx'.out, List.map_append]
              have : seenT x = ⟨#[106, 49]⟩ := by unfold seenT; rw [hxt'.out]; rfl
              simp [this]
            rw [e5]
            simpa [sCells] using hown4'.out
end Go.Proofs.YtkbmckmlnphpmaaGreatDoor
namespace Go.Proofs.YtkbmckmlnphpmaaGreatDoor
open Go.RowKit Go.Lib Go.Shelf

/-- what the iterator tells of a round's element -/
def Told (N : Nat) (pre : List ByteArray) (x : ByteArray) : Prop := pre.length < N ∧ x.size ≤ 2000000
/-- the contract of an iterator over texts that keeps its place in box Bs -/
def IterSaid (n : Nat) (gf : Nat) (lb : Array Value) (Bs N : Nat) (Kp : World → World → Prop) (S Sp : List ByteArray → Prop) (w : World) : Prop :=
  ∀ (l : Nat) (J Jx : List ByteArray → World → Prop) (W : World), Below w.heap.size w W → (∀ s W v, J s W → J s (W.setCell ⟨Bs, 0, none⟩ v)) →
    (∀ pre x W1, J pre W1 → Told N pre x → YieldAt Fence.wide (n - 1) Tryz.prog l #[.string x] W1 fun e W' => (e = .returned (.bool true) ∧ J (pre ++ [x]) W' ∧ Kp W1 W') ∨ (e = .returned (.bool false) ∧ Jx (pre ++ [x]) W')) →
    J [] W → CallsIn Fence.wide n Tryz.prog gf (#[.func (.yield l) #[] #[]] ++ lb) W fun e W' => (∃ v, e = .returned v) ∧ ((∃ xs, S xs ∧ J xs W') ∨ (∃ pre, Sp pre ∧ Jx pre W'))
/-- how a round's body is left -/
def roundEnd (B : Nat) (Kp : World → World → Prop) (I Ix : List ByteArray → World → Prop) (xs : List ByteArray) (W : World) : Exit → Act → World → Prop
  | .normal, _, W' => KeepsFrom B W W' ∧ Kp W W' ∧ I xs W'
  | .ret, _, W' => KeepsFrom B W W' ∧ Ix xs W'
  | _, _, _ => False
/-- what speaks of blocks that no loop's bookkeeping turns -/
def Calm (B : Nat) (I : List ByteArray → World → Prop) : Prop :=
  (∀ s W o, I s W → B ≤ W.heap.size → I s (W.alloc o)) ∧ (∀ s W l o o', I s W → B ≤ l → W.heap[l]? = some o → o.isCells = false → I s (W.putObj l o'))

theorem wpIn_range_box {n : Nat} {g : Operand} {p : Tmp} {assign body : Code} {Q : Exit → Act → World → Prop} {a : Act} {w : World} {gf : Nat} {lb : Array Value} {Bs N : Nat} {Kp : World → World → Prop} {S Sp : List ByteArray → Prop}
    (h1 : 1 ≤ n) (hg : a.eval g = .func (.func gf) #[] lb) (eg : ∀ args w, (callFunc gf args).run Tryz.prog w = .ok (.enter gf args) w)
    (hBs : Bs < w.heap.size) (hKt : ∀ {A B C : World}, Kp A B → Kp B C → Kp A C) (hKb : ∀ (W : World) (l : Nat) (o' : Obj), w.heap.size ≤ l → Kp W (W.putObj l o'))
    (hiter : IterSaid (n - 1) gf lb Bs N Kp S Sp w) (I Ix : List ByteArray → World → Prop) (hI : Calm w.heap.size I) (hIx : Calm w.heap.size Ix) (hIb : ∀ s W v, I s W → I s (W.setCell ⟨Bs, 0, none⟩ v)) (h0 : I [] w)
    (T : ByteArray → Array Value)
    (hassign : ∀ (l : Nat) (x : ByteArray) (W : World) (K : Act → World → Prop), K { tmps := T x, defers := [] } W →
      assign.wpIn (Fence.wide.inRound l) (n - 1 - 1) Tryz.prog (Exit.then K (fun _ _ _ => False)) { tmps := a.tmps.setIfInBounds p (.string x), defers := [] } W)
    (hbody : ∀ (l : Nat) (pre : List ByteArray) (x : ByteArray) (W : World), w.heap.size ≤ l → I pre W → Told N pre x → body.wpIn (Fence.wide.inRound l) (n - 1 - 1) Tryz.prog (roundEnd w.heap.size Kp I Ix (pre ++ [x]) W) { tmps := T x, defers := [] } W)
    (hdone : ∀ (D : Nat) (xs : List ByteArray) (W : World), w.heap.size ≤ D → S xs → I xs W → W.heap[D]? = some (.deferred (some [])) → Q .normal { a with defers := { target := .collected D, args := #[] } :: a.defers } W)
    (hstop : ∀ (D : Nat) (pre : List ByteArray) (W : World), w.heap.size ≤ D → Sp pre → Ix pre W → W.heap[D]? = some (.deferred (some [])) → Code.ret.wpIn Fence.wide n Tryz.prog Q { a with defers := { target := .collected D, args := #[] } :: a.defers } W) :
    (Code.rangeFunc g #[p] assign body).wpIn Fence.wide n Tryz.prog Q a w := by
  refine wpIn_rangeFunc fun fn hfn => ?_
  have hlp : ∃ R : LoopState → Option Code → Loop, ∀ st pe, R st pe = { state := st, pending := pe, fn := fn, tmps := a.tmps, params := #[p], assign := assign, body := body, defers := w.heap.size } := ⟨_, fun _ _ => rfl⟩
  obtain ⟨R, hR⟩ := hlp
  -- the loop's two blocks: D for deferred calls, L for its record
  have hS1 : ((w.alloc (.deferred (some []))).alloc (.loop (R .ready none))).heap.size = w.heap.size + 2 := by simp
  have hD1 : ((w.alloc (.deferred (some []))).alloc (.loop (R .ready none))).heap[w.heap.size]? = some (.deferred (some [])) :=
    (heap_alloc_old _ _ (by simp)).trans (heap_alloc_new w _)
  have hL1 : ((w.alloc (.deferred (some []))).alloc (.loop (R .ready none))).heap[w.heap.size + 1]? = some (.loop (R .ready none)) := by
    have h := heap_alloc_new (w.alloc (.deferred (some []))) (.loop (R .ready none))
    have e : (w.alloc (.deferred (some []))).heap.size = w.heap.size + 1 := by simp
    rwa [e] at h
  have hI1 : I [] ((w.alloc (.deferred (some []))).alloc (.loop (R .ready none))) := hI.1 _ _ _ (hI.1 _ _ _ h0 (Nat.le_refl _)) (by simp)
  have hB1 : Below w.heap.size w ((w.alloc (.deferred (some []))).alloc (.loop (R .ready none))) := ((Below.refl _ w).alloc (Nat.le_refl _) _).alloc (by simp) _
  generalize hW1 : (w.alloc (.deferred (some []))).alloc (.loop (R .ready none)) = W1 at hS1 hD1 hL1 hI1 hB1
  refine ⟨w.heap.size + 1, [{ target := .collected w.heap.size, args := #[] }], W1, { target := .fn (.func gf) lb, args := #[.func (.yield (w.heap.size + 1)) #[] #[]] }, W1, gf, #[.func (.yield (w.heap.size + 1)) #[] #[]] ++ lb, W1, ?_, ?_, ?_, ?_, fun _ => h1, ?_⟩
  · rw [← hW1, hR]
    exact run_enterLoop_outer _ _ _ _ _
  · simp only [resolve, hg]
    simp [go_sem]
  · intro f' _
    exact trivial
  · simp [invoke, go_sem, eg]
  · -- the two blocks lie where a round's caller left them
    have hset : ∀ (W : World) (v : Value) (k : Nat), w.heap.size ≤ k → (W.setCell ⟨Bs, 0, none⟩ v).heap[k]? = W.heap[k]? := fun W v k hk => set_other (by omega)
    have hcall := hiter (w.heap.size + 1)
      (fun pre W => I pre W ∧ W.heap[w.heap.size + 1]? = some (.loop (R .ready none)) ∧ W.heap[w.heap.size]? = some (.deferred (some [])))
      (fun pre W => Ix pre W ∧ W.heap[w.heap.size + 1]? = some (.loop (R .done (some .ret))) ∧ W.heap[w.heap.size]? = some (.deferred (some []))) W1 hB1
      (fun s W v h => ⟨hIb s W v h.1, (hset W v _ (by omega)).trans h.2.1, (hset W v _ (Nat.le_refl _)).trans h.2.2⟩)
      (fun pre x W hJ hT => ?_) ⟨hI1, hL1, hD1⟩
    · refine hcall.mono ?_
      rintro e W2 ⟨⟨v, rfl⟩, ⟨xs, hxs, hi, hl, hd⟩ | ⟨pre, hpre, hi, hl, hd⟩⟩
      · have hrun := run_endLoop (P := Tryz.prog) hl (by rw [hR]; simp)
        rw [show (R .ready none).pending = none by rw [hR]] at hrun
        exact ⟨none, _, hrun, hdone _ xs _ (Nat.le_refl _) hxs (hI.2 _ _ _ _ _ hi (by omega) hl rfl) ((World.putObj_heap_other (by omega)).trans hd)⟩
      · have hrun := run_endLoop (P := Tryz.prog) hl (by rw [hR]; simp)
        rw [show (R .done (some .ret)).pending = some .ret by rw [hR]] at hrun
        exact ⟨some .ret, _, hrun, hstop _ pre _ (Nat.le_refl _) hpre (hIx.2 _ _ _ _ _ hi (by omega) hl rfl) ((World.putObj_heap_other (by omega)).trans hd)⟩
    · obtain ⟨hi, hl, hd⟩ := hJ
      have hy := run_yield (P := Tryz.prog) (args := #[.string x]) hl (by rw [hR]; rfl)
      rw [hR] at hy
      have hz : ∀ (f : Array Value → Tmp × Value → Array Value), (#[p].zip #[Value.string x]).foldl f a.tmps = f a.tmps (p, .string x) := fun f => by simp
      dsimp only at hy
      rw [hz] at hy
      refine ⟨fn, _, assign, body, hy, roundIn_of_wpIn hfn ?_⟩
      have hbeg := run_beginRound (P := Tryz.prog) hl (by rw [hR])
      have hll : w.heap.size + 1 < W.heap.size := blk_lt hl
      refine hassign (w.heap.size + 1) x W _ ?_
      refine ⟨_, hbeg, ?_⟩
      have hl2 : (W.putObj (w.heap.size + 1) (.loop { R .ready none with state := .busy })).heap[w.heap.size + 1]? = some (.loop { R .ready none with state := .busy }) := World.putObj_heap_same hll
      have hd2 : (W.putObj (w.heap.size + 1) (.loop { R .ready none with state := .busy })).heap[w.heap.size]? = some (.deferred (some [])) := (World.putObj_heap_other (by omega)).trans hd
      refine wpIn_mono (hbody (w.heap.size + 1) pre x _ (by omega) (hI.2 _ _ _ _ _ hi (by omega) hl rfl) hT) fun e a3 W3 hp => ?_
      cases e with
      | normal =>
        obtain ⟨hk, hkp, hi3⟩ := hp
        have hl3 := hk.same _ _ (by omega) hl2 rfl
        have hd3 := hk.same _ _ (Nat.le_refl _) hd2 rfl
        have hend := run_endRound (P := Tryz.prog) none hl3
        refine ⟨_, _, hend, .inl ⟨rfl, ⟨hI.2 _ _ _ _ _ hi3 (by omega) hl3 rfl, ?_, (World.putObj_heap_other (by omega)).trans hd3⟩, hKt (hKt (hKb _ _ _ (by omega)) hkp) (hKb _ _ _ (by omega))⟩⟩
        rw [World.putObj_heap_same (blk_lt hl3)]
        simp only [hR]
        rfl
      | ret =>
        obtain ⟨hk, hi3⟩ := hp
        have hl3 := hk.same _ _ (by omega) hl2 rfl
        have hd3 := hk.same _ _ (Nat.le_refl _) hd2 rfl
        have hend := run_endRound (P := Tryz.prog) (some .ret) hl3
        refine ⟨_, _, hend, .inr ⟨rfl, hIx.2 _ _ _ _ _ hi3 (by omega) hl3 rfl, ?_, (World.putObj_heap_other (by omega)).trans hd3⟩⟩
        rw [World.putObj_heap_same (blk_lt hl3)]
        simp only [hR]
        rfl
      | exit id => exact hp.elim
      | goto t => exact hp.elim
      | panic ch => exact hp.elim
      | outgrown => exact hp.elim
end Go.Proofs.YtkbmckmlnphpmaaGreatDoor
namespace Go.Proofs.YtkbmckmlnphpmaaGreatDoor
open Go.RowKit Go.Lib Go.Shelf

attribute [local go_sem] Oper.semAt_some

theorem parts_miss (c : UInt8) : ∀ l : List UInt8, indexByte l c = -1 → partsF c l = [l]
  | [], _ => rfl
  | b :: l, h => by
    unfold indexByte at h
    by_cases hb : b = c
    · subst hb; simp at h
    · have hge := indexByte_ge l c
      have hm : indexByte l c = -1 := by
        have e : (b == c) = false := by simpa using hb
        rw [e] at h
        simp only [Bool.false_eq_true, if_false] at h
        by_cases h2 : indexByte l c = -1
        · exact h2
        · rw [if_neg (by simpa using h2)] at h; omega
      unfold partsF
      rw [if_neg hb, parts_miss c l hm]
      rfl
theorem parts_hit (c : UInt8) : ∀ (l : List UInt8) (i : Nat), indexByte l c = (i : Int) → i < l.length ∧ partsF c l = l.take i :: partsF c (l.drop (i + 1))
  | [], i, h => by have h : (-1 : Int) = i := h; omega
  | b :: l, i, h => by
    unfold indexByte at h
    by_cases hb : b = c
    · subst hb
      simp at h
      have h0 : i = 0 := by omega
      subst h0
      simp [partsF]
    · have e : (b == c) = false := by simpa using hb
      rw [e] at h
      simp only [Bool.false_eq_true, if_false] at h
      by_cases h2 : indexByte l c = -1
      · rw [if_pos (by simpa using h2)] at h; omega
      · rw [if_neg (by simpa using h2)] at h
        have hge := indexByte_ge l c
        obtain ⟨k, hk⟩ : ∃ k : Nat, indexByte l c = (k : Int) := ⟨(indexByte l c).toNat, by omega⟩
        obtain ⟨h3, h4⟩ := parts_hit c l k hk
        have hik : i = k + 1 := by omega
        subst hik
        refine ⟨by simp; omega, ?_⟩
        conv => lhs; unfold partsF
        rw [if_neg hb, h4]
        simp
theorem partsB_miss {r : ByteArray} (h : indexByte r.data.toList 32 = -1) : partsB r = [r] := by
  unfold partsB
  rw [parts_miss 32 _ h]
  simp
theorem partsB_hit {r : ByteArray} {i : Nat} (h : indexByte r.data.toList 32 = (i : Int)) : i < r.size ∧ partsB r = r.extract 0 i :: partsB (r.extract (i + 1) r.size) := by
  obtain ⟨h1, h2⟩ := parts_hit 32 _ i h
  rw [size_list] at h1
  refine ⟨h1, ?_⟩
  unfold partsB
  rw [h2, List.map_cons, extract_list]
  have e1 : (⟨(r.data.toList.take i).toArray⟩ : ByteArray) = r.extract 0 i := ext_bytes (by rw [extract_list]; simp)
  have e2 : r.data.toList.take r.size = r.data.toList := List.take_of_length_le (by rw [size_list]; exact Nat.le_refl _)
  rw [e1, e2]

/-- the iterator's three boxes lie as they lay -/
def Kp3 (a b c : Nat) (W W' : World) : Prop := W'.heap[a]? = W.heap[a]? ∧ W'.heap[b]? = W.heap[b]? ∧ W'.heap[c]? = W.heap[c]?
theorem Kp3.trans {a b c : Nat} {A B C : World} (h : Kp3 a b c A B) (k : Kp3 a b c B C) : Kp3 a b c A C := ⟨k.1.trans h.1, k.2.1.trans h.2.1, k.2.2.trans h.2.2⟩
/-- a block of one cell -/
def Box1 (W : World) (b : Nat) (t : TypeId) (v : Value) : Prop := W.heap[b]? = some (.cells #[v] t (0, 0))
theorem Box1.c {W : World} {b : Nat} {t : TypeId} {v : Value} (h : Box1 W b t v) : W.cell? ⟨b, 0, none⟩ = some v := by rw [blk_cell h]; rfl
theorem Box1.f {W : World} {b : Nat} {t : TypeId} {v : Value} (h : Box1 W b t v) : W.frozen? ⟨b, 0, none⟩ = false := by simp [World.frozen?, show W.heap[b]? = _ from h]
theorem Box1.set {W : World} {b : Nat} {t : TypeId} {v u : Value} (h : Box1 W b t v) : Box1 (W.setCell ⟨b, 0, none⟩ u) b t u := set_same h
/-- what is left in the box -/
def leftIn (Bs : Nat) (W : World) : Nat := match W.cell? ⟨Bs, 0, none⟩ with | some (.string r) => r.size | _ => 0

set_option maxRecDepth 100000 in
set_option maxHeartbeats 4000000 in
theorem split115_in (n : Nat) (hn : 1 ≤ n) (l Bp Bs B0 : Nat) (s0 : ByteArray) (hs0 : s0.size ≤ 2000000) (J Jx : List ByteArray → World → Prop) (W : World) (hps : Bp ≠ Bs) (h0s : B0 ≠ Bs)
    (hp : Box1 W Bp 9 (.string ⟨#[32]⟩)) (hs : Box1 W Bs 9 (.string s0)) (hz : Box1 W B0 3 (.int .i64 0))
    (hJ : ∀ s W v, J s W → J s (W.setCell ⟨Bs, 0, none⟩ v))
    (hY : ∀ pre x W1, J pre W1 → Told 2000001 pre x → YieldAt Fence.wide (n - 1) Tryz.prog l #[.string x] W1 fun e W' => (e = .returned (.bool true) ∧ J (pre ++ [x]) W' ∧ Kp3 Bp Bs B0 W1 W') ∨ (e = .returned (.bool false) ∧ Jx (pre ++ [x]) W'))
    (hJ0 : J [] W) :
    CallsIn Fence.wide n Tryz.prog 115 #[.func (.yield l) #[] #[], .pointer (some ⟨Bp, 0, none⟩), .pointer (some ⟨Bs, 0, none⟩), .pointer (some ⟨B0, 0, none⟩)] W fun e W' => (∃ v, e = .returned v) ∧
      ((∃ xs, xs = partsB s0 ∧ J xs W') ∨ (∃ pre, (∃ rest, pre ++ rest = partsB s0 ∧ pre ≠ []) ∧ Jx pre W')) := by
  have hY' := Lib.hid hY
  have hJ' := Lib.hid hJ
  have hp' := Lib.hid hp
  have hs' := Lib.hid hs
  have hz' := Lib.hid hz
  have c0 := hp.c
  have hJ0' := Lib.hid hJ0
  have hlen := Lib.hid (show (partsB s0).length ≤ 2000001 by have := parts_le s0; omega)
  clear hY hJ hp hs hz hJ0
  refine callsIn_of_wp Tryz.func115 rfl trivial ?_ rfl
  simp only [Tryz.ntmps115, List.size_toArray, List.length_cons, List.length_nil, Nat.reduceAdd, Nat.reduceSub, Array.replicate_succ, Array.replicate_zero, List.push_toArray, List.append_toArray, List.nil_append, List.cons_append]
  gi_wp2_with fail
  gi_loopw [7] (fun s7 wr => ∃ (pre : List ByteArray) (r : ByteArray), partsB s0 = pre ++ partsB r ∧ r.size ≤ s0.size ∧ J pre wr ∧ Box1 wr Bp 9 (.string ⟨#[32]⟩) ∧ Box1 wr Bs 9 (.string r) ∧ Box1 wr B0 3 (.int .i64 0))
    (fun s7 wr => leftIn Bs wr)
  case atStart => exact ⟨[], s0, rfl, Nat.le_refl _, hJ0'.out, hp'.out, hs'.out, hz'.out⟩
  case round =>
    obtain ⟨pre, r, hpr, hrs, hJr, hbp, hbs, hb0⟩ := hrel
    have hpr' := Lib.hid hpr
    have hJr' := Lib.hid hJr
    have hbp' := Lib.hid hbp
    have hbs' := Lib.hid hbs
    have hb0' := Lib.hid hb0
    have d0 := hbp.c
    have d1 := hbs.c
    have d2 := hb0.c
    have hidx := Lib.hid (Tryz.strings_Index_one r 32 wr)
    have hpl := Lib.hid (show pre.length + (partsB r).length ≤ 2000001 by have := hlen.out; rw [hpr, List.length_append] at this; exact this)
    have hpp := parts_pos r
    have hleft := Lib.hid (show leftIn Bs wr = r.size by unfold leftIn; rw [d1])
    clear hpr hJr hbp hbs hb0 c0
    by_cases hm : indexByte r.data.toList 32 = -1
    · rw [hm] at hidx
      have hpm := Lib.hid (partsB_miss hm)
      clear hm
      obtain ⟨fn, tmps, assign, body, hy, hRo⟩ := hY'.out pre r wr hJr'.out ⟨by have := hpl.out; omega, by omega⟩
      have hRo' := Lib.hid hRo
      clear hRo
      gi_wp2_with fail
      refine ⟨trivial, ?_⟩
      refine (callsIn_wide.2 hidx.out).mono ?_
      rintro e w1 ⟨rfl, rfl⟩
      gi_wp2_with fail
      refine hRo'.out.mono ?_
      rintro e W3 (⟨rfl, hJ3, hk3⟩ | ⟨rfl, hJx3⟩)
      · have hJ3' := Lib.hid hJ3
        clear hJ3 hk3
        gi_wp2
        go_end0
        exact ⟨⟨_, rfl⟩, .inl ⟨_, rfl, by rw [hpr'.out, hpm.out]; exact hJ3'.out⟩⟩
      · have hJx3' := Lib.hid hJx3
        clear hJx3
        gi_wp2
        go_end0
        exact ⟨⟨_, rfl⟩, .inr ⟨_, ⟨[], by rw [hpr'.out, hpm.out]; simp, by simp⟩, hJx3'.out⟩⟩
    · have hge := indexByte_ge r.data.toList 32
      obtain ⟨i, hi⟩ : ∃ i : Nat, indexByte r.data.toList 32 = (i : Int) := ⟨(indexByte r.data.toList 32).toNat, by omega⟩
      rw [hi] at hidx
      obtain ⟨hir, hph⟩ := partsB_hit hi
      have hph' := Lib.hid hph
      have hxs : (r.extract 0 i).size ≤ 2000000 := by rw [ByteArray.size_extract]; omega
      have hx2 : (r.extract (i + 1) r.size).size + (i + 1) = r.size := by rw [ByteArray.size_extract]; omega
      have hx2' := Lib.hid hx2
      have hp2 := parts_pos (r.extract (i + 1) r.size)
      have hpl2 := Lib.hid (show pre.length < 2000001 by have h1 := hpl.out; rw [hph, List.length_cons] at h1; omega)
      clear hm hge hi hph hx2
      obtain ⟨fn, tmps, assign, body, hy, hRo⟩ := hY'.out pre (r.extract 0 i) wr hJr'.out ⟨hpl2.out, hxs⟩
      have hRo' := Lib.hid hRo
      have e1 : (i : Int) ≤ (r.size : Int) := by omega
      have e2 : (i : Int) + 1 ≤ (r.size : Int) := by omega
      clear hRo hxs
      gi_wp2_with fail
      refine ⟨trivial, ?_⟩
      refine (callsIn_wide.2 hidx.out).mono ?_
      rintro e w1 ⟨rfl, rfl⟩
      gi_wp2_with fail
      refine hRo'.out.mono ?_
      rintro e W3 (⟨rfl, hJ3, hk3⟩ | ⟨rfl, hJx3⟩)
      · have hJ3' := Lib.hid hJ3
        have gp := Lib.hid (show Box1 W3 Bp 9 (.string ⟨#[32]⟩) from hk3.1.trans hbp'.out)
        have gs := Lib.hid (show Box1 W3 Bs 9 (.string r) from hk3.2.1.trans hbs'.out)
        have gz := Lib.hid (show Box1 W3 B0 3 (.int .i64 0) from hk3.2.2.trans hb0'.out)
        have d0 := gp.out.c
        have d1 := gs.out.c
        have d2 := gz.out.c
        have df := gs.out.f
        clear hJ3 hk3
        gi_wp2
        go_roundw
        case rel =>
          refine ⟨pre ++ [r.extract 0 i], r.extract (i + 1) r.size, by rw [hpr'.out, hph'.out]; simp, by have := hx2'.out; omega, hJ'.out _ _ _ hJ3'.out, ?_, gs.out.set, ?_⟩
          · exact (set_other hps).trans gp.out
          · exact (set_other h0s).trans gz.out
        case measure =>
          have h1 : leftIn Bs (W3.setCell ⟨Bs, 0, none⟩ (.string (r.extract (i + 1) r.size))) = (r.extract (i + 1) r.size).size := by
            unfold leftIn
            rw [(gs.out.set (u := .string (r.extract (i + 1) r.size))).c]
          rw [h1, hleft.out]
          have := hx2'.out
          omega
      · have hJx3' := Lib.hid hJx3
        clear hJx3
        gi_wp2
        refine bodyPost_ret (results_none rfl _ _ _) rfl ?_
        exact ⟨⟨_, rfl⟩, .inr ⟨_, ⟨partsB (r.extract (i + 1) r.size), by rw [hpr'.out, hph'.out]; simp, by simp⟩, hJx3'.out⟩⟩

theorem split115_said (n : Nat) (hn : 1 ≤ n) (Bp Bs B0 : Nat) (s0 : ByteArray) (hs0 : s0.size ≤ 2000000) (w : World) (hps : Bp ≠ Bs) (h0s : B0 ≠ Bs)
    (hp : Box1 w Bp 9 (.string ⟨#[32]⟩)) (hs : Box1 w Bs 9 (.string s0)) (hz : Box1 w B0 3 (.int .i64 0)) :
    IterSaid n 115 #[.pointer (some ⟨Bp, 0, none⟩), .pointer (some ⟨Bs, 0, none⟩), .pointer (some ⟨B0, 0, none⟩)] Bs 2000001 (Kp3 Bp Bs B0) (fun xs => xs = partsB s0) (fun pre => ∃ rest, pre ++ rest = partsB s0 ∧ pre ≠ []) w :=
  fun l J Jx W hW hJ hY h0 => split115_in n hn l Bp Bs B0 s0 hs0 J Jx W hps h0s ((hW.block _ (blk_lt hp)).trans hp) ((hW.block _ (blk_lt hs)).trans hs) ((hW.block _ (blk_lt hz)).trans hz) hJ hY h0
/-- what SplitSeq gives -/
def SeqPost (s : ByteArray) (w : World) (e : Ending) (w' : World) : Prop :=
  ∃ Bp Bs B0, e = .returned (.func (.func 115) #[] #[.pointer (some ⟨Bp, 0, none⟩), .pointer (some ⟨Bs, 0, none⟩), .pointer (some ⟨B0, 0, none⟩)]) ∧ Bp ≠ Bs ∧ B0 ≠ Bs ∧ (w.heap.size ≤ Bp ∧ w.heap.size ≤ Bs ∧ w.heap.size ≤ B0) ∧
    Box1 w' Bp 9 (.string ⟨#[32]⟩) ∧ Box1 w' Bs 9 (.string s) ∧ Box1 w' B0 3 (.int .i64 0) ∧ Below w.heap.size w w'
set_option maxRecDepth 100000 in
set_option maxHeartbeats 1000000 in
theorem seq94_any (s : ByteArray) (w : World) : Calls Tryz.prog 94 #[.string s, .string ⟨#[32]⟩, .int .i64 0] w (SeqPost s w) := by
  go_enter Tryz.func94, Tryz.ntmps94
  go_wp2
  go_ret
  have e1 : (w.alloc (.cells #[.string s] 9)).heap.size = w.heap.size + 1 := by simp
  have e2 : ((w.alloc (.cells #[.string s] 9)).alloc (.cells #[.string ⟨#[32]⟩] 9)).heap.size = w.heap.size + 1 + 1 := by simp
  have hB : Below w.heap.size w (((w.alloc (.cells #[.string s] 9)).alloc (.cells #[.string ⟨#[32]⟩] 9)).alloc (.cells #[.int .i64 0] 3)) := (((Below.refl _ w).alloc (Nat.le_refl _) _).alloc (by simp) _).alloc (by simp; omega) _
  refine ⟨w.heap.size + 1, w.heap.size, w.heap.size + 1 + 1, rfl, by omega, by omega, ⟨by omega, by omega, by omega⟩, ?_, ?_, ?_, hB⟩
  · have h := heap_alloc_new (w.alloc (.cells #[.string s] 9)) (.cells #[.string ⟨#[32]⟩] 9)
    rw [e1] at h
    exact (heap_alloc_old _ _ (by simp)).trans h
  · exact (heap_alloc_old _ _ (by simp; omega)).trans ((heap_alloc_old _ _ (by simp)).trans (heap_alloc_new w _))
  · have h := heap_alloc_new ((w.alloc (.cells #[.string s] 9)).alloc (.cells #[.string ⟨#[32]⟩] 9)) (.cells #[.int .i64 0] 3)
    rw [e2] at h
    exact h
set_option maxRecDepth 100000 in
set_option maxHeartbeats 1000000 in
theorem seq_any (s : ByteArray) (w : World) : Calls Tryz.prog 66 #[.string s, .string ⟨#[32]⟩] w (SeqPost s w) := by
  have hk := Lib.hid (seq94_any s w)
  go_enter Tryz.func66, Tryz.ntmps66
  go_wp2_with fail
  refine hk.out.mono ?_
  rintro e w1 ⟨Bp, Bs, B0, rfl, h⟩
  have h' := Lib.hid h
  clear h
  go_wp2
  go_ret
  exact ⟨Bp, Bs, B0, rfl, h'.out⟩
end Go.Proofs.YtkbmckmlnphpmaaGreatDoor
