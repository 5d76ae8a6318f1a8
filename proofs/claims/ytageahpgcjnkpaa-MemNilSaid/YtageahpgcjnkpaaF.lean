/- Where an address lies: Place, and what it calls. -/
import Derived.Test.YtageahpgcjnkpaaE
set_option linter.unusedSimpArgs false
set_option linter.unusedVariables false
namespace Go.Proofs.Ytageahpgcjnkpaa
open Go.RowKit

def hasB (a : Int) (r : Reg) : Bool := decide (r.addr ≤ a) && decide (a < r.end_)

set_option maxRecDepth 100000 in
set_option maxHeartbeats 1000000 in
theorem has_any (c : Nat) (a : Int) (r : Reg) (w : World) (hc : w.cell? ⟨c, 0, none⟩ = some (.int .i64 a)) (hm : mayB r = true) :
    Calls Try.prog 60 #[r.val, .pointer (some ⟨c, 0, none⟩)] w fun e w' => e = .returned (.bool (hasB a r)) ∧ Below w.heap.size w w' := by
  have hlt := World.block_lt_of_cell? w _ hc
  obtain ⟨m1, m2, m3, m4, m5, m6, m7⟩ := (mayB_iff r).1 hm
  have hend := fun w => end_any r w m5 (by omega) (by omega) (by omega)
  have hend' := Lib.hid hend
  clear hend
  obtain ⟨nm, ad, sz, sc⟩ := r
  dsimp only at m1 m2 m3 m4 m5 m6 m7
  have hh : hasB a ⟨nm, ad, sz, sc⟩ = (decide (ad ≤ a) && decide (a < ad + 8 * sz)) := rfl
  rw [hh]
  clear hh
  unfold Reg.val
  by_cases h1 : ad ≤ a
  · have hd : decide (ad ≤ a) = true := by simpa using h1
    go_enter Try.func60, Try.ntmps60
    go_wp2
    obtain ⟨W1, hW1⟩ : ∃ W1, W1 = w.alloc (.cells #[.string nm, .int .i64 ad, .int .i64 sz, .bool sc] 67) := ⟨_, rfl⟩
    have hbs : Below w.heap.size w W1 := by rw [hW1]; exact (Below.refl _ _).alloc (Nat.le_refl _) _
    have hcc : ∀ s : Sub W1, s.val.cell? ⟨c, 0, none⟩ = some (.int .i64 a) := Sub.cell ((hbs.cell (p := ⟨c, 0, none⟩) hlt).trans hc)
    have hy4 : Box4 W1 w.heap.size ⟨nm, ad, sz, sc⟩ := by rw [hW1]; exact box4_new w ⟨nm, ad, sz, sc⟩ 67
    rw [← hW1]
    obtain ⟨y0, y1, y2, y3⟩ := hy4.sub
    have hbs' := Lib.hid hbs
    clear hbs hy4 hW1
    refine wp_region_below (by kernel_rfl) (by kernel_rfl) ?_
    repeat (go_big_quiet_step (((go_at_call 49; exact Sub.call (hend'.out _)))))
    refine wpQuiet_nil ?_
    rintro _ ⟨⟨w3, hb3⟩, rfl⟩
    go_wp2
    go_ret
    exact ⟨ret_bool rfl, hbs'.out.trans (hb3.mono hbs'.out.size)⟩
  · have hd : decide (ad ≤ a) = false := by simpa using h1
    go_enter Try.func60, Try.ntmps60
    go_wp2
    go_quiet (fail)
    go_wp2
    go_ret
    exact ⟨ret_bool (by rw [hd]; rfl), below_drewN ((Below.refl _ _).alloc (Nat.le_refl _) _) _⟩

def findI (L : List Reg) (a : Int) : Option Nat := L.findIdx? (hasB a)
def findV (L : List Reg) (a : Int) : Int := match findI L a with | some i => (i : Int) | none => -1
theorem find_none {L : List Reg} {a : Int} (h : ∀ j r, j < L.length → L[j]? = some r → hasB a r = false) : findV L a = -1 := by
  have e : findI L a = none := by
    unfold findI
    rw [List.findIdx?_eq_none_iff]
    intro r hr
    obtain ⟨j, hj⟩ := List.getElem?_of_mem hr
    exact h j r (List.getElem?_eq_some_iff.1 hj).1 hj
  unfold findV
  rw [e]
theorem find_some {L : List Reg} {a : Int} {k : Nat} {r : Reg} (hr : L[k]? = some r) (hh : hasB a r = true) (h : ∀ j r, j < k → L[j]? = some r → hasB a r = false) : findI L a = some k := by
  unfold findI
  obtain ⟨hk, rfl⟩ := List.getElem?_eq_some_iff.1 hr
  rw [List.findIdx?_eq_some_iff_getElem]
  refine ⟨hk, hh, fun j hj => ?_⟩
  have := h j _ hj (List.getElem?_eq_getElem (by omega))
  simp [this]

set_option maxRecDepth 100000 in
set_option maxHeartbeats 1000000 in
theorem index_any (c : Nat) (a : Int) (A : Option Addr) (n cap : Nat) (L : List Reg) (w : World) (hc : w.cell? ⟨c, 0, none⟩ = some (.int .i64 a)) (hr : RegsAt w w.heap.size A n L) (hm : ∀ r ∈ L, mayB r = true) (hn : n ≤ 16) :
    Calls Try.prog 61 #[.slice A n cap, .func (.func 60) #[] #[.pointer (some ⟨c, 0, none⟩)]] w fun e w' => e = .returned (.int .i64 (findV L a)) ∧ Below w.heap.size w w' := by
  have hlt := World.block_lt_of_cell? w _ hc
  have hr' := Lib.hid hr
  have hm' := Lib.hid hm
  have hc' := Lib.hid hc
  clear hr hm hc
  go_enter Try.func61, Try.ntmps61
  go_wp2
  go_loopw [5, 8] (fun _ i wr => ∃ k : Nat, k ≤ n ∧ i = .int .i64 k ∧ (∀ j r, j < k → L[j]? = some r → hasB a r = false) ∧ Below w.heap.size w wr) (fun _ i _ => n - (intOf i).toNat)
  case atStart => exact ⟨0, by omega, rfl, fun j _ hj => absurd hj (by omega), Below.refl _ _⟩
  case round =>
    obtain ⟨k, hk, rfl, hno, hb⟩ := hrel
    have hno' := Lib.hid hno
    have hb' := Lib.hid hb
    clear hno hb
    by_cases hlt' : k < n
    · obtain ⟨blk, off, r, rfl, hB, hL, hR, hW⟩ := (hr'.out.below hb'.out).at_ hlt'
      obtain ⟨r0, r1, r2, r3⟩ := hR
      have hL' := Lib.hid hL
      have hc1 := Lib.hid (show wr.cell? ⟨c, 0, none⟩ = some (.int .i64 a) from (hb'.out.cell (p := ⟨c, 0, none⟩) hlt).trans hc'.out)
      have hmr := Lib.hid (hm'.out r (List.mem_of_getElem? hL))
      clear hL
      go_wp2_with fail
      refine (has_any c a r wr hc1.out hmr.out).mono ?_
      rintro e w1 ⟨rfl, hb1⟩
      have hb1' := Lib.hid (Below.next hb'.out hb1)
      clear hb1
      obtain ⟨t, ht⟩ : ∃ t, hasB a r = t := ⟨_, rfl⟩
      rw [ht]
      have ht' := Lib.hid ht
      clear ht
      cases t
      · go_wp2
        go_roundw
        case rel =>
          refine ⟨k + 1, by omega, by go_num, fun j r' hj hr' => ?_, hb1'.out⟩
          rcases Nat.lt_or_ge j k with h | h
          · exact hno'.out j r' h hr'
          · obtain rfl : j = k := by omega
            rw [hL'.out] at hr'
            cases hr'
            exact ht'.out
        case measure => simp [intOf]; omega
      · go_wp2
        go_ret
        exact ⟨ret_int (by unfold findV; rw [find_some hL'.out ht'.out hno'.out]), hb1'.out⟩
    · obtain rfl : k = n := by omega
      go_wp2
      go_ret
      exact ⟨ret_int (by rw [find_none]; intro j r hj hr; exact hno'.out j r (by rw [← hr'.out.1]; exact hj) hr), hb'.out⟩
end Go.Proofs.Ytageahpgcjnkpaa
