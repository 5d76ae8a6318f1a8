/- Where an address lies: Place; what an address is asked for. -/
import Derived.Test.YtageahpgcjnkpaaF
set_option linter.unusedSimpArgs false
set_option linter.unusedVariables false
namespace Go.Proofs.Ytageahpgcjnkpaa
open Go.RowKit

/-- the region of an address, and the place within -/
def placeI (L : List Reg) (a : Int) : Int × Int :=
  if 65536 ≤ a then (-2, 0) else if 49152 ≤ a then (-1, a - 49152) else match findI L a with
    | some i => ((i : Int), a - (L.getD i default).addr)
    | none => (-2, 0)

def Two (x y : Int) (w : World) (e : Ending) (w' : World) : Prop := e = .returned (.tuple #[.int .i64 x, .int .i64 y]) ∧ Below w.heap.size w w'

set_option maxRecDepth 100000 in
set_option maxHeartbeats 1000000 in
theorem place_hi {p q : Nat} {A : Option Addr} {n cap : Nat} {L : List Reg} {f : Nat → Int} (a : Int) (w : World) (h : Mem_ w p q A n cap L f) (ha0 : 65536 ≤ a) (ha1 : a < 18446744073709551616) :
    Calls Try.prog 41 #[.pointer (some ⟨p, 0, none⟩), .int .u64 a] w (Two (-2) 0 w) := by
  have H := Lib.hid h
  clear h
  have hd : decide (65536 ≤ a) = true := by simpa using ha0
  go_enter Try.func41, Try.ntmps41
  go_wp2_with fail
  refine (there_any _ H.out).mono ?_
  rintro e w1 ⟨rfl, rfl⟩
  go_wp2
  go_ret2
  exact ⟨rfl, Below.refl _ _⟩

set_option maxRecDepth 100000 in
set_option maxHeartbeats 1000000 in
theorem place_stack {p q : Nat} {A : Option Addr} {n cap : Nat} {L : List Reg} {f : Nat → Int} (a : Int) (w : World) (h : Mem_ w p q A n cap L f) (ha0 : 49152 ≤ a) (ha1 : a < 65536) :
    Calls Try.prog 41 #[.pointer (some ⟨p, 0, none⟩), .int .u64 a] w (Two (-1) (a - 49152) w) := by
  have H := Lib.hid h
  clear h
  have hd : decide (65536 ≤ a) = false := by simp; omega
  have hd2 : decide (49152 ≤ a) = true := by simpa using ha0
  go_enter Try.func41, Try.ntmps41
  go_wp2_with fail
  refine (there_any _ H.out).mono ?_
  rintro e w1 ⟨rfl, rfl⟩
  go_wp2
  go_quiet (fail)
  go_wp2
  go_ret2
  exact ⟨rfl, below_drewN ((Below.refl _ _).alloc (Nat.le_refl _) _) _⟩

theorem find_at {L : List Reg} {a : Int} {i : Nat} (h : findI L a = some i) : ∃ r, L[i]? = some r ∧ hasB a r = true := by
  unfold findI at h
  rw [List.findIdx?_eq_some_iff_getElem] at h
  obtain ⟨hk, hh, _⟩ := h
  exact ⟨_, List.getElem?_eq_getElem hk, hh⟩
theorem regs_alloc {w : World} {A : Option Addr} {n : Nat} {L : List Reg} (h : RegsAt w w.heap.size A n L) (o : Obj) : RegsAt (w.alloc o) (w.alloc o).heap.size A n L :=
  (h.below ((Below.refl _ _).alloc (Nat.le_refl _) o)).more (by simp)
theorem new_cell (w : World) (v : Value) (t : TypeId) : (w.alloc (.cells #[v] t)).cell? ⟨w.heap.size, 0, none⟩ = some v := by
  rw [cell_of_row _ _ _ _ _ _ (heap_alloc_new w _)]; rfl

set_option maxRecDepth 100000 in
set_option maxHeartbeats 1000000 in
theorem place_none {p q : Nat} {A : Option Addr} {n cap : Nat} {L : List Reg} {f : Nat → Int} (a : Int) (w : World) (h : Mem_ w p q A n cap L f) (hm : ∀ r ∈ L, mayB r = true) (ha0 : 0 ≤ a) (ha1 : a < 49152) (hno : findI L a = none) :
    Calls Try.prog 41 #[.pointer (some ⟨p, 0, none⟩), .int .u64 a] w (Two (-2) 0 w) := by
  have H := Lib.hid h
  have hm' := Lib.hid hm
  have hv : findV L a = -1 := by unfold findV; rw [hno]
  have hv' := Lib.hid hv
  have c0 := h.c0
  have hlt := blk_lt h.hp
  clear h hm hno hv
  have hd : decide (65536 ≤ a) = false := by simp; omega
  have hd2 : decide (49152 ≤ a) = false := by simp; omega
  go_enter Try.func41, Try.ntmps41
  go_wp2_with fail
  refine (there_any _ H.out).mono ?_
  rintro e w1 ⟨rfl, rfl⟩
  go_wp2_with fail
  refine (index_any w.heap.size a A n cap L _ (new_cell _ _ _) (regs_alloc H.out.hr _) hm'.out H.out.hn).mono ?_
  rw [hv'.out]
  rintro e w1 ⟨rfl, hb⟩
  have hb' := Lib.hid hb
  clear hb
  go_wp2
  go_ret2
  exact ⟨rfl, Below.next ((Below.refl _ _).alloc (Nat.le_refl _) _) hb'.out⟩

set_option maxRecDepth 100000 in
set_option maxHeartbeats 1000000 in
theorem place_in {p q : Nat} {A : Option Addr} {n cap : Nat} {L : List Reg} {f : Nat → Int} (a : Int) (w : World) (h : Mem_ w p q A n cap L f) (hm : ∀ r ∈ L, mayB r = true) (ha0 : 0 ≤ a) (ha1 : a < 49152) (i : Nat) (r : Reg) (hno : findI L a = some i) (hr : L[i]? = some r) :
    Calls Try.prog 41 #[.pointer (some ⟨p, 0, none⟩), .int .u64 a] w (Two i (a - r.addr) w) := by
  have H := Lib.hid h
  have hm' := Lib.hid hm
  have hv : findV L a = (i : Int) := by unfold findV; rw [hno]
  have hv' := Lib.hid hv
  have hr' := Lib.hid hr
  have c0 := h.c0
  have hlt := blk_lt h.hp
  have hl := h.hr.1
  have hil : i < n := by rw [← hl]; exact (List.getElem?_eq_some_iff.1 hr).1
  have hn := h.hn
  obtain ⟨m1, m2, m3, m4, m5, m6, m7⟩ := (mayB_iff r).1 (hm r (List.mem_of_getElem? hr))
  clear h hm hno hv hr hl
  have hd : decide (65536 ≤ a) = false := by simp; omega
  have hd2 : decide (49152 ≤ a) = false := by simp; omega
  have i0 : (0 : Int) ≤ (i : Int) := by omega
  have i1 : (i : Int) < (n : Int) := by omega
  go_enter Try.func41, Try.ntmps41
  go_wp2_with fail
  refine (there_any _ H.out).mono ?_
  rintro e w1 ⟨rfl, rfl⟩
  go_wp2_with fail
  refine (index_any w.heap.size a A n cap L _ (new_cell _ _ _) (regs_alloc H.out.hr _) hm'.out H.out.hn).mono ?_
  rw [hv'.out]
  rintro e w1 ⟨rfl, hb⟩
  have hb2 := Lib.hid (Below.next ((Below.refl _ _).alloc (Nat.le_refl _) _) hb)
  have ca := (hb.cell (p := ⟨w.heap.size, 0, none⟩) (by simp)).trans (new_cell w (.int .i64 a) 3)
  have c0' := (hb2.out.cell (p := ⟨p, 0, none⟩) hlt).trans c0
  obtain ⟨blk, off, r2, rfl, hB, hL, hR, hW⟩ := (H.out.hr.below hb2.out).at_ hil
  obtain rfl : r = r2 := by have := hr'.out; rw [hL] at this; cases this; rfl
  obtain ⟨r0, r1, r2, r3⟩ := hR
  clear hb c0 hL hlt
  go_wp2
  go_quiet (fail)
  go_wp2
  go_ret2
  exact ⟨rfl, below_drewN hb2.out _⟩

theorem place_any {p q : Nat} {A : Option Addr} {n cap : Nat} {L : List Reg} {f : Nat → Int} (a : Int) (w : World) (h : Mem_ w p q A n cap L f) (hm : ∀ r ∈ L, mayB r = true) (ha0 : 0 ≤ a) (ha1 : a < 18446744073709551616) :
    Calls Try.prog 41 #[.pointer (some ⟨p, 0, none⟩), .int .u64 a] w (Two (placeI L a).1 (placeI L a).2 w) := by
  unfold placeI
  by_cases h1 : 65536 ≤ a
  · rw [if_pos h1]; exact place_hi a w h h1 ha1
  · rw [if_neg h1]
    by_cases h2 : 49152 ≤ a
    · rw [if_pos h2]; exact place_stack a w h h2 (by omega)
    · rw [if_neg h2]
      cases hf : findI L a with
      | none => exact place_none a w h hm ha0 (by omega) hf
      | some i =>
        obtain ⟨r, hr, _⟩ := find_at hf
        have e : L.getD i default = r := by rw [List.getD_eq_getElem?_getD, hr]; rfl
        dsimp only
        rw [e]
        exact place_in a w h hm ha0 (by omega) i r hf hr
end Go.Proofs.Ytageahpgcjnkpaa
