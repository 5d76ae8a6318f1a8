/- Shift and the reference's Shift, joined over all operations and counts. -/
import Derived.Test.YtkfenljldmbmcaaS
set_option linter.unusedSimpArgs false
set_option linter.unusedVariables false
namespace Go.Proofs.Ytkfenljldmbmcaa
open Go.RowKit Go.MapKept

def shN (wd cn : Int) : Nat := if wd = 64 then (cn % 64).toNat else (cn % 32).toNat
def shGC (op wd A : Int) (n : Nat) (c : Bool) : Bool := if n = 0 then c else shC op wd A n
def shGZ (op wd A : Int) (n : Nat) (z : Bool) : Bool := if n = 0 ∨ 3 < op then z else (shO op wd A n == 0)
def shGS (op wd A : Int) (n : Nat) (s : Bool) : Bool := if n = 0 ∨ 3 < op then s else topB wd (shO op wd A n)
def shGO (op wd A : Int) (n : Nat) (o : Bool) : Bool := if n = 0 then o else shV op wd A n
def shGP (op wd A : Int) (n : Nat) (p : Bool) : Bool := if n = 0 ∨ 3 < op then p else parB (shO op wd A n)
theorem shFl_eq (op wd A : Int) (n : Nat) (c z s o p : Bool) (hn : 1 ≤ n) : shFl op wd A n z s p = .agg #[.bool (shGC op wd A n c), .bool (shGZ op wd A n z), .bool (shGS op wd A n s), .bool (shGO op wd A n o), .bool (shGP op wd A n p)] := by
  have h0 : n ≠ 0 := by omega
  unfold shFl shGC shGZ shGS shGO shGP
  by_cases h : op ≤ 3
  · have h3 : ¬ 3 < op := by omega
    simp [h, h0, h3]
  · have h3 : 3 < op := by omega
    simp [h, h0, h3]
def RefShA (op wd A : Int) (n : Nat) (c z s o p : Bool) (w : World) (e : Ending) (w' : World) : Prop :=
  e = .returned (.tuple #[.int .u64 (shO op wd A n), .agg #[.bool (shGC op wd A n c), .bool (shGZ op wd A n z), .bool (shGS op wd A n s), .bool (shGO op wd A n o), .bool (shGP op wd A n p)]]) ∧ Below w.heap.size w w'
def ShA (op wd A : Int) (n : Nat) (c z s o p : Bool) (w : World) (e : Ending) (w' : World) : Prop :=
  e = .returned (.tuple #[.int .u64 (shO op wd A n), .agg #[.bool (shGC op wd A n c), .bool (shGZ op wd A n z), .bool (shGS op wd A n s), .bool (shGO op wd A n o), .bool (shGP op wd A n p)], .int .i64 0]) ∧ Below w.heap.size w w'
theorem RefShA_of {op wd A : Int} {n : Nat} {c z s o p : Bool} {w : World} (hn : 1 ≤ n) {e : Ending} {w' : World} (h : RefShPost op wd A n z s p w e w') : RefShA op wd A n c z s o p w e w' := by
  unfold RefShA; rw [← shFl_eq op wd A n c z s o p hn]; exact h
theorem ShA_of {op wd A : Int} {n : Nat} {c z s o p : Bool} {w : World} (hn : 1 ≤ n) {e : Ending} {w' : World} (h : ShPost op wd A n z s p w e w') : ShA op wd A n c z s o p w e w' := by
  unfold ShA; rw [← shFl_eq op wd A n c z s o p hn]; exact h
theorem RefShA_0 {op wd a : Int} {c z s o p : Bool} {w : World} (hw : MayW wd) {e : Ending} {w' : World} (h : RefSh0 (lowI wd a) (.agg #[.bool c, .bool z, .bool s, .bool o, .bool p]) w e w') : RefShA op wd (lowI wd a) 0 c z s o p w e w' := by
  unfold RefShA shGC shGZ shGS shGO shGP
  rw [shO_0 hw (low_bd wd a).1 (low_bd wd a).2]
  obtain ⟨h1, h2⟩ := h
  subst h1
  exact ⟨by simp, h2⟩
theorem ShA_0 {op wd a : Int} {c z s o p : Bool} {w : World} (hw : MayW wd) {e : Ending} {w' : World} (h : Sh0 (lowI wd a) (.agg #[.bool c, .bool z, .bool s, .bool o, .bool p]) w e w') : ShA op wd (lowI wd a) 0 c z s o p w e w' := by
  unfold ShA shGC shGZ shGS shGO shGP
  rw [shO_0 hw (low_bd wd a).1 (low_bd wd a).2]
  obtain ⟨h1, h2⟩ := h
  subst h1
  exact ⟨by simp, h2⟩

theorem refShift_any (op wd a cn : Int) (c z s o p : Bool) (w : World) (hw : MayW wd) (h : U64 a) (hc : U64 cn) (hop : 1 ≤ op ∧ op ≤ 5) :
    Calls Try.prog 22 #[.int .i64 op, .int .i64 wd, .int .u64 a, .int .u64 cn, .agg #[.bool c, .bool z, .bool s, .bool o, .bool p]] w (RefShA op wd (lowI wd a) (shN wd cn) c z s o p w) := by
  have hc0 := hc.1
  by_cases h64 : wd = 64
  · have hb : (wd == 64) = true := by simp [h64]
    obtain ⟨n, hn, hn2⟩ : ∃ n : Nat, cn % 64 = (n : Int) ∧ n < 64 := ⟨(cn % 64).toNat, by omega, by omega⟩
    have hN : shN wd cn = n := by unfold shN; rw [if_pos h64]; omega
    rw [hN]
    by_cases h0 : n = 0
    · subst h0
      exact (refShift_0q op wd a cn c z s o p w hw h hc hb hn).mono fun _ _ hh => RefShA_0 hw hh
    · have hn1 : 1 ≤ n := by omega
      have hS : decide (wd < (n : Int)) = false := by simp; omega
      obtain rfl | rfl | rfl | rfl | rfl : op = 1 ∨ op = 2 ∨ op = 3 ∨ op = 4 ∨ op = 5 := by omega
      · exact (refShift_1qS wd a cn n c z s o p w hw h hc hb hn hn1 hn2 hS).mono fun _ _ hh => RefShA_of hn1 hh
      · exact (refShift_2qS wd a cn n c z s o p w hw h hc hb hn hn1 hn2 hS).mono fun _ _ hh => RefShA_of hn1 hh
      · exact (refShift_3qS wd a cn n c z s o p w hw h hc hb hn hn1 hn2 hS).mono fun _ _ hh => RefShA_of hn1 hh
      · exact (refShift_4q wd a cn n c z s o p w hw h hc hb hn hn1 hn2).mono fun _ _ hh => RefShA_of hn1 hh
      · exact (refShift_5q wd a cn n c z s o p w hw h hc hb hn hn1 hn2).mono fun _ _ hh => RefShA_of hn1 hh
  · have hb : (wd == 64) = false := by simp [h64]
    obtain ⟨n, hn, hn3⟩ : ∃ n : Nat, cn % 32 = (n : Int) ∧ n < 32 := ⟨(cn % 32).toNat, by omega, by omega⟩
    have hn2 : n < 64 := by omega
    have hN : shN wd cn = n := by unfold shN; rw [if_neg h64]; omega
    rw [hN]
    by_cases h0 : n = 0
    · subst h0
      exact (refShift_0h op wd a cn c z s o p w hw h hc hb hn).mono fun _ _ hh => RefShA_0 hw hh
    · have hn1 : 1 ≤ n := by omega
      obtain rfl | rfl | rfl | rfl | rfl : op = 1 ∨ op = 2 ∨ op = 3 ∨ op = 4 ∨ op = 5 := by omega
      · by_cases hl : wd < (n : Int)
        · exact (refShift_1hB wd a cn n c z s o p w hw h hc hb hn hn1 hn2 (by simp [hl])).mono fun _ _ hh => RefShA_of hn1 hh
        · exact (refShift_1hS wd a cn n c z s o p w hw h hc hb hn hn1 hn2 (by simp; omega)).mono fun _ _ hh => RefShA_of hn1 hh
      · by_cases hl : wd < (n : Int)
        · exact (refShift_2hB wd a cn n c z s o p w hw h hc hb hn hn1 hn2 (by simp [hl])).mono fun _ _ hh => RefShA_of hn1 hh
        · exact (refShift_2hS wd a cn n c z s o p w hw h hc hb hn hn1 hn2 (by simp; omega)).mono fun _ _ hh => RefShA_of hn1 hh
      · by_cases hl : wd < (n : Int)
        · exact (refShift_3hB wd a cn n c z s o p w hw h hc hb hn hn1 hn2 (by simp [hl])).mono fun _ _ hh => RefShA_of hn1 hh
        · exact (refShift_3hS wd a cn n c z s o p w hw h hc hb hn hn1 hn2 (by simp; omega)).mono fun _ _ hh => RefShA_of hn1 hh
      · exact (refShift_4h wd a cn n c z s o p w hw h hc hb hn hn1 hn2).mono fun _ _ hh => RefShA_of hn1 hh
      · exact (refShift_5h wd a cn n c z s o p w hw h hc hb hn hn1 hn2).mono fun _ _ hh => RefShA_of hn1 hh

theorem Shift_any (op wd a cn : Int) (c z s o p : Bool) (w : World) (hw : MayW wd) (h : U64 a) (hc : U64 cn) (hop : 1 ≤ op ∧ op ≤ 5) :
    Calls Try.prog 21 #[.int .i64 op, .int .i64 wd, .int .u64 a, .int .u64 cn, .agg #[.bool c, .bool z, .bool s, .bool o, .bool p]] w (ShA op wd (lowI wd a) (shN wd cn) c z s o p w) := by
  have hc0 := hc.1
  have ha31 := and31_u64 cn hc
  have ha63 := and63_u64 cn hc
  by_cases h64 : wd = 64
  · have hb : (wd == 64) = true := by simp [h64]
    obtain ⟨n, hn, hn2⟩ : ∃ n : Nat, cn % 64 = (n : Int) ∧ n < 64 := ⟨(cn % 64).toNat, by omega, by omega⟩
    obtain ⟨m, hm, hm2⟩ : ∃ n : Nat, cn % 32 = (n : Int) ∧ n < 32 := ⟨(cn % 32).toNat, by omega, by omega⟩
    have hN : shN wd cn = n := by unfold shN; rw [if_pos h64]; omega
    rw [hN]
    rw [hn] at ha63
    rw [hm] at ha31
    by_cases h0 : n = 0
    · subst h0
      exact (Shift_0q op wd a cn m hm2 c z s o p w hw h hop hb ha31 ha63).mono fun _ _ hh => ShA_0 hw hh
    · have hn1 : 1 ≤ n := by omega
      have hS : decide ((n : Int) ≤ wd) = true := by simp; omega
      obtain rfl | rfl | rfl | rfl | rfl : op = 1 ∨ op = 2 ∨ op = 3 ∨ op = 4 ∨ op = 5 := by omega
      · exact (Shift_1qS wd a cn n c z s o p w hw h hb m hm2 ha31 ha63 hn1 hn2 hS).mono fun _ _ hh => ShA_of hn1 hh
      · exact (Shift_2q wd a cn n c z s o p w hw h hb m hm2 ha31 ha63 hn1 hn2).mono fun _ _ hh => ShA_of hn1 hh
      · exact (Shift_3q wd a cn n c z s o p w hw h hb m hm2 ha31 ha63 hn1 hn2).mono fun _ _ hh => ShA_of hn1 hh
      · exact (Shift_4q wd a cn n c z s o p w hw h hb m hm2 ha31 ha63 hn1 hn2).mono fun _ _ hh => ShA_of hn1 hh
      · exact (Shift_5q wd a cn n c z s o p w hw h hb m hm2 ha31 ha63 hn1 hn2).mono fun _ _ hh => ShA_of hn1 hh
  · have hb : (wd == 64) = false := by simp [h64]
    obtain ⟨n, hn, hn3⟩ : ∃ n : Nat, cn % 32 = (n : Int) ∧ n < 32 := ⟨(cn % 32).toNat, by omega, by omega⟩
    have hn2 : n < 64 := by omega
    have hN : shN wd cn = n := by unfold shN; rw [if_neg h64]; omega
    rw [hN]
    rw [hn] at ha31
    by_cases h0 : n = 0
    · subst h0
      exact (Shift_0h op wd a cn c z s o p w hw h hop hb ha31).mono fun _ _ hh => ShA_0 hw hh
    · have hn1 : 1 ≤ n := by omega
      obtain rfl | rfl | rfl | rfl | rfl : op = 1 ∨ op = 2 ∨ op = 3 ∨ op = 4 ∨ op = 5 := by omega
      · by_cases hl : (n : Int) ≤ wd
        · exact (Shift_1hS wd a cn n c z s o p w hw h hb ha31 hn1 hn2 (by simp [hl])).mono fun _ _ hh => ShA_of hn1 hh
        · exact (Shift_1hB wd a cn n c z s o p w hw h hb ha31 hn1 hn2 (by simp; omega)).mono fun _ _ hh => ShA_of hn1 hh
      · exact (Shift_2h wd a cn n c z s o p w hw h hb ha31 hn1 hn2).mono fun _ _ hh => ShA_of hn1 hh
      · exact (Shift_3h wd a cn n c z s o p w hw h hb ha31 hn1 hn2).mono fun _ _ hh => ShA_of hn1 hh
      · exact (Shift_4h wd a cn n c z s o p w hw h hb ha31 hn1 hn2).mono fun _ _ hh => ShA_of hn1 hh
      · exact (Shift_5h wd a cn n c z s o p w hw h hb ha31 hn1 hn2).mono fun _ _ hh => ShA_of hn1 hh

end Go.Proofs.Ytkfenljldmbmcaa
