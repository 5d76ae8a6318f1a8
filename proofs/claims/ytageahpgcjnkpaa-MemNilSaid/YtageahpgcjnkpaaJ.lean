/- Regions cloned; a new memory; its layout. -/
import Derived.Test.YtageahpgcjnkpaaI
import Derived.Maps.AppendAt
import Derived.Lib.BufferMore
set_option linter.unusedSimpArgs false
set_option linter.unusedVariables false
namespace Go.Proofs.Ytageahpgcjnkpaa
open Go.RowKit

theorem info67 : (Try.prog.info? 67).map (fun i => (i.zero, i.size, i.bytes)) = some (some (.agg #[.string ⟨#[]⟩, .int .i64 0, .int .i64 0, .bool false]), 4, 40) := by kernel_rfl

def regCells (L : List Reg) : List Value := L.flatMap Reg.cells
theorem regCells_len (L : List Reg) : (regCells L).length = L.length * 4 := by
  induction L with
  | nil => rfl
  | cons r L ih =>
    have e : regCells (r :: L) = r.cells ++ regCells L := rfl
    rw [e, List.length_append, ih, List.length_cons]
    have : r.cells.length = 4 := rfl
    omega
theorem regCells_at : ∀ (L : List Reg) (i d : Nat), d < 4 → (regCells L)[i * 4 + d]? = (L[i]?).bind fun r => r.cells[d]?
  | [], i, d, _ => by simp [regCells]
  | r :: L, 0, d, h => by
    have e : regCells (r :: L) = r.cells ++ regCells L := rfl
    rw [e, Nat.zero_mul, Nat.zero_add, List.getElem?_append_left (by show d < 4; omega)]
    rfl
  | r :: L, i + 1, d, h => by
    have e : regCells (r :: L) = r.cells ++ regCells L := rfl
    have hl : r.cells.length = 4 := rfl
    rw [e, List.getElem?_append_right (by rw [hl]; omega), hl, show (i + 1) * 4 + d - 4 = i * 4 + d from by omega, regCells_at L i d h]
    rfl
theorem regCells_one {L : List Reg} : ∀ u ∈ regCells L, u.oneCell' = true := by
  intro u hu
  obtain ⟨r, _, hu⟩ := List.mem_flatMap.1 hu
  simp [Reg.cells] at hu
  rcases hu with rfl | rfl | rfl | rfl <;> rfl
theorem RegAt.cells {w : World} {b o : Nat} {r : Reg} (h : RegAt w b o r) : ∀ d u, r.cells[d]? = some u → w.cell? ⟨b, o + d, none⟩ = some u := by
  intro d u hu
  obtain ⟨a, b, c, e⟩ := h
  match d, hu with
  | 0, hu => simp [Reg.cells] at hu; subst hu; exact a
  | 1, hu => simp [Reg.cells] at hu; subst hu; exact b
  | 2, hu => simp [Reg.cells] at hu; subst hu; exact c
  | 3, hu => simp [Reg.cells] at hu; subst hu; exact e
  | n + 4, hu => simp [Reg.cells] at hu
theorem regs_news {w : World} {B n : Nat} {ad : Addr} {L : List Reg} (h : RegsAt w B (some ad) n L) : ∀ j u, (regCells L)[j]? = some u → w.cell? (ad.add j) = some u := by
  intro j u hu
  have hj : j < (regCells L).length := (List.getElem?_eq_some_iff.1 hu).1
  rw [regCells_len] at hj
  obtain ⟨hl, hw, hc⟩ := h
  obtain ⟨blk, off, e, hb, hi⟩ := hc (by omega)
  cases e
  have e1 : j = j / 4 * 4 + j % 4 := by omega
  rw [e1, regCells_at L (j / 4) (j % 4) (by omega)] at hu
  obtain ⟨r, hr, hu'⟩ := Option.bind_eq_some_iff.1 hu
  rw [Addr.add_lit]
  have := (hi _ r hr).cells _ _ hu'
  rw [show off + j / 4 * 4 + j % 4 = off + j from by omega] at this
  exact this
theorem regs_own {w : World} {base n : Nat} {v : Value} {L : List Reg} (h : w.ownsRow base 67 4 v n (regCells L)) (hL : ∀ r ∈ L, r.Wf) : ∃ A cap, v = .slice A n cap ∧ n ≤ cap ∧ cap ≤ 9223372036854775807 ∧ RegsAt w w.heap.size A n L := by
  obtain ⟨hl, h⟩ := h
  rw [regCells_len] at hl
  rcases h with ⟨rfl, rfl⟩ | ⟨g, cap, cur, rfl, hg, hh, hcap, hm, hs, ht⟩
  · exact ⟨none, 0, rfl, Nat.le_refl _, by omega, by omega, hL, fun h => absurd h (by omega)⟩
  · refine ⟨some ⟨g, 0, none⟩, cap, rfl, hcap, hm, by omega, hL, fun hn => ⟨g, 0, rfl, blk_lt hh, fun i r hr => ?_⟩⟩
    have hlt : i < L.length := (List.getElem?_eq_some_iff.1 hr).1
    have key : ∀ d u, d < 4 → r.cells[d]? = some u → w.cell? ⟨g, 0 + i * 4 + d, none⟩ = some u := by
      intro d u hd hu
      rw [blk_cell hh]
      have h1 : (cur.toList.take (n * 4))[i * 4 + d]? = some u := by rw [ht, regCells_at L i d hd, hr]; exact hu
      rw [List.getElem?_take, if_pos (by omega)] at h1
      rw [Nat.zero_add]
      simpa using h1
    exact ⟨key 0 _ (by omega) rfl, key 1 _ (by omega) rfl, key 2 _ (by omega) rfl, key 3 _ (by omega) rfl⟩

/-- regions cloned -/
def ClonePost (L : List Reg) (n : Nat) (w : World) (e : Ending) (w' : World) : Prop :=
  ∃ A cap, e = .returned (.slice A n cap) ∧ n ≤ cap ∧ cap ≤ 9223372036854775807 ∧ RegsAt w' w'.heap.size A n L ∧ Below w.heap.size w w'

set_option maxRecDepth 100000 in
set_option maxHeartbeats 1000000 in
theorem clone_nil (c : Nat) (w : World) : Calls Try.prog 43 #[.slice none 0 c] w (ClonePost [] 0 w) := by
  have he := fun w => Lib.run_eql_slice_nil_nil (P := Try.prog) w (t := 22) 0 c Try.underlying22
  go_enter Try.func43, Try.ntmps43
  go_wp2
  go_ret
  exact ⟨none, 0, rfl, Nat.le_refl _, by omega, ⟨rfl, by simp, fun h => absurd h (by omega)⟩, Below.refl _ _⟩

set_option maxRecDepth 100000 in
set_option maxHeartbeats 1000000 in
theorem clone_some (ad : Addr) (n c : Nat) (L : List Reg) (w : World) (h : RegsAt w w.heap.size (some ad) n L) (hn : n ≤ 16) (hc : n ≤ c) : Calls Try.prog 43 #[.slice (some ad) n c] w (ClonePost L n w) := by
  obtain ⟨i0, hi, hz0, hz1, hz2⟩ := info_parts info67
  have h' := Lib.hid h
  clear h
  have he := fun w => Lib.run_eql_slice_some_nil (P := Try.prog) w (t := 22) ad n c Try.underlying22
  have hown0 : (w.alloc (.cells #[] 67)).ownsRow w.heap.size 67 4 (.slice (some ⟨w.heap.size, 0, none⟩) 0 0) 0 [] := ⟨rfl, .inr ⟨w.heap.size, 0, #[], rfl, Nat.le_refl _, heap_alloc_new w _, Nat.le_refl _, by simp [maxLen], rfl, rfl⟩⟩
  have hlen : (regCells L).length = n * 4 := by rw [regCells_len, h'.out.1]
  have hnews := regs_news (regs_alloc h'.out (.cells #[] 67))
  have hown0' := Lib.hid hown0
  have hlen' := Lib.hid hlen
  have hnews' := Lib.hid hnews
  clear hown0 hlen hnews
  go_enter Try.func43, Try.ntmps43
  go_wp2_with ((at_builtin; refine wpList_append_own_at _ rfl _ _ 22 rfl w.heap.size 67 i0 _ 4 40 Try.underlying22 hi hz0 hz1 hz2 rfl (by decide) (.slice (some ⟨w.heap.size, 0, none⟩) 0 0) 0 [] rfl hown0'.out ad n c (regCells L) rfl hlen'.out hnews'.out regCells_one (by unfold maxLen; omega) (by omega) (by simp) ?_; intro v' w1 hown hg hnil hat))
  go_ret
  have hb : Below w.heap.size w w1 := ((Below.refl _ _).alloc (Nat.le_refl _) _).grown hg (by simp) (fun k hk => by simp [Value.ownBlock] at hk; omega)
  rw [Nat.zero_add, List.nil_append] at hown
  obtain ⟨A', cap', rfl, h1, h2, h3⟩ := regs_own hown h'.out.2.1
  exact ⟨A', cap', rfl, h1, h2, h3, hb⟩

theorem clone_any (A : Option Addr) (n c : Nat) (L : List Reg) (w : World) (h : RegsAt w w.heap.size A n L) (hn : n ≤ 16) (hc : n ≤ c) : Calls Try.prog 43 #[.slice A n c] w (ClonePost L n w) := by
  cases A with
  | some ad => exact clone_some ad n c L w h hn hc
  | none =>
    have h0 : n = 0 := by
      rcases Nat.eq_zero_or_pos n with h0 | h0
      · exact h0
      · obtain ⟨_, _, e, _⟩ := h.2.2 h0
        cases e
    subst h0
    obtain rfl : L = [] := List.eq_nil_of_length_eq_zero h.1
    exact clone_nil c w

theorem may_call (A : Option Addr) (n cap : Nat) (L : List Reg) (w : World) (hr : RegsAt w w.heap.size A n L) (hc : n ≤ cap) (hcm : cap ≤ 9223372036854775807) : Calls Try.prog 23 #[.slice A n cap] w (Flag (mayL L) w) := by
  by_cases hn : n ≤ 16
  · exact may_few A n cap L w hr hn hc hcm
  · exact may_many A n cap L w hr.1 (by omega) (by omega)
theorem mayL_len {L : List Reg} (h : mayL L = true) : L.length ≤ 16 := by
  unfold mayL at h
  rw [Bool.and_eq_true] at h
  simpa using h.1
theorem mayL_mem {L : List Reg} (h : mayL L = true) : ∀ r ∈ L, mayB r = true := by
  unfold mayL at h
  rw [Bool.and_eq_true, List.all_eq_true] at h
  intro r hr
  obtain ⟨i, hi⟩ := List.getElem?_of_mem hr
  exact mayAt_may hi (h.2 i (List.mem_range.2 (List.getElem?_eq_some_iff.1 hi).1))

set_option maxRecDepth 100000 in
set_option maxHeartbeats 1000000 in
theorem new_no (A : Option Addr) (n cap : Nat) (L : List Reg) (w : World) (hr : RegsAt w w.heap.size A n L) (hc : n ≤ cap) (hcm : cap ≤ 9223372036854775807) (hL : mayL L = false) :
    Calls Try.prog 14 #[.slice A n cap] w fun e w' => e = .returned (.tuple #[.pointer none, .int .i64 2]) ∧ Below w.heap.size w w' := by
  have hk := Lib.hid (may_call A n cap L w hr hc hcm)
  rw [hL] at hk
  clear hL hr
  go_enter Try.func14, Try.ntmps14
  go_wp2_with fail
  refine hk.out.mono ?_
  rintro e w1 ⟨rfl, hb⟩
  have hb' := Lib.hid hb
  clear hb
  go_wp2
  go_ret2
  exact ⟨rfl, hb'.out⟩

/-- a new memory -/
def NewPost (L : List Reg) (n : Nat) (w : World) (e : Ending) (w' : World) : Prop :=
  ∃ p q A cap, e = .returned (.tuple #[.pointer (some ⟨p, 0, none⟩), .int .i64 0]) ∧ Mem_ w' p q A n cap L (fun _ => 0) ∧ n ≤ cap ∧ cap ≤ 9223372036854775807 ∧ w.heap.size ≤ p ∧ w.heap.size ≤ q ∧ Below w.heap.size w w'

set_option maxRecDepth 100000 in
set_option maxHeartbeats 1000000 in
theorem new_yes (A : Option Addr) (n cap : Nat) (L : List Reg) (w : World) (hr : RegsAt w w.heap.size A n L) (hc : n ≤ cap) (hcm : cap ≤ 9223372036854775807) (hL : mayL L = true) :
    Calls Try.prog 14 #[.slice A n cap] w (NewPost L n w) := by
  have hk := Lib.hid (may_call A n cap L w hr hc hcm)
  have hn : n ≤ 16 := by rw [← hr.1]; exact mayL_len hL
  rw [hL] at hk
  have hr' := Lib.hid hr
  have hz := zero83
  clear hL hr
  go_enter Try.func14, Try.ntmps14
  go_wp2_with fail
  refine hk.out.mono ?_
  rintro e w1 ⟨rfl, hb⟩
  have hb' := Lib.hid hb
  clear hb
  go_wp2_with fail
  refine (clone_any A n cap L _ ((hr'.out.below hb'.out).more hb'.out.size) hn hc).mono ?_
  rintro e w2 ⟨A2, cap2, rfl, h1, h2, h3, hb2⟩
  have hb2' := Lib.hid (Below.next hb'.out hb2)
  have h3' := Lib.hid h3
  clear hb2 h3
  go_wp2
  go_ret2
  have hall : Below w2.heap.size w2 ((w2.alloc (.cells (bytes fun _ => 0) 83)).alloc (.cells #[.slice A2 n cap2, .pointer (some ⟨w2.heap.size, 0, none⟩)] 72)) := ((Below.refl _ _).alloc (Nat.le_refl _) _).alloc (by simp) _
  exact ⟨w2.heap.size + 1, w2.heap.size, A2, cap2, rfl, ⟨heap_alloc2_new w2 _ _, heap_alloc2_old w2 _ _, (h3'.out.below hall).more hall.size, hn, fun i => ⟨Int.le_refl 0, (by decide : (0 : Int) < 256)⟩⟩, h1, h2, by have := hb2'.out.size; omega, hb2'.out.size, Below.next hb2'.out hall⟩

set_option maxRecDepth 100000 in
set_option maxHeartbeats 1000000 in
theorem layout_any {p q : Nat} {A : Option Addr} {n cap : Nat} {L : List Reg} {f : Nat → Int} (w : World) (h : Mem_ w p q A n cap L f) (hc : n ≤ cap) :
    Calls Try.prog 25 #[.pointer (some ⟨p, 0, none⟩)] w (ClonePost L n w) := by
  have H := Lib.hid h
  have c0 := h.c0
  clear h
  go_enter Try.func25, Try.ntmps25
  go_wp2_with fail
  refine (there_any _ H.out).mono ?_
  rintro e w1 ⟨rfl, rfl⟩
  go_wp2_with fail
  refine (clone_any A n cap L _ H.out.hr H.out.hn hc).mono ?_
  rintro e w2 ⟨A2, cap2, rfl, h1, h2, h3, hb2⟩
  have hb2' := Lib.hid hb2
  have h3' := Lib.hid h3
  clear hb2 h3
  go_wp2
  go_ret
  exact ⟨A2, cap2, rfl, h1, h2, h3'.out, hb2'.out⟩
end Go.Proofs.Ytageahpgcjnkpaa
