/- A number's text: strconv.FormatUint at base 10. Words of small letters: isWord; a line of words. A line of words: line, Words. Words; the reference's Word. A text's number. The reference's Word. Plain laws of lines: a text's parts between blanks. Plain laws of numbers: which texts are numbers. The reference's Number. -/
import Derived.Test.YtkbmckmlnphpmaaGreatDoorRows
import Derived.Test.YtkbmckmlnphpmaaGreatDoorShelf
import Derived.WalkKit
import Derived.WalkSpells
import Derived.WalkLawsBesides
import Derived.Laws.BitsAllLaws
import Derived.Lib.Hide
import Derived.Lib.ItoaWalk
import Derived.Lib.ItoaMem
import Derived.Lib.AppendIntMem
import Derived.Below
import Derived.Laws.RangeAny
import Derived.Maps.AppendAt
import Derived.Laws.OwnMore
import Derived.Lib.SplitLaws
set_option linter.unusedSimpArgs false
set_option linter.unusedVariables false
namespace Go.Proofs.YtkbmckmlnphpmaaGreatDoor
open Go.RowKit Go.Sort Go.Lib Go.Shelf

theorem u144 : Tryz.prog.underlying 144 = some (.array 24 5) := by kernel_rfl
theorem u73 : Tryz.prog.underlying 73 = some (.slice 5) := by kernel_rfl
theorem u5 : Tryz.prog.underlying 5 = some (.int .u8) := by kernel_rfl
theorem u9 : Tryz.prog.underlying 9 = some .string := by kernel_rfl
theorem z144 (w : World) : (zeroValue 144).run Tryz.prog w = .ok (.agg Lib.zeros24) w := by kernel_rfl

/-- the text of a number -/
def numT (u : Nat) : ByteArray := ⟨(Lib.decDigits u).toArray⟩
def StrPost (s : ByteArray) (w : World) (e : Ending) (w' : World) : Prop := e = .returned (.string s) ∧ Below w.heap.size w w'

set_option maxRecDepth 100000 in
set_option maxHeartbeats 2000000 in
theorem fmt82 (u : Nat) (hu64 : u < 18446744073709551616) (w : World) (htab : Lib.TabIs Tryz.prog w "internal/strconv.uint64pow10" .u64 Lib.pow10Tab) :
    Calls Tryz.prog 82 #[.int .u64 u, .int .i64 10] w (StrPost (numT u) w) := by
  by_cases hs : u < 100
  · have hd : decide ((u : Int) < 100) = true := by simp; omega
    have hlt : (u : Int) < 100 := by omega
    have hsm := Lib.hid (Tryz.internal_strconv_small u hs w)
    go_enter Tryz.func82, Tryz.ntmps82
    go_wp2_with fail
    refine hsm.out.mono ?_
    rintro e w1 ⟨rfl, rfl⟩
    go_wp2
    go_ret
    exact ⟨rfl, Below.refl _ _⟩
  · have hu1 : 1 ≤ u := by omega
    have hnd20 : Lib.nDigits u ≤ 20 := by have := Lib.numDigits_eq u hu1 hu64; split at this <;> omega
    have hd : decide ((u : Int) < 100) = false := by simp; omega
    have hge : ¬ ((u : Int) < 100) := by omega
    have hH0 := Lib.holds_zero0 w 144 (Lib.nDigits u) (by omega)
    have hfmt := Lib.hid (Tryz.internal_strconv_formatBase10 w.heap.size 0 24 u (Array.replicate (Lib.nDigits u) 0) (w.alloc (.cells Lib.zeros24 144)) hH0 (by rw [Array.size_replicate]; exact Lib.lt_pow_nDigits u) hu64 (by rw [Array.size_replicate]; omega))
    rw [Array.size_replicate] at hfmt
    have HH0 := Lib.hid hH0
    have hnum := Lib.hid (Tryz.internal_strconv_numDigits u hu1 hu64 (w.alloc (.cells Lib.zeros24 144)) (Lib.tabIs_alloc htab _))
    have hz := z144
    have hal : Tryz.prog.arrayLen 144 = 24 := by simp [Program.arrayLen, u144]
    have hsl : ∀ W, (Instr.sliceAt 144 (.pointer (some ⟨w.heap.size, 0, none⟩)) none (some (.int .i64 (Lib.nDigits u : Int))) none).run Tryz.prog W = .ok (.slice (some ⟨w.heap.size, 0, none⟩) (Lib.nDigits u) 24) W := fun W => by
      rw [run_sliceAt_array_h W 144 ⟨w.heap.size, 0, none⟩ (by simp [Program.arrayLen, Program.elem, u144]) .i64 (Lib.nDigits u : Int) (by omega) (by rw [hal]; omega)]
      go_simp
    clear hal hH0
    go_enter Tryz.func82, Tryz.ntmps82
    go_wp2_with fail
    refine hnum.out.mono ?_
    rintro e w1 ⟨rfl, rfl⟩
    go_wp2_with fail
    refine hfmt.out.mono ?_
    rintro e w1 ⟨rfl, k, v', dk, rfl, hF⟩
    have hcv : (convert 73 9 (.slice (some ⟨w.heap.size, 0, none⟩) (Lib.nDigits u) 24)).run Tryz.prog ((putRow (fun (b : UInt8) => Value.int .u8 (b.toNat : Int)) (w.alloc (.cells Lib.zeros24 144)) w.heap.size 0 dk).drewN k) = .ok (.string ⟨(Lib.decDigits u).toArray⟩) ((putRow (fun (b : UInt8) => Value.int .u8 (b.toNat : Int)) (w.alloc (.cells Lib.zeros24 144)) w.heap.size 0 dk).drewN k) := by
      have h := run_convert_bytes_back (P := Tryz.prog) ((putRow (fun (b : UInt8) => Value.int .u8 (b.toNat : Int)) (w.alloc (.cells Lib.zeros24 144)) w.heap.size 0 dk).drewN k) 73 9 5 ⟨w.heap.size, 0, none⟩ 24 (Lib.decDigits u) u73 u5 u9 (fun j hj => by
        rw [Lib.row_is_numeral hF j hj, Lib.add_plain, World.cell?_drewN]
        exact cell?_putRow (fun (b : UInt8) => Value.int .u8 (b.toNat : Int)) _ w.heap.size 0 _ dk HH0.out (by rw [hF.size, Array.size_replicate]) j (by rw [hF.size]; rw [Lib.decDigits_length] at hj; exact hj))
      rw [Lib.decDigits_length] at h
      exact h
    obtain ⟨os, eo⟩ := Lib.fin_at w (.cells Lib.zeros24 144) dk k 0
    have eo' := Lib.hid eo
    clear eo
    go_wp2
    go_ret
    refine ⟨rfl, ?_⟩
    rw [eo'.out]
    exact Lib.below_grow _ w (Nat.le_refl _) k os
theorem fmtU (u : Nat) (hu64 : u < 18446744073709551616) (w : World) (htab : Lib.TabIs Tryz.prog w "internal/strconv.uint64pow10" .u64 Lib.pow10Tab) :
    Calls Tryz.prog 51 #[.int .u64 u, .int .i64 10] w (StrPost (numT u) w) := by
  have hk := Lib.hid (fmt82 u hu64 w htab)
  go_enter Tryz.func51, Tryz.ntmps51
  go_wp2_with fail
  refine hk.out.mono ?_
  rintro e w1 ⟨rfl, hb⟩
  have hb' := Lib.hid hb
  clear hb
  go_wp2
  go_ret
  exact ⟨rfl, hb'.out⟩
end Go.Proofs.YtkbmckmlnphpmaaGreatDoor
namespace Go.Proofs.YtkbmckmlnphpmaaGreatDoor
open Go.RowKit Go.Lib Go.Shelf

def lowB (b : UInt8) : Bool := decide (97 ≤ b.toNat) && decide (b.toNat ≤ 122)
/-- a word -/
def wordB (s : ByteArray) : Bool := decide (0 < s.size) && s.data.toList.all lowB
def badR (r : Nat) : Bool := decide (r < 97) || decide (122 < r)

theorem idx_good {s : ByteArray} : ∀ (f pos : Nat), (∀ (j : Nat) (hj : j < s.size), pos ≤ j → lowB (s[j]'hj) = true) → Lib.idxFuncFrom badR true s f pos = -1
  | 0, _, _ => rfl
  | f + 1, pos, h => by
    unfold Lib.idxFuncFrom
    by_cases hp : pos < s.size
    · rw [if_pos hp]
      have hg := h pos hp (Nat.le_refl _)
      unfold lowB at hg
      rw [Bool.and_eq_true] at hg
      obtain ⟨g1, g2⟩ := hg
      have g1' := of_decide_eq_true g1
      have g2' := of_decide_eq_true g2
      rw [decode_ascii s pos hp (by omega)]
      have hb : badR (s[pos]'hp).toNat = false := by unfold badR; simp; omega
      rw [if_neg (by simp [hb])]
      exact idx_good f _ fun j hj hle => h j hj (by dsimp only at hle; omega)
    · rw [if_neg hp]
theorem idx_bad {s : ByteArray} {j : Nat} (hj : j < s.size) (hb : lowB (s[j]'hj) = false) : ∀ (f pos : Nat), pos ≤ j → j < pos + f → (∀ (i : Nat) (hi : i < s.size), pos ≤ i → i < j → lowB (s[i]'hi) = true) → 0 ≤ Lib.idxFuncFrom badR true s f pos
  | 0, _, h1, h2, _ => by omega
  | f + 1, pos, h1, h2, h => by
    unfold Lib.idxFuncFrom
    have hp : pos < s.size := by omega
    rw [if_pos hp]
    by_cases he : pos = j
    · subst he
      have hbad : badR (Utf8.decode s pos).1 = true := by
        by_cases ha : (s[pos]'hp).toNat < 128
        · rw [decode_ascii s pos hp ha]
          unfold lowB at hb
          unfold badR
          simp at hb ⊢
          omega
        · have := (decode_high s pos hp (by omega)).1
          unfold badR
          simp
          omega
      rw [if_pos hbad]
      omega
    · have hg := h pos hp (Nat.le_refl _) (by omega)
      unfold lowB at hg
      rw [Bool.and_eq_true] at hg
      obtain ⟨g1, g2⟩ := hg
      have g1' := of_decide_eq_true g1
      have g2' := of_decide_eq_true g2
      rw [decode_ascii s pos hp (by omega)]
      have hb2 : badR (s[pos]'hp).toNat = false := by unfold badR; simp; omega
      rw [if_neg (by simp [hb2])]
      exact idx_bad hj hb f _ (by dsimp only; omega) (by dsimp only; omega) fun i hi h3 h4 => h i hi (by dsimp only at h3; omega) h4
/-- the least place that is not so -/
theorem least_bad (p : Nat → Prop) [DecidablePred p] : ∀ n, p n → ∃ j, j ≤ n ∧ p j ∧ ∀ i, i < j → ¬ p i
  | 0, h => ⟨0, Nat.le_refl _, h, fun i hi => by omega⟩
  | n + 1, h => by
    by_cases he : ∃ i, i ≤ n ∧ p i
    · obtain ⟨i, hi, hp⟩ := he
      obtain ⟨j, h1, h2, h3⟩ := least_bad_le p n i hi hp
      exact ⟨j, by omega, h2, h3⟩
    · exact ⟨n + 1, Nat.le_refl _, h, fun i hi hp => he ⟨i, by omega, hp⟩⟩
where least_bad_le (p : Nat → Prop) [DecidablePred p] : ∀ n i, i ≤ n → p i → ∃ j, j ≤ i ∧ p j ∧ ∀ k, k < j → ¬ p k
  | 0, i, hi, hp => ⟨i, Nat.le_refl _, hp, fun k hk => by omega⟩
  | n + 1, i, hi, hp => by
    by_cases he : ∃ k, k < i ∧ p k
    · obtain ⟨k, hk, hpk⟩ := he
      obtain ⟨j, h1, h2, h3⟩ := least_bad_le p n k (by omega) hpk
      exact ⟨j, by omega, h2, h3⟩
    · exact ⟨i, Nat.le_refl _, hp, fun k hk hpk => he ⟨k, hk, hpk⟩⟩
theorem idx_word (s : ByteArray) : decide (0 ≤ Lib.idxFunc badR true s) = !s.data.toList.all lowB := by
  have hlen : s.data.toList.length = s.size := Array.length_toList
  have hget : ∀ (j : Nat) (hj : j < s.size), s[j]'hj = s.data.toList[j]'(by rw [hlen]; exact hj) := fun j hj => (Array.getElem_toList (xs := s.data) (by exact hj)).symm
  cases h : s.data.toList.all lowB
  · rw [List.all_eq_false] at h
    obtain ⟨b, hb, hn⟩ := h
    obtain ⟨n, hn2, rfl⟩ := List.getElem_of_mem hb
    have hns : n < s.size := by rw [← hlen]; exact hn2
    obtain ⟨j, h1, ⟨hj, h2⟩, h3⟩ := least_bad (fun j => ∃ hj : j < s.size, lowB (s[j]'hj) = false) n ⟨hns, by rw [hget n hns]; simpa using hn⟩
    have := idx_bad hj h2 s.size 0 (Nat.zero_le _) (by omega) fun i hi _ hlt => by
      have := h3 i hlt
      cases hc : lowB (s[i]'hi)
      · exact absurd ⟨hi, hc⟩ this
      · rfl
    exact decide_eq_true this
  · rw [List.all_eq_true] at h
    have := idx_good (s := s) s.size 0 fun j hj _ => by rw [hget j hj]; exact h _ (List.getElem_mem _)
    unfold Lib.idxFunc
    rw [this]
    rfl

set_option maxRecDepth 100000 in
set_option maxHeartbeats 1000000 in
theorem bad_fn (r : Nat) (w : World) : Calls Tryz.prog 81 #[.int .i32 (r : Int)] w fun e w' => e = .returned (.bool (badR r)) ∧ w = w' := by
  unfold badR
  by_cases h1 : r < 97
  · have d1 : decide (r < 97) = true := by simpa using h1
    have e1 : (r : Int) < 97 := by omega
    go_enter Tryz.func81, Tryz.ntmps81
    go_wp2
    go_ret
    exact ⟨by rw [d1]; rfl, rfl⟩
  · have d1 : decide (r < 97) = false := by simpa using h1
    have e1 : ¬ ((r : Int) < 97) := by omega
    by_cases h2 : 122 < r
    · have d2 : decide (122 < r) = true := by simpa using h2
      have e2 : (122 : Int) < (r : Int) := by omega
      go_enter Tryz.func81, Tryz.ntmps81
      go_wp2
      go_ret
      exact ⟨rfl, rfl⟩
    · have d2 : decide (122 < r) = false := by simpa using h2
      have e2 : ¬ ((122 : Int) < (r : Int)) := by omega
      go_enter Tryz.func81, Tryz.ntmps81
      go_wp2
      go_ret
      exact ⟨rfl, rfl⟩
theorem bad_pred (w : World) : PredAt Tryz.prog 81 #[] encR badR w := fun W x _ =>
  (bad_fn x W).mono fun e w' ⟨h1, h2⟩ => ⟨h1, 0, by rw [← h2]; rfl⟩
def BoolPost (b : Bool) (w : World) (e : Ending) (w' : World) : Prop := e = .returned (.bool b) ∧ Below w.heap.size w w'

set_option maxRecDepth 100000 in
set_option maxHeartbeats 1000000 in
theorem isWord_any (s : ByteArray) (w : World) : Calls Tryz.prog 49 #[.string s] w (BoolPost (wordB s) w) := by
  have hc := Lib.hid (Tryz.strings_ContainsFunc 81 #[] (enters_of Tryz.func81 (by kernel_rfl) rfl) badR s w (bad_pred w))
  rw [idx_word s] at hc
  by_cases h0 : s.toList = []
  · have hd : s.toList.isEmpty = true := by simp [h0]
    have hw : wordB s = false := by
      unfold wordB
      rw [ByteArray.toList_eq] at h0
      have : s.size = 0 := by show s.data.size = 0; rw [← Array.length_toList, h0]; rfl
      rw [this]; rfl
    rw [hw]
    go_enter Tryz.func49, Tryz.ntmps49
    go_wp2
    go_ret
    exact ⟨rfl, Below.refl _ _⟩
  · have hd : s.toList.isEmpty = false := by simp [h0]
    have hw : wordB s = s.data.toList.all lowB := by
      unfold wordB
      have : 0 < s.size := by
        rw [ByteArray.toList_eq] at h0
        show 0 < s.data.size
        rw [← Array.length_toList]
        exact List.length_pos_iff.2 h0
      rw [decide_eq_true this, Bool.true_and]
    rw [hw]
    generalize s.data.toList.all lowB = t at hc
    clear hw
    go_enter Tryz.func49, Tryz.ntmps49
    go_wp2_with fail
    refine hc.out.mono ?_
    rintro e w1 ⟨rfl, hb⟩
    have hb' := Lib.hid hb
    clear hb
    cases t
    all_goals
      go_wp2
      go_ret
      exact ⟨rfl, hb'.out⟩
end Go.Proofs.YtkbmckmlnphpmaaGreatDoor
namespace Go.Proofs.YtkbmckmlnphpmaaGreatDoor
open Go.RowKit Go.Lib Go.Shelf

theorem cell_some_lt {w : World} {b o : Nat} {v : Value} (h : w.cell? ⟨b, o, none⟩ = some v) : b < w.heap.size := by
  rcases Nat.lt_or_ge b w.heap.size with hlt | hge
  · exact hlt
  · simp [World.cell?, Array.getElem?_eq_none hge] at h
theorem blk_cell {w : World} {g : Nat} {t : TypeId} {cs : Array Value} (h : w.heap[g]? = some (.cells cs t (0, 0))) (i : Nat) : w.cell? ⟨g, i, none⟩ = cs[i]? := cell_of_row w g i cs t (0, 0) h
theorem blk_lt {w : World} {g : Nat} {o : Obj} (h : w.heap[g]? = some o) : g < w.heap.size := by
  rcases Nat.lt_or_ge g w.heap.size with hlt | hge
  · exact hlt
  · rw [Array.getElem?_eq_none hge] at h; cases h
theorem Below.next {w w1 w2 : World} (h : Below w.heap.size w w1) (h2 : Below w1.heap.size w1 w2) : Below w.heap.size w w2 := h.trans (h2.mono h.size)

/-- a slice that reads as words -/
def WAt (w : World) (A : Option Addr) (ws : List Int) : Prop :=
  (∀ x ∈ ws, 0 ≤ x ∧ x ≤ 18446744073709551615) ∧ (0 < ws.length → ∃ blk off, A = some ⟨blk, off, none⟩ ∧ ∀ i x, ws[i]? = some x → w.cell? ⟨blk, off + i, none⟩ = some (.int .u64 x))
theorem WAt.below {w w' : World} {A : Option Addr} {ws : List Int} (h : WAt w A ws) (hb : Below w.heap.size w w') : WAt w' A ws := by
  refine ⟨h.1, fun hn => ?_⟩
  obtain ⟨blk, off, e, hc⟩ := h.2 hn
  exact ⟨blk, off, e, fun i x hx => (hb.cell (p := ⟨blk, off + i, none⟩) (cell_some_lt (hc i x hx))).trans (hc i x hx)⟩
theorem WAt.at_ {w : World} {A : Option Addr} {ws : List Int} (h : WAt w A ws) {k : Nat} (hk : k < ws.length) :
    ∃ blk off x, A = some ⟨blk, off, none⟩ ∧ ws[k]? = some x ∧ w.cell? ⟨blk, off + k, none⟩ = some (.int .u64 x) ∧ 0 ≤ x ∧ x ≤ 18446744073709551615 := by
  obtain ⟨blk, off, e, hc⟩ := h.2 (by omega)
  have e1 : ws[k]? = some ws[k] := List.getElem?_eq_getElem hk
  obtain ⟨h1, h2⟩ := h.1 _ (List.getElem_mem hk)
  exact ⟨blk, off, _, e, e1, hc k _ e1, h1, h2⟩

/-- texts of a line: a word, and numbers -/
def lineL (word : ByteArray) (l : List Int) : List ByteArray := word :: l.map fun x => numT x.toNat
def joinT (xs : List ByteArray) (sep : ByteArray) : ByteArray := ⟨(Lib.join (xs.map (·.data.toList)) sep.data.toList).toArray⟩
def lineT (word : ByteArray) (l : List Int) : ByteArray := joinT (lineL word l) ⟨#[32]⟩

theorem numT_len (u : Nat) (hu : u < 18446744073709551616) : (numT u).data.toList.length ≤ 20 := by
  show (Lib.decDigits u).toArray.toList.length ≤ 20
  rw [List.toList_toArray, Lib.decDigits_length]
  by_cases h1 : 1 ≤ u
  · have := Lib.numDigits_eq u h1 hu
    split at this <;> omega
  · obtain rfl : u = 0 := by omega
    rw [Lib.nDigits_small (by omega)]; omega

theorem info9 : (Tryz.prog.info? 9).map (fun i => (i.zero, i.size, i.bytes)) = some (some (.string ⟨#[]⟩), 1, 16) := by kernel_rfl
theorem und67 : Tryz.prog.underlying 67 = some (.slice 9) := by kernel_rfl
def sCells (xs : List ByteArray) : List Value := xs.map .string

/-- strconv's table lies -/
def Tab (w : World) : Prop := Lib.TabIs Tryz.prog w "internal/strconv.uint64pow10" .u64 Lib.pow10Tab
theorem Tab.below {w w' : World} (h : Tab w) (hb : Below w.heap.size w w') : Tab w' := Lib.tabBelow_of_tabIs h w' hb

theorem lens_le (xs : List (List UInt8)) (M : Nat) (h : ∀ x ∈ xs, x.length ≤ M) : Lib.lens xs ≤ xs.length * M := by
  induction xs with
  | nil => simp [Lib.lens]
  | cons x xs ih =>
    have h1 := h x (by simp)
    have h2 := ih fun y hy => h y (by simp [hy])
    have e : Lib.lens (x :: xs) = x.length + Lib.lens xs := by simp [Lib.lens]
    rw [e, List.length_cons, Nat.add_mul, Nat.one_mul]
    omega
theorem line_len (word : ByteArray) (l : List Int) (hl : ∀ x ∈ l, 0 ≤ x ∧ x ≤ 18446744073709551615) (h1 : word.size ≤ 2000000) (h2 : l.length ≤ 2000000) :
    (Lib.join ((lineL word l).map (·.data.toList)) [32]).length ≤ 140737488355328 := by
  unfold lineL
  rw [List.map_cons, Lib.join_length]
  have hs : word.data.toList.length = word.size := Array.length_toList
  have h3 := lens_le (word.data.toList :: (l.map fun x => numT x.toNat).map (·.data.toList)) 2000000 (by
    intro x hx
    rcases List.mem_cons.1 hx with rfl | hx
    · omega
    · rw [List.map_map] at hx
      obtain ⟨y, hy, rfl⟩ := List.mem_map.1 hx
      have := numT_len y.toNat (by have := hl y hy; omega)
      show (numT y.toNat).data.toList.length ≤ 2000000
      omega)
  simp only [List.length_cons, List.length_map, List.length_nil] at h3 ⊢
  have h4 : (l.length + 1) * 2000000 ≤ 2000001 * 2000000 := Nat.mul_le_mul_right _ (by omega)
  omega

set_option maxRecDepth 100000 in
set_option maxHeartbeats 2000000 in
theorem line_any (word : ByteArray) (A : Option Addr) (n c : Nat) (l : List Int) (w : World) (hl : l.length = n) (hw : WAt w A l) (hT : Tab w) (h1 : word.size ≤ 2000000) (h2 : n ≤ 2000000) :
    Calls Tryz.prog 50 #[.string word, .slice A n c] w (StrPost (lineT word l) w) := by
  obtain ⟨i0, hi, hz0, hz1, hz2⟩ := info_parts info9
  have hi' := Lib.hid (And.intro hi (And.intro hz0 (And.intro hz1 hz2)))
  have hl' := Lib.hid hl
  have hw' := Lib.hid hw
  have hT' := Lib.hid hT
  have hlen := Lib.hid (line_len word l hw.1 h1 (by omega))
  clear hl hw hT hi hz0 hz1 hz2
  have hb0 := Lib.hid ((Below.refl w.heap.size w).alloc (Nat.le_refl _) (.cells #[.string word] 9))
  have hown0 := Lib.hid (show (w.alloc (.cells #[.string word] 9)).ownsRow w.heap.size 9 1 (.slice (some ⟨w.heap.size, 0, none⟩) 1 1) 1 (sCells [word]) from ⟨rfl, .inr ⟨w.heap.size, 1, #[.string word], rfl, Nat.le_refl _, heap_alloc_new w _, Nat.le_refl _, by simp [maxLen], rfl, rfl⟩⟩)
  go_enter Tryz.func50, Tryz.ntmps50
  go_wp2_with fail
  go_loopg [5, 12] n (fun g s5 s12 wr => ∃ k : Nat, k + g = n ∧ s12 = .int .i64 k ∧ wr.ownsRow w.heap.size 9 1 s5 (k + 1) (sCells (lineL word (l.take k))) ∧ Below w.heap.size w wr)
  case atStart => exact ⟨0, by omega, rfl, hown0.out, hb0.out⟩
  case round =>
    obtain ⟨k, hkg, rfl, ho, hbr⟩ := hrel
    have ho' := Lib.hid ho
    have hbr' := Lib.hid hbr
    clear ho hbr
    cases gk with
    | zero =>
      have e0 : ¬ ((k : Int) < (n : Int)) := by omega
      have htk : l.take k = l := List.take_of_length_le (by rw [hl'.out]; omega)
      have ho2 := ho'.out
      rw [htk] at ho2
      obtain ⟨hcl, hcase⟩ := ho2
      rcases hcase with ⟨_, h0⟩ | ⟨g, cap, cur, hv, hg, hh, hcap, hm, hs, ht⟩
      · omega
      · have hLl : (lineL word l).length = k + 1 := by simp [lineL, hl'.out]; omega
        have hj := Lib.hid (Tryz.strings_Join g 0 cap (lineL word l) ⟨#[32]⟩ wr (fun j x hx => by
          rw [Nat.zero_add, blk_cell hh]
          have h3 : (cur.toList.take ((k + 1) * 1))[j]? = (sCells (lineL word l))[j]? := by rw [ht]
          have hjl : j < k + 1 := by have := (List.getElem?_eq_some_iff.1 hx).1; omega
          rw [List.getElem?_take, if_pos (by omega), sCells, List.getElem?_map, hx] at h3
          simpa using h3) (blk_lt hh) (by omega) (by omega) hlen.out)
        rw [hLl] at hj
        subst hv
        clear hh ht hs hcl htk hg
        go_wp2_with fail
        refine hj.out.mono ?_
        rintro e w4 ⟨rfl, hb4⟩
        have hb4' := Lib.hid (Below.next hbr'.out hb4)
        clear hb4
        go_wp2
        go_ret
        exact ⟨rfl, hb4'.out⟩
    | succ g =>
      have e0 : (k : Int) < (n : Int) := by omega
      obtain ⟨blk, off, x, rfl, hx, cx, x0, x1⟩ := (hw'.out.below hbr'.out).at_ (k := k) (by rw [hl'.out]; omega)
      obtain ⟨u, rfl⟩ := Int.eq_ofNat_of_zero_le x0
      have hx' := Lib.hid hx
      have hf := Lib.hid (fmtU u (by omega) wr (hT'.out.below hbr'.out))
      have hsz := hbr'.out.size
      clear hx
      go_wp2_with fail
      refine hf.out.mono ?_
      rintro e w3 ⟨rfl, hb3⟩
      have hb3' := Lib.hid hb3
      have hsz3 := hb3.size
      have hown := Lib.hid ((show w3.ownsRow w.heap.size 9 1 u5 (k + 1) (sCells (lineL word (l.take k))) from ho'.out.kept (row := none) ⟨hb3.os, hb3.tape, hb3.output, hb3.size, fun i hi _ => hb3.block i hi⟩ (Classical.em _)).alloc (.cells #[.string (numT u)] 9))
      have hnew := Lib.hid (cell_one_new w3 (.string (numT u)) 9)
      have hbA := Lib.hid ((Below.refl w3.heap.size w3).alloc (Nat.le_refl _) (.cells #[.string (numT u)] 9))
      have hone := Lib.hid (show ∀ v ∈ [Value.string (numT u)], v.oneCell' = true by simp [Value.oneCell'])
      have hbs := Lib.hid (show w.heap.size ≤ (w3.alloc (.cells #[.string (numT u)] 9)).heap.size by simp; omega)
      have hk1 := Lib.hid (show k + 1 + 1 ≤ maxLen by unfold maxLen; omega)
      have hk2 := Lib.hid (show (k + 1 + 1) * 16 ≤ 140737488355328 by omega)
      obtain ⟨hj1, hj2, hj3, hj4⟩ := hi'.out
      clear hb3 cx
      go_wp2_with ((at_builtin; refine wpList_append_own_at _ rfl _ _ 67 rfl w.heap.size 9 i0 _ 1 16 und67 hj1 hj2 hj3 hj4 rfl (by decide) u5 (k + 1) (sCells (lineL word (l.take k))) rfl hown.out ⟨w3.heap.size, 0, none⟩ 1 1 [.string (numT u)] rfl rfl hnew.out hone.out hk1.out hk2.out hbs.out ?_; intro v' w4 hown4 hg4 hnil4 hat4))
      have hB4 : Below w.heap.size w w4 := (Below.next (Below.next hbr'.out hb3'.out) hbA.out).grown hg4 (by simp; omega) (fun g' e => (hown.out.lt g' e).1)
      have hB4' := Lib.hid hB4
      have hown4' := Lib.hid hown4
      clear hB4 hown4 hg4 hnil4 hat4
      go_wp2
      go_roundg g
      case measure => omega
      case rel =>
        refine ⟨k + 1, by omega, by go_num, ?_, hB4'.out⟩
        have e5 : lineL word (l.take (k + 1)) = lineL word (l.take k) ++ [numT u] := by
          unfold lineL
          rw [List.take_add_one, hx'.out, List.map_append]
          rfl
        rw [e5]
        simpa [sCells] using hown4'.out
end Go.Proofs.YtkbmckmlnphpmaaGreatDoor
namespace Go.Proofs.YtkbmckmlnphpmaaGreatDoor
open Go.RowKit Go.Lib Go.Shelf

/-- a text and an error -/
def StrErr (s : ByteArray) (er : Int) (w : World) (e : Ending) (w' : World) : Prop := e = .returned (.tuple #[.string s, .int .i64 er]) ∧ Below w.heap.size w w'

set_option maxRecDepth 100000 in
set_option maxHeartbeats 1000000 in
theorem words_any (word : ByteArray) (A : Option Addr) (n c : Nat) (l : List Int) (w : World) (hl : l.length = n) (hw : WAt w A l) (hT : Tab w) (h1 : word.size ≤ 2000000) (h2 : n ≤ 2000000) :
    Calls Tryz.prog 14 #[.string word, .slice A n c] w (StrErr (if wordB word then lineT word l else ⟨#[]⟩) (if wordB word then 0 else 2) w) := by
  have hk := Lib.hid (isWord_any word w)
  have hL := Lib.hid fun w1 (hb : Below w.heap.size w w1) => line_any word A n c l w1 hl (hw.below hb) (hT.below hb) h1 h2
  generalize wordB word = t at hk
  clear hl hw hT h1 h2
  cases t
  · go_enter Tryz.func14, Tryz.ntmps14
    go_wp2_with fail
    refine hk.out.mono ?_
    rintro e w1 ⟨rfl, hb⟩
    have hb' := Lib.hid hb
    clear hb
    go_wp2
    go_ret2
    exact ⟨rfl, hb'.out⟩
  · go_enter Tryz.func14, Tryz.ntmps14
    go_wp2_with fail
    refine hk.out.mono ?_
    rintro e w1 ⟨rfl, hb⟩
    have hb' := Lib.hid hb
    clear hb
    go_wp2_with fail
    refine (hL.out _ hb'.out).mono ?_
    rintro e w2 ⟨rfl, hb2⟩
    have hb2' := Lib.hid (Below.next hb'.out hb2)
    clear hb2
    go_wp2
    go_ret2
    exact ⟨rfl, hb2'.out⟩
end Go.Proofs.YtkbmckmlnphpmaaGreatDoor
namespace Go.Proofs.YtkbmckmlnphpmaaGreatDoor
open Go.RowKit Go.Lib Go.Shelf

/-- what the library's variables hold -/
structure Env (w : World) : Prop where
  tab : Tab w
  syn : ∃ ev, w.cell? ⟨2, 0, none⟩ = some ev ∧ (ev = .nilIface ∨ ∃ te pe, ev = .iface te pe)
  rng : ∃ ev, w.cell? ⟨3, 0, none⟩ = some ev ∧ (ev = .nilIface ∨ ∃ te pe, ev = .iface te pe)
  mx : ∃ m, w.cell? ⟨1, 0, none⟩ = some (.int .i64 m)
theorem Env.below {w w' : World} (h : Env w) (hb : Below w.heap.size w w') : Env w' := by
  refine ⟨h.tab.below hb, ?_, ?_, ?_⟩
  · obtain ⟨ev, h1, h2⟩ := h.syn
    exact ⟨ev, (hb.cell (p := ⟨2, 0, none⟩) (cell_some_lt h1)).trans h1, h2⟩
  · obtain ⟨ev, h1, h2⟩ := h.rng
    exact ⟨ev, (hb.cell (p := ⟨3, 0, none⟩) (cell_some_lt h1)).trans h1, h2⟩
  · obtain ⟨m, h1⟩ := h.mx
    exact ⟨m, (hb.cell (p := ⟨1, 0, none⟩) (cell_some_lt h1)).trans h1⟩
/-- the number that a text is -/
def numI (s : ByteArray) : Option Nat := match Lib.parseUintB 64 s.data.toList with | .ok u => if (numT u).toList == s.toList then some u else none | _ => none
def NumPost (s : ByteArray) (w : World) (e : Ending) (w' : World) : Prop :=
  ∃ v : Nat, e = .returned (.tuple #[.int .u64 v, .bool (numI s).isSome]) ∧ (∀ u, numI s = some u → v = u) ∧ v < 18446744073709551616 ∧ Below w.heap.size w w'

theorem below_bytes (w : World) (s : ByteArray) : Below w.heap.size w (Lib.bytesWorld w 5 s) :=
  ⟨rfl, rfl, rfl, by rw [Lib.bytesWorld_size]; omega, fun j hj => Lib.bytesWorld_at_old w 5 s j hj⟩

set_option maxRecDepth 100000 in
set_option maxHeartbeats 1000000 in
theorem number_any (s : ByteArray) (w : World) (hE : Env w) (hs : s.size ≤ 2000000) : Calls Tryz.prog 53 #[.string s] w (NumPost s w) := by
  rcases hp : Lib.parseUintB 64 s.data.toList with u | _ | _
  · have hle := Lib.parseUintB_le hp
    have hu : u < 18446744073709551616 := by omega
    have hk := Lib.hid (Tryz.strconv_ParseUint_10_at64_ok s (by omega) u hp w)
    have hT := Lib.hid hE.tab
    obtain ⟨t, ht⟩ : ∃ t, ((numT u).toList == s.toList) = t := ⟨_, rfl⟩
    have hn : numI s = if t = true then some u else none := by unfold numI; rw [hp]; dsimp only; rw [ht]
    have hn' := Lib.hid hn
    clear hp hE hs hle hn
    go_enter Tryz.func53, Tryz.ntmps53
    go_wp2_with fail
    refine hk.out.mono ?_
    rintro e w1 ⟨rfl, hw1⟩
    have hb1 := Lib.hid (show Below w.heap.size w w1 from by
      rcases hw1 with rfl | rfl
      · exact Below.refl _ _
      · exact below_bytes w s)
    clear hw1
    go_wp2_with fail
    refine (fmtU u hu w1 (hT.out.below hb1.out)).mono ?_
    rintro e w2 ⟨rfl, hb2⟩
    have hb2' := Lib.hid (Below.next hb1.out hb2)
    clear hb2
    cases t
    · go_wp2
      go_ret2
      exact ⟨u, by rw [hn'.out]; rfl, (fun v h => by rw [hn'.out] at h; cases h), hu, hb2'.out⟩
    · go_wp2
      go_ret2
      exact ⟨u, by rw [hn'.out]; rfl, (fun v h => by rw [hn'.out] at h; cases h; rfl), hu, hb2'.out⟩
  · obtain ⟨ev, h1, h2⟩ := hE.syn
    have hk := Lib.hid (Tryz.strconv_ParseUint_10_at64_syntax s (by omega) hp ev w h1 h2)
    have hn' := Lib.hid (show numI s = none by unfold numI; rw [hp])
    clear hp hE hs h1 h2
    go_enter Tryz.func53, Tryz.ntmps53
    go_wp2_with fail
    refine hk.out.mono ?_
    rintro e w1 ⟨N, rfl, _, _, hb⟩
    have hb' := Lib.hid hb
    clear hb
    go_wp2
    go_ret2
    exact ⟨0, by rw [hn'.out]; rfl, (fun v h => by rw [hn'.out] at h; cases h), by omega, hb'.out⟩
  · obtain ⟨ev, h1, h2⟩ := hE.rng
    have hk := Lib.hid (Tryz.strconv_ParseUint_10_at64_range s (by omega) hp ev w h1 h2)
    have hn' := Lib.hid (show numI s = none by unfold numI; rw [hp])
    clear hp hE hs h1 h2
    go_enter Tryz.func53, Tryz.ntmps53
    go_wp2_with fail
    refine hk.out.mono ?_
    rintro e w1 ⟨N, rfl, _, _, hb⟩
    have hb' := Lib.hid hb
    clear hb
    go_wp2
    go_ret2
    exact ⟨18446744073709551615, by rw [hn'.out]; rfl, (fun v h => by rw [hn'.out] at h; cases h), by omega, hb'.out⟩
end Go.Proofs.YtkbmckmlnphpmaaGreatDoor
namespace Go.Proofs.YtkbmckmlnphpmaaGreatDoor
open Go.RowKit Go.Lib Go.Shelf

set_option maxRecDepth 100000 in
set_option maxHeartbeats 1000000 in
theorem refWord_any (s : ByteArray) (w : World) (hs : s.size ≤ 2000000) : Calls Tryz.prog 15 #[.string s] w fun e w' => e = .returned (.bool (wordB s)) ∧ w = w' := by
  go_enter Tryz.func15, Tryz.ntmps15
  go_wp2_with fail
  go_loopg [3] s.size (fun g s3 wr => ∃ k : Nat, k + g = s.size ∧ s3 = .int .i64 k ∧ (∀ i (h : i < s.size), i < k → lowB (s[i]'h) = true) ∧ w = wr)
  case atStart => exact ⟨0, by omega, rfl, fun i _ h => absurd h (by omega), rfl⟩
  case round =>
    obtain ⟨k, hkg, rfl, hall, rfl⟩ := hrel
    have hall' := Lib.hid hall
    clear hall
    cases gk with
    | zero =>
      have e0 : ¬ ((k : Int) < (s.size : Int)) := by omega
      have hw : wordB s = decide (0 < s.size) := by
        unfold wordB
        have : s.data.toList.all lowB = true := by
          rw [List.all_eq_true]
          intro b hb
          obtain ⟨n, hn, rfl⟩ := List.getElem_of_mem hb
          have hns : n < s.size := by have hlen : s.data.toList.length = s.size := Array.length_toList; omega
          exact hall'.out n hns (by omega)
        rw [this, Bool.and_true]
      by_cases hz : 0 < s.size
      · have d1 : (0 : Int) < (s.size : Int) := by omega
        have hw2 := Lib.hid (hw.trans (decide_eq_true hz))
        clear hw
        go_wp2
        go_ret
        exact ⟨by rw [hw2.out]; rfl, rfl⟩
      · have d1 : ¬ ((0 : Int) < (s.size : Int)) := by omega
        have hw2 := Lib.hid (hw.trans (decide_eq_false hz))
        clear hw
        go_wp2
        go_ret
        exact ⟨by rw [hw2.out]; rfl, rfl⟩
    | succ g =>
      have e0 : (k : Int) < (s.size : Int) := by omega
      have hk : k < s.size := by omega
      have hno : lowB (s[k]'hk) = false → wordB s = false := fun h => by
        unfold wordB
        have : s.data.toList.all lowB = false := by
          rw [List.all_eq_false]
          exact ⟨s[k]'hk, List.getElem_mem (by have hlen : s.data.toList.length = s.size := Array.length_toList; omega), by simpa using h⟩
        rw [this, Bool.and_false]
      have hno' := Lib.hid hno
      clear hno
      by_cases h1 : (s[k]'hk).toNat < 97
      · have e1 : ((s[k]'hk).toNat : Int) < 97 := by omega
        have hw := Lib.hid (hno'.out (by unfold lowB; simp; omega))
        go_wp2
        go_ret
        exact ⟨by rw [hw.out]; rfl, rfl⟩
      · have e1 : ¬ (((s[k]'hk).toNat : Int) < 97) := by omega
        by_cases h2 : 122 < (s[k]'hk).toNat
        · have e2 : (122 : Int) < ((s[k]'hk).toNat : Int) := by omega
          have hw := Lib.hid (hno'.out (by unfold lowB; simp; omega))
          go_wp2
          go_ret
          exact ⟨by rw [hw.out]; rfl, rfl⟩
        · have e2 : ¬ ((122 : Int) < ((s[k]'hk).toNat : Int)) := by omega
          go_wp2
          go_roundg g
          case measure => omega
          case rel =>
            refine ⟨k + 1, by omega, by go_num, fun i h hi => ?_, rfl⟩
            rcases Nat.lt_or_ge i k with h3 | h3
            · exact hall'.out i h h3
            · obtain rfl : i = k := by omega
              unfold lowB; simp; omega
end Go.Proofs.YtkbmckmlnphpmaaGreatDoor
namespace Go.Proofs.YtkbmckmlnphpmaaGreatDoor
open Go.RowKit Go.Lib Go.Shelf

/-- parts of a text, between bytes c -/
def partsF (c : UInt8) : List UInt8 → List (List UInt8)
  | [] => [[]]
  | b :: l => if b = c then [] :: partsF c l else (b :: (partsF c l).headD []) :: (partsF c l).tail
theorem partsF_ne (c : UInt8) : ∀ l, partsF c l ≠ []
  | [] => by simp [partsF]
  | b :: l => by unfold partsF; split <;> simp
theorem index_nil (c : UInt8) : index [] [c] = -1 := by simp [index]
theorem index_eq (c : UInt8) (l : List UInt8) : index (c :: l) [c] = 0 := by rw [index]; simp [List.isPrefixOf]
theorem index_ne {b c : UInt8} (l : List UInt8) (h : b ≠ c) : index (b :: l) [c] = if index l [c] == -1 then -1 else index l [c] + 1 := by
  have hp : ([c] : List UInt8).isPrefixOf (b :: l) = false := by simp [List.isPrefixOf, Ne.symm h]
  rw [index, hp]; simp
theorem split_parts (c : UInt8) : ∀ l : List UInt8, splitK [c] 0 (l.count c) l = partsF c l
  | [] => rfl
  | b :: l => by
    by_cases h : b = c
    · subst h
      rw [List.count_cons_self, splitK, index_eq]
      simp [partsF, split_parts b l]
    · rw [List.count_cons_of_ne (by simpa using h)]
      have ih := split_parts c l
      have hge := index_ge l [c]
      unfold partsF
      rw [if_neg h, ← ih]
      cases hc : l.count c with
      | zero => simp [splitK]
      | succ k =>
        by_cases hm : index l [c] = -1
        · rw [splitK, splitK, index_ne l h, hm]; simp
        · have h1 : ¬ ((if index l [c] == -1 then -1 else index l [c] + 1) == -1) = true := by
            rw [if_neg (by simpa using hm)]
            simp; omega
          rw [splitK, splitK, index_ne l h, if_neg h1, if_neg (by simpa using hm), if_neg (by simpa using hm)]
          have e1 : (index l [c] + 1).toNat = (index l [c]).toNat + 1 := by omega
          rw [e1]
          simp [Nat.add_right_comm]
theorem splitB_parts (c : UInt8) (s : ByteArray) : splitB ⟨#[c]⟩ 0 (countB s ⟨#[c]⟩) s = (partsF c s.data.toList).map fun l => ⟨l.toArray⟩ := by
  have h := splitB_data ⟨#[c]⟩ 0 (countB s ⟨#[c]⟩) s
  have e : countB s ⟨#[c]⟩ = s.data.toList.count c := count_one c _
  have h2 : (splitB ⟨#[c]⟩ 0 (countB s ⟨#[c]⟩) s).map (·.data.toList) = partsF c s.data.toList := by
    rw [h]
    show splitK [c] 0 _ _ = _
    rw [e, split_parts]
  rw [← h2, List.map_map]
  have e3 : ((fun l : List UInt8 => (⟨l.toArray⟩ : ByteArray)) ∘ fun s : ByteArray => s.data.toList) = id := by
    funext x; simp
  rw [e3, List.map_id]
theorem parts_len (c : UInt8) (s : ByteArray) : (partsF c s.data.toList).length = countB s ⟨#[c]⟩ + 1 := by
  have h := splitB_all ⟨#[c]⟩ (Nat.le_refl 1) 0 (countB s ⟨#[c]⟩) s rfl
  rw [splitB_parts, List.length_map] at h
  exact h
end Go.Proofs.YtkbmckmlnphpmaaGreatDoor
namespace Go.Proofs.YtkbmckmlnphpmaaGreatDoor
open Go.RowKit Go.Lib Go.Shelf

def digB (c : UInt8) : Bool := decide (48 ≤ c.toNat) && decide (c.toNat ≤ 57)
def valF (acc : Nat) (l : List UInt8) : Nat := l.foldl (fun a c => a * 10 + (c.toNat - 48)) acc
theorem valF_cons (acc : Nat) (c : UInt8) (l : List UInt8) : valF acc (c :: l) = valF (acc * 10 + (c.toNat - 48)) l := by unfold valF; rw [List.foldl_cons]
theorem valF_snoc (acc : Nat) (l : List UInt8) (c : UInt8) : valF acc (l ++ [c]) = valF acc l * 10 + (c.toNat - 48) := by simp [valF]
theorem valF_ge (l : List UInt8) : ∀ (acc : Nat), acc ≤ valF acc l := by
  induction l with
  | nil => intro acc; exact Nat.le_refl _
  | cons c l ih =>
    intro acc
    rw [valF_cons]
    exact Nat.le_trans (by omega) (ih _)
theorem valF_app (acc : Nat) (l m : List UInt8) : valF acc (l ++ m) = valF (valF acc l) m := by simp [valF]
theorem dig_iff (c : UInt8) : digB c = true ↔ 48 ≤ c.toNat ∧ c.toNat ≤ 57 := by simp [digB]
theorem parse_step {M : Nat} (c : UInt8) (r : List UInt8) (acc : Nat) (u : Nat) (h : parseUintM M acc (c :: r) = .ok u) : digB c = true ∧ parseUintM M (acc * 10 + (c.toNat - 48)) r = .ok u := by
  unfold parseUintM at h
  generalize 1844674407370955162 = K at h
  by_cases hd : 48 ≤ c.toNat ∧ c.toNat ≤ 57
  · rw [if_pos hd] at h
    refine ⟨(dig_iff c).2 hd, ?_⟩
    by_cases h1 : K ≤ acc
    · rw [if_pos h1] at h; exact absurd h (fun e => nomatch e)
    · rw [if_neg h1] at h
      by_cases h2 : M < acc * 10 + (c.toNat - 48)
      · rw [if_pos h2] at h; exact absurd h (fun e => nomatch e)
      · rw [if_neg h2] at h; exact h
  · rw [if_neg hd] at h; exact absurd h (fun e => nomatch e)
theorem parse_ok {M : Nat} (l : List UInt8) : ∀ (acc u : Nat), parseUintM M acc l = .ok u → l.all digB = true ∧ valF acc l = u := by
  induction l with
  | nil => intro acc u h; exact ⟨rfl, by injection h⟩
  | cons c r ih =>
    intro acc u h
    obtain ⟨h1, h2⟩ := parse_step c r acc u h
    obtain ⟨h3, h4⟩ := ih _ u h2
    refine ⟨?_, h4⟩
    rw [List.all_cons, h3, h1]; rfl
theorem parse_conv (l : List UInt8) : ∀ (acc : Nat), l.all digB = true → valF acc l ≤ 18446744073709551615 → parseUintM (2 ^ 64 - 1) acc l = .ok (valF acc l) := by
  have e64 : 2 ^ 64 - 1 = 18446744073709551615 := by decide
  rw [e64]
  generalize hM : 18446744073709551615 = M
  induction l with
  | nil => intro acc _ _; rfl
  | cons c r ih =>
    intro acc h hv
    rw [List.all_cons, Bool.and_eq_true] at h
    have hd := (dig_iff c).1 h.1
    rw [valF_cons] at hv
    have hge := valF_ge r (acc * 10 + (c.toNat - 48))
    unfold parseUintM
    rw [if_pos hd, if_neg (by omega), if_neg (by omega), ih _ h.2 hv, valF_cons]
theorem dig_nat (n : Nat) (h : n < 10) : (UInt8.ofNat (48 + n)).toNat = 48 + n := by rw [UInt8.toNat_ofNat']; omega
theorem dec_val (u : Nat) : valF 0 (decDigits u) = u := by
  rw [decDigits]
  split
  · rename_i h
    show 0 * 10 + ((UInt8.ofNat (48 + u)).toNat - 48) = u
    rw [dig_nat u h]; omega
  · rw [valF_snoc, dec_val (u / 10), dig_nat _ (by omega)]; omega
termination_by u
decreasing_by omega
theorem dec_all (u : Nat) : (decDigits u).all digB = true := by
  rw [decDigits]
  split
  · rename_i h
    simp only [List.all_cons, List.all_nil, Bool.and_true]
    rw [dig_iff, dig_nat u h]; omega
  · rw [List.all_append, dec_all (u / 10)]
    simp only [List.all_cons, List.all_nil, Bool.and_true, Bool.true_and]
    rw [dig_iff, dig_nat _ (by omega)]; omega
termination_by u
decreasing_by omega
theorem dec_ne (u : Nat) : decDigits u ≠ [] := by
  rw [decDigits]
  split <;> simp
theorem dec_head (u : Nat) (hu : 1 ≤ u) : ∀ c, (decDigits u).head? = some c → 49 ≤ c.toNat := by
  rw [decDigits]
  split
  · rename_i h
    intro c hc
    simp only [List.head?_cons, Option.some.injEq] at hc
    rw [← hc, dig_nat u h]; omega
  · intro c hc
    have hne := dec_ne (u / 10)
    refine dec_head (u / 10) (by omega) c ?_
    cases hl : decDigits (u / 10) with
    | nil => exact absurd hl hne
    | cons d r => rw [hl] at hc; simpa using hc
termination_by u
decreasing_by omega
/-- the form of a number -/
def canonB (l : List UInt8) : Bool := decide (0 < l.length) && (decide (l.length ≤ 1) || l.headD 0 != 48) && l.all digB
theorem dec_canon (u : Nat) : canonB (decDigits u) = true := by
  unfold canonB
  rw [dec_all u, Bool.and_true]
  have h0 : 0 < (decDigits u).length := List.length_pos_iff.2 (dec_ne u)
  rw [decide_eq_true h0, Bool.true_and]
  by_cases hu : u < 10
  · rw [decDigits_one hu]; rfl
  · have h1 := dec_head u (by omega)
    cases hl : decDigits u with
    | nil => rw [hl] at h0; simp at h0
    | cons c r =>
      rw [hl] at h1
      have h2 := h1 c rfl
      have : c ≠ 48 := fun e => by subst e; revert h2; decide
      simp [this]
theorem dec_of_canon : ∀ (n : Nat) (l : List UInt8), l.length = n → canonB l = true → decDigits (valF 0 l) = l
  | 0, l, hn, h => by
    have : l = [] := List.length_eq_zero_iff.1 hn
    subst this; cases h
  | n + 1, l, hn, h => by
    have hne : l ≠ [] := fun e => by subst e; cases hn
    obtain ⟨m, c, rfl⟩ : ∃ m c, l = m ++ [c] := ⟨l.dropLast, l.getLast hne, (List.dropLast_concat_getLast hne).symm⟩
    unfold canonB at h
    simp only [Bool.and_eq_true] at h
    obtain ⟨⟨_, h2⟩, h3⟩ := h
    rw [List.all_append, Bool.and_eq_true] at h3
    obtain ⟨h3, h4⟩ := h3
    have hc : digB c = true := by simpa using h4
    have hc' := (dig_iff c).1 hc
    have e48 : UInt8.ofNat (48 + (c.toNat - 48)) = c := by
      have : 48 + (c.toNat - 48) = c.toNat := by omega
      rw [this]; exact UInt8.ofNat_toNat
    rw [valF_snoc]
    cases m with
    | nil =>
      show decDigits (0 * 10 + (c.toNat - 48)) = [c]
      have h9 : 0 * 10 + (c.toNat - 48) < 10 := by omega
      rw [decDigits_one h9]
      simp only [Nat.zero_mul, Nat.zero_add]
      rw [e48]
    | cons d m =>
      have hd48 : d ≠ 48 := by
        rw [Bool.or_eq_true] at h2
        rcases h2 with h5 | h5
        · simp at h5
        · simpa using h5
      have hd := (dig_iff d).1 (by rw [List.all_cons, Bool.and_eq_true] at h3; exact h3.1)
      have hd49 : 49 ≤ d.toNat := by
        rcases Nat.lt_or_ge d.toNat 49 with h6 | h6
        · exfalso; apply hd48
          have : d.toNat = 48 := by omega
          exact UInt8.toNat_inj.1 this
        · exact h6
      have hcan : canonB (d :: m) = true := by
        unfold canonB
        rw [h3]
        simp [hd48]
      have hv : 1 ≤ valF 0 (d :: m) := by
        rw [valF_cons]
        exact Nat.le_trans (by omega) (valF_ge m _)
      have ih := dec_of_canon n (d :: m) (by simpa using hn) hcan
      rw [decDigits, dif_neg (by omega)]
      have e1 : (valF 0 (d :: m) * 10 + (c.toNat - 48)) / 10 = valF 0 (d :: m) := by omega
      have e2 : (valF 0 (d :: m) * 10 + (c.toNat - 48)) % 10 = c.toNat - 48 := by omega
      rw [e1, e2, ih, e48]
theorem numT_toList (u : Nat) : (numT u).toList = decDigits u := by rw [ByteArray.toList_eq]; rfl
theorem numI_eq (s : ByteArray) : numI s = if canonB s.data.toList = true ∧ valF 0 s.data.toList ≤ 18446744073709551615 then some (valF 0 s.data.toList) else none := by
  unfold numI
  rw [ByteArray.toList_eq]
  by_cases hc : canonB s.data.toList = true ∧ valF 0 s.data.toList ≤ 18446744073709551615
  · rw [if_pos hc]
    have hc1 := hc.1
    unfold canonB at hc1
    simp only [Bool.and_eq_true] at hc1
    have hp : parseUintB 64 s.data.toList = .ok (valF 0 s.data.toList) := by
      unfold parseUintB
      rw [if_neg (fun e => by rw [e] at hc1; simp at hc1), parse_conv _ _ hc1.2 hc.2]
    rw [hp]
    simp only [numT_toList]
    rw [dec_of_canon _ _ rfl hc.1]
    simp
  · rw [if_neg hc]
    rcases hp : parseUintB 64 s.data.toList with u | _ | _
    · simp only [numT_toList]
      have hne : ¬ ((decDigits u == s.data.toList) = true) := by
        intro he
        have he : decDigits u = s.data.toList := by simpa using he
        apply hc
        rw [← he, dec_val]
        have := parseUintB_le hp
        exact ⟨dec_canon u, by omega⟩
      rw [if_neg hne]
    · rfl
    · rfl
theorem numI_lt {s : ByteArray} {u : Nat} (h : numI s = some u) : u < 18446744073709551616 := by
  rw [numI_eq] at h
  split at h
  · rename_i hc; cases h; omega
  · cases h
theorem numI_text {s : ByteArray} {u : Nat} (h : numI s = some u) : numT u = s := by
  rw [numI_eq] at h
  split at h
  · rename_i hc
    cases h
    unfold numT
    rw [dec_of_canon _ _ rfl hc.1]
  · cases h
theorem numI_numT (u : Nat) (hu : u < 18446744073709551616) : numI (numT u) = some u := by
  rw [numI_eq]
  have : (numT u).data.toList = decDigits u := rfl
  rw [this, dec_val, if_pos ⟨dec_canon u, by omega⟩]
theorem numI_long {s : ByteArray} (h : 20 < s.size) : numI s = none := by
  cases hn : numI s with
  | none => rfl
  | some u =>
    exfalso
    have h1 := numI_text hn
    have h2 := numT_len u (numI_lt hn)
    rw [h1] at h2
    have : s.data.toList.length = s.size := Array.length_toList
    omega
theorem numI_zero {s : ByteArray} (h : canonB s.data.toList = false) : numI s = none := by
  rw [numI_eq, if_neg (by rw [h]; simp)]
theorem numI_over {s : ByteArray} (h : 18446744073709551615 < valF 0 s.data.toList) : numI s = none := by
  rw [numI_eq, if_neg (by omega)]
theorem numI_some {s : ByteArray} (h : canonB s.data.toList = true) (h2 : valF 0 s.data.toList ≤ 18446744073709551615) : numI s = some (valF 0 s.data.toList) := by
  rw [numI_eq, if_pos ⟨h, h2⟩]
end Go.Proofs.YtkbmckmlnphpmaaGreatDoor
namespace Go.Proofs.YtkbmckmlnphpmaaGreatDoor
open Go.RowKit Go.Lib Go.Shelf

set_option maxRecDepth 100000 in
set_option maxHeartbeats 1000000 in
theorem digit_any (b : UInt8) (w : World) : Calls Tryz.prog 85 #[.int .u8 (b.toNat : Int)] w fun e w' => e = .returned (.bool (digB b)) ∧ w = w' := by
  unfold digB
  by_cases h1 : 48 ≤ b.toNat
  · have e1 : ((48 : Int) ≤ (b.toNat : Int)) := by omega
    have d1 : decide (48 ≤ b.toNat) = true := by simpa using h1
    have f1 : decide ((48 : Int) ≤ (b.toNat : Int)) = true := by simpa using e1
    by_cases h2 : b.toNat ≤ 57
    · have e2 : ((b.toNat : Int) ≤ 57) := by omega
      have d2 : decide (b.toNat ≤ 57) = true := by simpa using h2
      rw [d1, d2]
      clear d1 d2
      go_enter Tryz.func85, Tryz.ntmps85
      go_wp2
      go_ret
      exact ⟨rfl, rfl⟩
    · have e2 : ¬ ((b.toNat : Int) ≤ 57) := by omega
      have d2 : decide (b.toNat ≤ 57) = false := by simpa using h2
      rw [d1, d2]
      clear d1 d2
      go_enter Tryz.func85, Tryz.ntmps85
      go_wp2
      go_ret
      exact ⟨rfl, rfl⟩
  · have e1 : ¬ ((48 : Int) ≤ (b.toNat : Int)) := by omega
    have d1 : decide (48 ≤ b.toNat) = false := by simpa using h1
    rw [d1]
    clear d1
    go_enter Tryz.func85, Tryz.ntmps85
    go_wp2
    go_ret
    exact ⟨rfl, rfl⟩

def RefNum (s : ByteArray) (w : World) (e : Ending) (w' : World) : Prop := ∃ v er : Int, e = .returned (.tuple #[.int .u64 v, .int .i64 er]) ∧ (numI s = none → er = 15) ∧ (∀ u, numI s = some u → v = u ∧ er = 0) ∧ w = w'

theorem size_list (s : ByteArray) : s.data.toList.length = s.size := Array.length_toList
theorem get_list (s : ByteArray) (k : Nat) (hk : k < s.size) : s.data.toList[k]? = some (s[k]'hk) := by
  rw [List.getElem?_eq_getElem (by rw [size_list]; exact hk)]
  exact congrArg some (Array.getElem_toList (xs := s.data) (by exact hk))
theorem take_next (s : ByteArray) (k : Nat) (hk : k < s.size) : s.data.toList.take (k + 1) = s.data.toList.take k ++ [s[k]'hk] := by
  rw [List.take_add_one, get_list s k hk]; rfl
theorem take_val (s : ByteArray) (k : Nat) : valF 0 (s.data.toList.take k) ≤ valF 0 s.data.toList := by
  have h := valF_app 0 (s.data.toList.take k) (s.data.toList.drop k)
  rw [List.take_append_drop] at h
  rw [h]
  exact valF_ge _ _

set_option maxRecDepth 100000 in
set_option maxHeartbeats 2000000 in
theorem refNumber_any (s : ByteArray) (w : World) (hs : s.size ≤ 2000000) : Calls Tryz.prog 55 #[.string s] w (RefNum s w) := by
  have hB := Lib.hid (show ∀ (k : Nat) (hk : k < s.size) (w : World), Calls Tryz.prog 85 #[.int .u8 ((s[k]'hk).toNat : Int)] w fun e w' => e = .returned (.bool (digB (s[k]'hk))) ∧ w = w' from fun k hk w => digit_any _ w)
  by_cases h1 : s.size < 1
  · have e1 : ((s.size : Int) < 1) := by omega
    have hn := Lib.hid (numI_zero (s := s) (by unfold canonB; rw [size_list]; simp; omega))
    go_enter Tryz.func55, Tryz.ntmps55
    go_wp2
    go_ret2
    exact ⟨0, 15, rfl, fun _ => rfl, (fun u h => by rw [hn.out] at h; cases h), rfl⟩
  · have e1 : ¬ ((s.size : Int) < 1) := by omega
    by_cases h2 : 20 < s.size
    · have e2 : (20 : Int) < (s.size : Int) := by omega
      have hn := Lib.hid (numI_long h2)
      go_enter Tryz.func55, Tryz.ntmps55
      go_wp2
      go_ret2
      exact ⟨0, 15, rfl, fun _ => rfl, (fun u h => by rw [hn.out] at h; cases h), rfl⟩
    · have e2 : ¬ (20 : Int) < (s.size : Int) := by omega
      have hk0 : 0 < s.size := by omega
      by_cases h3 : 1 < s.size ∧ (s[0]'hk0).toNat = 48
      · have e3 : (1 : Int) < (s.size : Int) := by omega
        have e4 : ((s[0]'hk0).toNat : Int) = 48 := by omega
        have hn := Lib.hid (numI_zero (s := s) (by
          have hg := get_list s 0 hk0
          unfold canonB
          rw [size_list]
          have hh : s.data.toList.headD 0 = 48 := by
            cases hl : s.data.toList with
            | nil => rw [hl] at hg; simp at hg
            | cons c r =>
              rw [hl] at hg
              have : c = s[0]'hk0 := by simpa using hg
              show c = 48
              rw [this]
              exact UInt8.toNat_inj.1 h3.2
          rw [hh]
          have : ¬ s.size ≤ 1 := by omega
          simp [this]))
        go_enter Tryz.func55, Tryz.ntmps55
        go_wp2
        go_ret2
        exact ⟨0, 15, rfl, fun _ => rfl, (fun u h => by rw [hn.out] at h; cases h), rfl⟩
      · have hcan : s.data.toList.all digB = true → canonB s.data.toList = true := fun hall => by
          unfold canonB
          rw [hall, Bool.and_true, size_list, decide_eq_true hk0, Bool.true_and]
          by_cases h4 : s.size ≤ 1
          · rw [decide_eq_true h4, Bool.true_or]
          · have h5 : ¬ (s[0]'hk0).toNat = 48 := fun e => h3 ⟨by omega, e⟩
            have hg := get_list s 0 hk0
            cases hl : s.data.toList with
            | nil => rw [hl] at hg; simp at hg
            | cons c r =>
              rw [hl] at hg
              have : c = s[0]'hk0 := by simpa using hg
              have : c ≠ 48 := fun e => h5 (by rw [← this, e]; rfl)
              simp [this]
        have hcan' := Lib.hid hcan
        have key : Calls Tryz.prog 55 #[.string s] w (RefNum s w) := by
          have hpos : 0 < s.size := hk0
          rcases (show ((1 : Int) < (s.size : Int) ∧ ¬ ((s[0]'hk0).toNat : Int) = 48) ∨ (¬ (1 : Int) < (s.size : Int) ∧ True) from by
            by_cases h4 : 1 < s.size
            · exact .inl ⟨by omega, by omega⟩
            · exact .inr ⟨by omega, trivial⟩) with ⟨e3, e4⟩ | ⟨e3, e4⟩
          all_goals clear h3 hcan
          all_goals (
            go_enter Tryz.func55, Tryz.ntmps55
            go_wp2_with fail
            go_loopg [4, 5, 6] s.size (fun g s4 s5 s6 wr => ∃ k n : Nat, k + g = s.size ∧ s5 = .int .i64 k ∧ s4 = .int .u64 n ∧ n = valF 0 (s.data.toList.take k) ∧ n ≤ 18446744073709551615 ∧ (s.data.toList.take k).all digB = true ∧ w = wr)
            case atStart => exact ⟨0, 0, by omega, rfl, rfl, rfl, by omega, rfl, rfl⟩
            case round =>
              obtain ⟨k, n, hkg, rfl, rfl, hn, hn2, hall, rfl⟩ := hrel
              have hn' := Lib.hid hn
              have hall' := Lib.hid hall
              clear hn hall
              cases gk with
              | zero =>
                have e0 : ¬ ((k : Int) < (s.size : Int)) := by omega
                have htk : s.data.toList.take k = s.data.toList := List.take_of_length_le (by rw [size_list]; omega)
                have hv := hn'.out
                have ha := hall'.out
                rw [htk] at hv ha
                have hf := Lib.hid (numI_some (hcan'.out ha) (by omega))
                have hv' := Lib.hid hv
                clear htk hv ha
                go_wp2
                go_ret2
                exact ⟨_, _, rfl, (fun h => by rw [hf.out] at h; cases h), (fun u h => by rw [hf.out] at h; cases h; exact ⟨by rw [hv'.out], rfl⟩), rfl⟩
              | succ g =>
                have e0 : (k : Int) < (s.size : Int) := by omega
                have hk : k < s.size := by omega
                have hd := hB.out k hk w
                have htn := Lib.hid (take_next s k hk)
                cases hdb : digB (s[k]'hk)
                · rw [hdb] at hd
                  have hd' := Lib.hid hd
                  have hf := Lib.hid (numI_zero (s := s) (by
                    unfold canonB
                    have : s.data.toList.all digB = false := by
                      rw [List.all_eq_false]
                      exact ⟨s[k]'hk, List.mem_of_getElem? (get_list s k hk), by simp [hdb]⟩
                    rw [this, Bool.and_false]))
                  clear hd hdb
                  go_wp2_with fail
                  refine hd'.out.mono ?_
                  rintro e w1 ⟨rfl, rfl⟩
                  go_wp2
                  go_ret2
                  exact ⟨0, 15, rfl, fun _ => rfl, (fun u h => by rw [hf.out] at h; cases h), rfl⟩
                · rw [hdb] at hd
                  have hd' := Lib.hid hd
                  have hb := (dig_iff (s[k]'hk)).1 hdb
                  have hdb' := Lib.hid hdb
                  clear hd hdb
                  obtain ⟨d, hd⟩ : ∃ d : Nat, (s[k]'hk).toNat = 48 + d := ⟨(s[k]'hk).toNat - 48, by omega⟩
                  have hd9 : d ≤ 9 := by omega
                  have hdZ : ((s[k]'hk).toNat : Int) = 48 + (d : Int) := by omega
                  have w1 : IntKind.u8.wrap (48 + (d : Int) - 48) = (d : Int) := by rw [IntKind.wrap_u8]; omega
                  have hd2 := hd'.out
                  rw [hdZ] at hd2
                  have hd3 := Lib.hid hd2
                  clear hd2
                  go_wp2_with fail
                  refine hd3.out.mono ?_
                  rintro e w1 ⟨rfl, rfl⟩
                  have w2 : IntKind.u64.wrap (18446744073709551615 - (d : Int)) = 18446744073709551615 - (d : Int) := by rw [IntKind.wrap_u64]; omega
                  by_cases hov : (18446744073709551615 - d) / 10 < n
                  · have q1 : ((18446744073709551615 - (d : Int)) / 10 < (n : Int)) := by omega
                    have hf := Lib.hid (numI_over (s := s) (by
                      have h5 := take_val s (k + 1)
                      rw [htn.out, valF_snoc, hd, ← hn'.out] at h5
                      omega))
                    go_wp2
                    go_ret2
                    exact ⟨0, 15, rfl, fun _ => rfl, (fun u h => by rw [hf.out] at h; cases h), rfl⟩
                  · have q1 : ¬ ((18446744073709551615 - (d : Int)) / 10 < (n : Int)) := by omega
                    have hov' : n * 10 + d ≤ 18446744073709551615 := by omega
                    go_wp2
                    go_roundg g
                    case measure => omega
                    case rel =>
                      refine ⟨k + 1, n * 10 + d, by omega, by go_num, by go_num, ?_, hov', ?_, rfl⟩
                      · rw [htn.out, valF_snoc, hd, ← hn'.out]; omega
                      · rw [htn.out, List.all_append, hall'.out]
                        simp [hdb'.out])
        exact key
end Go.Proofs.YtkbmckmlnphpmaaGreatDoor
