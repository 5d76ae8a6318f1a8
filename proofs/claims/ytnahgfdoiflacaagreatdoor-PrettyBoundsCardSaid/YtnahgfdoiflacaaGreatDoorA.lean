/- Numbers and their texts (turned by program from the chapter of scripts): strconv.FormatUint; which texts are numbers; the reference's Number. -/
import Derived.Test.YtnahgfdoiflacaaGreatDoorRows
import Derived.Test.YtnahgfdoiflacaaGreatDoorShelf
import Derived.WalkKit
import Derived.WalkSpells
import Derived.WalkLawsBesides
import Derived.Laws.BitsAllLaws
import Derived.Lib.Hide
import Derived.Lib.ItoaWalk
import Derived.Lib.ItoaMem
import Derived.Lib.AppendIntMem
import Derived.Below
import Derived.Laws.RangeAny
import Derived.Maps.AppendAt
import Derived.Laws.OwnMore
import Derived.BigQuiet
import Derived.RegionTactic
set_option linter.unusedSimpArgs false
set_option linter.unusedVariables false
namespace Go.Proofs.YtnahgfdoiflacaaGreatDoor
open Go.RowKit Go.Sort Go.Lib Go.Shelf

theorem u144 : Tryz.prog.underlying 152 = some (.array 24 5) := by kernel_rfl
theorem u73 : Tryz.prog.underlying 85 = some (.slice 5) := by kernel_rfl
theorem u5 : Tryz.prog.underlying 5 = some (.int .u8) := by kernel_rfl
theorem u9 : Tryz.prog.underlying 9 = some .string := by kernel_rfl
theorem z144 (w : World) : (zeroValue 152).run Tryz.prog w = .ok (.agg Lib.zeros24) w := by kernel_rfl

/-- the text of a number -/
def numT (u : Nat) : ByteArray := ⟨(Lib.decDigits u).toArray⟩
def StrPost (s : ByteArray) (w : World) (e : Ending) (w' : World) : Prop := e = .returned (.string s) ∧ Below w.heap.size w w'

set_option maxRecDepth 100000 in
set_option maxHeartbeats 2000000 in
theorem fmt82 (u : Nat) (hu64 : u < 18446744073709551616) (w : World) (htab : Lib.TabIs Tryz.prog w "internal/strconv.uint64pow10" .u64 Lib.pow10Tab) :
    Calls Tryz.prog 98 #[.int .u64 u, .int .i64 10] w (StrPost (numT u) w) := by
  by_cases hs : u < 100
  · have hd : decide ((u : Int) < 100) = true := by simp; omega
    have hlt : (u : Int) < 100 := by omega
    have hsm := Lib.hid (Tryz.internal_strconv_small u hs w)
    go_enter Tryz.func98, Tryz.ntmps98
    go_wp2_with fail
    refine hsm.out.mono ?_
    rintro e w1 ⟨rfl, rfl⟩
    go_wp2
    go_ret
    exact ⟨rfl, Below.refl _ _⟩
  · have hu1 : 1 ≤ u := by omega
    have hnd20 : Lib.nDigits u ≤ 20 := by have := Lib.numDigits_eq u hu1 hu64; split at this <;> omega
    have hd : decide ((u : Int) < 100) = false := by simp; omega
    have hge : ¬ ((u : Int) < 100) := by omega
    have hH0 := Lib.holds_zero0 w 152 (Lib.nDigits u) (by omega)
    have hfmt := Lib.hid (Tryz.internal_strconv_formatBase10 w.heap.size 0 24 u (Array.replicate (Lib.nDigits u) 0) (w.alloc (.cells Lib.zeros24 152)) hH0 (by rw [Array.size_replicate]; exact Lib.lt_pow_nDigits u) hu64 (by rw [Array.size_replicate]; omega))
    rw [Array.size_replicate] at hfmt
    have HH0 := Lib.hid hH0
    have hnum := Lib.hid (Tryz.internal_strconv_numDigits u hu1 hu64 (w.alloc (.cells Lib.zeros24 152)) (Lib.tabIs_alloc htab _))
    have hz := z144
    have hal : Tryz.prog.arrayLen 152 = 24 := by simp [Program.arrayLen, u144]
    have hsl : ∀ W, (Instr.sliceAt 152 (.pointer (some ⟨w.heap.size, 0, none⟩)) none (some (.int .i64 (Lib.nDigits u : Int))) none).run Tryz.prog W = .ok (.slice (some ⟨w.heap.size, 0, none⟩) (Lib.nDigits u) 24) W := fun W => by
      rw [run_sliceAt_array_h W 152 ⟨w.heap.size, 0, none⟩ (by simp [Program.arrayLen, Program.elem, u144]) .i64 (Lib.nDigits u : Int) (by omega) (by rw [hal]; omega)]
      go_simp
    clear hal hH0
    go_enter Tryz.func98, Tryz.ntmps98
    go_wp2_with fail
    refine hnum.out.mono ?_
    rintro e w1 ⟨rfl, rfl⟩
    go_wp2_with fail
    refine hfmt.out.mono ?_
    rintro e w1 ⟨rfl, k, v', dk, rfl, hF⟩
    have hcv : (convert 85 9 (.slice (some ⟨w.heap.size, 0, none⟩) (Lib.nDigits u) 24)).run Tryz.prog ((putRow (fun (b : UInt8) => Value.int .u8 (b.toNat : Int)) (w.alloc (.cells Lib.zeros24 152)) w.heap.size 0 dk).drewN k) = .ok (.string ⟨(Lib.decDigits u).toArray⟩) ((putRow (fun (b : UInt8) => Value.int .u8 (b.toNat : Int)) (w.alloc (.cells Lib.zeros24 152)) w.heap.size 0 dk).drewN k) := by
      have h := run_convert_bytes_back (P := Tryz.prog) ((putRow (fun (b : UInt8) => Value.int .u8 (b.toNat : Int)) (w.alloc (.cells Lib.zeros24 152)) w.heap.size 0 dk).drewN k) 85 9 5 ⟨w.heap.size, 0, none⟩ 24 (Lib.decDigits u) u73 u5 u9 (fun j hj => by
        rw [Lib.row_is_numeral hF j hj, Lib.add_plain, World.cell?_drewN]
        exact cell?_putRow (fun (b : UInt8) => Value.int .u8 (b.toNat : Int)) _ w.heap.size 0 _ dk HH0.out (by rw [hF.size, Array.size_replicate]) j (by rw [hF.size]; rw [Lib.decDigits_length] at hj; exact hj))
      rw [Lib.decDigits_length] at h
      exact h
    obtain ⟨os, eo⟩ := Lib.fin_at w (.cells Lib.zeros24 152) dk k 0
    have eo' := Lib.hid eo
    clear eo
    go_wp2
    go_ret
    refine ⟨rfl, ?_⟩
    rw [eo'.out]
    exact Lib.below_grow _ w (Nat.le_refl _) k os
theorem fmtU (u : Nat) (hu64 : u < 18446744073709551616) (w : World) (htab : Lib.TabIs Tryz.prog w "internal/strconv.uint64pow10" .u64 Lib.pow10Tab) :
    Calls Tryz.prog 47 #[.int .u64 u, .int .i64 10] w (StrPost (numT u) w) := by
  have hk := Lib.hid (fmt82 u hu64 w htab)
  go_enter Tryz.func47, Tryz.ntmps47
  go_wp2_with fail
  refine hk.out.mono ?_
  rintro e w1 ⟨rfl, hb⟩
  have hb' := Lib.hid hb
  clear hb
  go_wp2
  go_ret
  exact ⟨rfl, hb'.out⟩
end Go.Proofs.YtnahgfdoiflacaaGreatDoor
namespace Go.Proofs.YtnahgfdoiflacaaGreatDoor
open Go.RowKit Go.Lib Go.Shelf

def lowB (b : UInt8) : Bool := decide (97 ≤ b.toNat) && decide (b.toNat ≤ 122)
def BoolPost (b : Bool) (w : World) (e : Ending) (w' : World) : Prop := e = .returned (.bool b) ∧ Below w.heap.size w w'
theorem cell_some_lt {w : World} {b o : Nat} {v : Value} (h : w.cell? ⟨b, o, none⟩ = some v) : b < w.heap.size := by
  rcases Nat.lt_or_ge b w.heap.size with hlt | hge
  · exact hlt
  · simp [World.cell?, Array.getElem?_eq_none hge] at h
theorem blk_cell {w : World} {g : Nat} {t : TypeId} {cs : Array Value} (h : w.heap[g]? = some (.cells cs t (0, 0))) (i : Nat) : w.cell? ⟨g, i, none⟩ = cs[i]? := cell_of_row w g i cs t (0, 0) h
theorem blk_lt {w : World} {g : Nat} {o : Obj} (h : w.heap[g]? = some o) : g < w.heap.size := by
  rcases Nat.lt_or_ge g w.heap.size with hlt | hge
  · exact hlt
  · rw [Array.getElem?_eq_none hge] at h; cases h
theorem Below.next {w w1 w2 : World} (h : Below w.heap.size w w1) (h2 : Below w1.heap.size w1 w2) : Below w.heap.size w w2 := h.trans (h2.mono h.size)

theorem numT_len (u : Nat) (hu : u < 18446744073709551616) : (numT u).data.toList.length ≤ 20 := by
  show (Lib.decDigits u).toArray.toList.length ≤ 20
  rw [List.toList_toArray, Lib.decDigits_length]
  by_cases h1 : 1 ≤ u
  · have := Lib.numDigits_eq u h1 hu
    split at this <;> omega
  · obtain rfl : u = 0 := by omega
    rw [Lib.nDigits_small (by omega)]; omega

theorem info9 : (Tryz.prog.info? 9).map (fun i => (i.zero, i.size, i.bytes)) = some (some (.string ⟨#[]⟩), 1, 16) := by kernel_rfl
theorem und45 : Tryz.prog.underlying 47 = some (.slice 9) := by kernel_rfl
def sCells (xs : List ByteArray) : List Value := xs.map .string

/-- strconv's table lies -/
def Tab (w : World) : Prop := Lib.TabIs Tryz.prog w "internal/strconv.uint64pow10" .u64 Lib.pow10Tab
theorem Tab.below {w w' : World} (h : Tab w) (hb : Below w.heap.size w w') : Tab w' := Lib.tabBelow_of_tabIs h w' hb

/-- what the library's variables hold -/
structure Env (w : World) : Prop where
  tab : Tab w
  sp : Lib.TabIs Tryz.prog w "strings.asciiSpace" .u8 Lib.asciiSpaceTab
theorem Env.below {w w' : World} (h : Env w) (hb : Below w.heap.size w w') : Env w' := ⟨h.tab.below hb, Lib.tabBelow_of_tabIs h.sp w' hb⟩
theorem lens_le (xs : List (List UInt8)) (M : Nat) (h : ∀ x ∈ xs, x.length ≤ M) : Lib.lens xs ≤ xs.length * M := by
  induction xs with
  | nil => simp [Lib.lens]
  | cons x xs ih =>
    have h1 := h x (by simp)
    have h2 := ih fun y hy => h y (by simp [hy])
    have e : Lib.lens (x :: xs) = x.length + Lib.lens xs := by simp [Lib.lens]
    rw [e, List.length_cons, Nat.add_mul, Nat.one_mul]
    omega
def digB (c : UInt8) : Bool := decide (48 ≤ c.toNat) && decide (c.toNat ≤ 57)
def valF (acc : Nat) (l : List UInt8) : Nat := l.foldl (fun a c => a * 10 + (c.toNat - 48)) acc
theorem valF_cons (acc : Nat) (c : UInt8) (l : List UInt8) : valF acc (c :: l) = valF (acc * 10 + (c.toNat - 48)) l := by unfold valF; rw [List.foldl_cons]
theorem valF_snoc (acc : Nat) (l : List UInt8) (c : UInt8) : valF acc (l ++ [c]) = valF acc l * 10 + (c.toNat - 48) := by simp [valF]
theorem valF_ge (l : List UInt8) : ∀ (acc : Nat), acc ≤ valF acc l := by
  induction l with
  | nil => intro acc; exact Nat.le_refl _
  | cons c l ih =>
    intro acc
    rw [valF_cons]
    exact Nat.le_trans (by omega) (ih _)
theorem valF_app (acc : Nat) (l m : List UInt8) : valF acc (l ++ m) = valF (valF acc l) m := by simp [valF]
theorem dig_iff (c : UInt8) : digB c = true ↔ 48 ≤ c.toNat ∧ c.toNat ≤ 57 := by simp [digB]
theorem dig_nat (n : Nat) (h : n < 10) : (UInt8.ofNat (48 + n)).toNat = 48 + n := by rw [UInt8.toNat_ofNat']; omega
theorem dec_val (u : Nat) : valF 0 (decDigits u) = u := by
  rw [decDigits]
  split
  · rename_i h
    show 0 * 10 + ((UInt8.ofNat (48 + u)).toNat - 48) = u
    rw [dig_nat u h]; omega
  · rw [valF_snoc, dec_val (u / 10), dig_nat _ (by omega)]; omega
termination_by u
decreasing_by omega
theorem dec_all (u : Nat) : (decDigits u).all digB = true := by
  rw [decDigits]
  split
  · rename_i h
    simp only [List.all_cons, List.all_nil, Bool.and_true]
    rw [dig_iff, dig_nat u h]; omega
  · rw [List.all_append, dec_all (u / 10)]
    simp only [List.all_cons, List.all_nil, Bool.and_true, Bool.true_and]
    rw [dig_iff, dig_nat _ (by omega)]; omega
termination_by u
decreasing_by omega
theorem dec_ne (u : Nat) : decDigits u ≠ [] := by
  rw [decDigits]
  split <;> simp
theorem dec_head (u : Nat) (hu : 1 ≤ u) : ∀ c, (decDigits u).head? = some c → 49 ≤ c.toNat := by
  rw [decDigits]
  split
  · rename_i h
    intro c hc
    simp only [List.head?_cons, Option.some.injEq] at hc
    rw [← hc, dig_nat u h]; omega
  · intro c hc
    have hne := dec_ne (u / 10)
    refine dec_head (u / 10) (by omega) c ?_
    cases hl : decDigits (u / 10) with
    | nil => exact absurd hl hne
    | cons d r => rw [hl] at hc; simpa using hc
termination_by u
decreasing_by omega
/-- the form of a number -/
def canonB (l : List UInt8) : Bool := decide (0 < l.length) && (decide (l.length ≤ 1) || l.headD 0 != 48) && l.all digB
theorem dec_canon (u : Nat) : canonB (decDigits u) = true := by
  unfold canonB
  rw [dec_all u, Bool.and_true]
  have h0 : 0 < (decDigits u).length := List.length_pos_iff.2 (dec_ne u)
  rw [decide_eq_true h0, Bool.true_and]
  by_cases hu : u < 10
  · rw [decDigits_one hu]; rfl
  · have h1 := dec_head u (by omega)
    cases hl : decDigits u with
    | nil => rw [hl] at h0; simp at h0
    | cons c r =>
      rw [hl] at h1
      have h2 := h1 c rfl
      have : c ≠ 48 := fun e => by subst e; revert h2; decide
      simp [this]
theorem dec_of_canon : ∀ (n : Nat) (l : List UInt8), l.length = n → canonB l = true → decDigits (valF 0 l) = l
  | 0, l, hn, h => by
    have : l = [] := List.length_eq_zero_iff.1 hn
    subst this; cases h
  | n + 1, l, hn, h => by
    have hne : l ≠ [] := fun e => by subst e; cases hn
    obtain ⟨m, c, rfl⟩ : ∃ m c, l = m ++ [c] := ⟨l.dropLast, l.getLast hne, (List.dropLast_concat_getLast hne).symm⟩
    unfold canonB at h
    simp only [Bool.and_eq_true] at h
    obtain ⟨⟨_, h2⟩, h3⟩ := h
    rw [List.all_append, Bool.and_eq_true] at h3
    obtain ⟨h3, h4⟩ := h3
    have hc : digB c = true := by simpa using h4
    have hc' := (dig_iff c).1 hc
    have e48 : UInt8.ofNat (48 + (c.toNat - 48)) = c := by
      have : 48 + (c.toNat - 48) = c.toNat := by omega
      rw [this]; exact UInt8.ofNat_toNat
    rw [valF_snoc]
    cases m with
    | nil =>
      show decDigits (0 * 10 + (c.toNat - 48)) = [c]
      have h9 : 0 * 10 + (c.toNat - 48) < 10 := by omega
      rw [decDigits_one h9]
      simp only [Nat.zero_mul, Nat.zero_add]
      rw [e48]
    | cons d m =>
      have hd48 : d ≠ 48 := by
        rw [Bool.or_eq_true] at h2
        rcases h2 with h5 | h5
        · simp at h5
        · simpa using h5
      have hd := (dig_iff d).1 (by rw [List.all_cons, Bool.and_eq_true] at h3; exact h3.1)
      have hd49 : 49 ≤ d.toNat := by
        rcases Nat.lt_or_ge d.toNat 49 with h6 | h6
        · exfalso; apply hd48
          have : d.toNat = 48 := by omega
          exact UInt8.toNat_inj.1 this
        · exact h6
      have hcan : canonB (d :: m) = true := by
        unfold canonB
        rw [h3]
        simp [hd48]
      have hv : 1 ≤ valF 0 (d :: m) := by
        rw [valF_cons]
        exact Nat.le_trans (by omega) (valF_ge m _)
      have ih := dec_of_canon n (d :: m) (by simpa using hn) hcan
      rw [decDigits, dif_neg (by omega)]
      have e1 : (valF 0 (d :: m) * 10 + (c.toNat - 48)) / 10 = valF 0 (d :: m) := by omega
      have e2 : (valF 0 (d :: m) * 10 + (c.toNat - 48)) % 10 = c.toNat - 48 := by omega
      rw [e1, e2, ih, e48]
theorem numT_toList (u : Nat) : (numT u).toList = decDigits u := by rw [ByteArray.toList_eq]; rfl
theorem size_list (s : ByteArray) : s.data.toList.length = s.size := Array.length_toList
theorem get_list (s : ByteArray) (k : Nat) (hk : k < s.size) : s.data.toList[k]? = some (s[k]'hk) := by
  rw [List.getElem?_eq_getElem (by rw [size_list]; exact hk)]
  exact congrArg some (Array.getElem_toList (xs := s.data) (by exact hk))
theorem take_next (s : ByteArray) (k : Nat) (hk : k < s.size) : s.data.toList.take (k + 1) = s.data.toList.take k ++ [s[k]'hk] := by
  rw [List.take_add_one, get_list s k hk]; rfl
theorem take_val (s : ByteArray) (k : Nat) : valF 0 (s.data.toList.take k) ≤ valF 0 s.data.toList := by
  have h := valF_app 0 (s.data.toList.take k) (s.data.toList.drop k)
  rw [List.take_append_drop] at h
  rw [h]
  exact valF_ge _ _

end Go.Proofs.YtnahgfdoiflacaaGreatDoor

