/- Numbers and their texts (turned by program from the chapter of tokens): strconv.FormatUint; which texts are numbers; the reference's Number. Lists of words: registers' names and their like. Lines: their lengths, their last bytes (plain). -/
import Derived.Test.YtmimmnjdgpdjlaaGreatDoorRows
import Derived.Test.YtmimmnjdgpdjlaaGreatDoorShelf
import Derived.Test.YtmimmnjdgpdjlaaGreatDoorP1
import Derived.WalkKit
import Derived.WalkSpells
import Derived.WalkLawsBesides
import Derived.Laws.BitsAllLaws
import Derived.Lib.Hide
import Derived.Lib.ItoaWalk
import Derived.Lib.ItoaMem
import Derived.Lib.AppendIntMem
import Derived.Below
import Derived.Laws.RangeAny
import Derived.Maps.AppendAt
import Derived.Laws.OwnMore
import Derived.BigQuiet
import Derived.RegionTactic
import Derived.Lib.Join
set_option linter.unusedSimpArgs false
set_option linter.unusedVariables false
namespace Go.Proofs.YtmimmnjdgpdjlaaGreatDoor
open Go.RowKit Go.Sort Go.Lib Go.Shelf

theorem u144 : Tryz.prog.underlying 150 = some (.array 24 5) := by kernel_rfl
theorem u73 : Tryz.prog.underlying 62 = some (.slice 5) := by kernel_rfl
theorem u5 : Tryz.prog.underlying 5 = some (.int .u8) := by kernel_rfl
theorem u9 : Tryz.prog.underlying 9 = some .string := by kernel_rfl
theorem z144 (w : World) : (zeroValue 150).run Tryz.prog w = .ok (.agg Lib.zeros24) w := by kernel_rfl

def StrPost (s : ByteArray) (w : World) (e : Ending) (w' : World) : Prop := e = .returned (.string s) ∧ Below w.heap.size w w'

set_option maxRecDepth 100000 in
set_option maxHeartbeats 2000000 in
theorem fmt82 (u : Nat) (hu64 : u < 18446744073709551616) (w : World) (htab : Lib.TabIs Tryz.prog w "internal/strconv.uint64pow10" .u64 Lib.pow10Tab) :
    Calls Tryz.prog 107 #[.int .u64 u, .int .i64 10] w (StrPost (numT u) w) := by
  by_cases hs : u < 100
  · have hd : decide ((u : Int) < 100) = true := by simp; omega
    have hlt : (u : Int) < 100 := by omega
    have hsm := Lib.hid (Tryz.internal_strconv_small u hs w)
    go_enter Tryz.func107, Tryz.ntmps107
    go_wp2_with fail
    refine hsm.out.mono ?_
    rintro e w1 ⟨rfl, rfl⟩
    go_wp2
    go_ret
    exact ⟨rfl, Below.refl _ _⟩
  · have hu1 : 1 ≤ u := by omega
    have hnd20 : Lib.nDigits u ≤ 20 := by have := Lib.numDigits_eq u hu1 hu64; split at this <;> omega
    have hd : decide ((u : Int) < 100) = false := by simp; omega
    have hge : ¬ ((u : Int) < 100) := by omega
    have hH0 := Lib.holds_zero0 w 150 (Lib.nDigits u) (by omega)
    have hfmt := Lib.hid (Tryz.internal_strconv_formatBase10 w.heap.size 0 24 u (Array.replicate (Lib.nDigits u) 0) (w.alloc (.cells Lib.zeros24 150)) hH0 (by rw [Array.size_replicate]; exact Lib.lt_pow_nDigits u) hu64 (by rw [Array.size_replicate]; omega))
    rw [Array.size_replicate] at hfmt
    have HH0 := Lib.hid hH0
    have hnum := Lib.hid (Tryz.internal_strconv_numDigits u hu1 hu64 (w.alloc (.cells Lib.zeros24 150)) (Lib.tabIs_alloc htab _))
    have hz := z144
    have hal : Tryz.prog.arrayLen 150 = 24 := by simp [Program.arrayLen, u144]
    have hsl : ∀ W, (Instr.sliceAt 150 (.pointer (some ⟨w.heap.size, 0, none⟩)) none (some (.int .i64 (Lib.nDigits u : Int))) none).run Tryz.prog W = .ok (.slice (some ⟨w.heap.size, 0, none⟩) (Lib.nDigits u) 24) W := fun W => by
      rw [run_sliceAt_array_h W 150 ⟨w.heap.size, 0, none⟩ (by simp [Program.arrayLen, Program.elem, u144]) .i64 (Lib.nDigits u : Int) (by omega) (by rw [hal]; omega)]
      go_simp
    clear hal hH0
    go_enter Tryz.func107, Tryz.ntmps107
    go_wp2_with fail
    refine hnum.out.mono ?_
    rintro e w1 ⟨rfl, rfl⟩
    go_wp2_with fail
    refine hfmt.out.mono ?_
    rintro e w1 ⟨rfl, k, v', dk, rfl, hF⟩
    have hcv : (convert 62 9 (.slice (some ⟨w.heap.size, 0, none⟩) (Lib.nDigits u) 24)).run Tryz.prog ((putRow (fun (b : UInt8) => Value.int .u8 (b.toNat : Int)) (w.alloc (.cells Lib.zeros24 150)) w.heap.size 0 dk).drewN k) = .ok (.string ⟨(Lib.decDigits u).toArray⟩) ((putRow (fun (b : UInt8) => Value.int .u8 (b.toNat : Int)) (w.alloc (.cells Lib.zeros24 150)) w.heap.size 0 dk).drewN k) := by
      have h := run_convert_bytes_back (P := Tryz.prog) ((putRow (fun (b : UInt8) => Value.int .u8 (b.toNat : Int)) (w.alloc (.cells Lib.zeros24 150)) w.heap.size 0 dk).drewN k) 62 9 5 ⟨w.heap.size, 0, none⟩ 24 (Lib.decDigits u) u73 u5 u9 (fun j hj => by
        rw [Lib.row_is_numeral hF j hj, Lib.add_plain, World.cell?_drewN]
        exact cell?_putRow (fun (b : UInt8) => Value.int .u8 (b.toNat : Int)) _ w.heap.size 0 _ dk HH0.out (by rw [hF.size, Array.size_replicate]) j (by rw [hF.size]; rw [Lib.decDigits_length] at hj; exact hj))
      rw [Lib.decDigits_length] at h
      exact h
    obtain ⟨os, eo⟩ := Lib.fin_at w (.cells Lib.zeros24 150) dk k 0
    have eo' := Lib.hid eo
    clear eo
    go_wp2
    go_ret
    refine ⟨rfl, ?_⟩
    rw [eo'.out]
    exact Lib.below_grow _ w (Nat.le_refl _) k os
theorem fmtU (u : Nat) (hu64 : u < 18446744073709551616) (w : World) (htab : Lib.TabIs Tryz.prog w "internal/strconv.uint64pow10" .u64 Lib.pow10Tab) :
    Calls Tryz.prog 52 #[.int .u64 u, .int .i64 10] w (StrPost (numT u) w) := by
  have hk := Lib.hid (fmt82 u hu64 w htab)
  go_enter Tryz.func52, Tryz.ntmps52
  go_wp2_with fail
  refine hk.out.mono ?_
  rintro e w1 ⟨rfl, hb⟩
  have hb' := Lib.hid hb
  clear hb
  go_wp2
  go_ret
  exact ⟨rfl, hb'.out⟩
end Go.Proofs.YtmimmnjdgpdjlaaGreatDoor
namespace Go.Proofs.YtmimmnjdgpdjlaaGreatDoor
open Go.RowKit Go.Lib Go.Shelf

def lowB (b : UInt8) : Bool := decide (97 ≤ b.toNat) && decide (b.toNat ≤ 122)
def BoolPost (b : Bool) (w : World) (e : Ending) (w' : World) : Prop := e = .returned (.bool b) ∧ Below w.heap.size w w'
theorem cell_some_lt {w : World} {b o : Nat} {v : Value} (h : w.cell? ⟨b, o, none⟩ = some v) : b < w.heap.size := by
  rcases Nat.lt_or_ge b w.heap.size with hlt | hge
  · exact hlt
  · simp [World.cell?, Array.getElem?_eq_none hge] at h
theorem blk_cell {w : World} {g : Nat} {t : TypeId} {cs : Array Value} (h : w.heap[g]? = some (.cells cs t (0, 0))) (i : Nat) : w.cell? ⟨g, i, none⟩ = cs[i]? := cell_of_row w g i cs t (0, 0) h
theorem blk_lt {w : World} {g : Nat} {o : Obj} (h : w.heap[g]? = some o) : g < w.heap.size := by
  rcases Nat.lt_or_ge g w.heap.size with hlt | hge
  · exact hlt
  · rw [Array.getElem?_eq_none hge] at h; cases h
theorem Below.next {w w1 w2 : World} (h : Below w.heap.size w w1) (h2 : Below w1.heap.size w1 w2) : Below w.heap.size w w2 := h.trans (h2.mono h.size)

theorem info9 : (Tryz.prog.info? 9).map (fun i => (i.zero, i.size, i.bytes)) = some (some (.string ⟨#[]⟩), 1, 16) := by kernel_rfl
theorem und70 : Tryz.prog.underlying 70 = some (.slice 9) := by kernel_rfl
def sCells (xs : List ByteArray) : List Value := xs.map .string

/-- strconv's table lies -/
def Tab (w : World) : Prop := Lib.TabIs Tryz.prog w "internal/strconv.uint64pow10" .u64 Lib.pow10Tab
theorem Tab.below {w w' : World} (h : Tab w) (hb : Below w.heap.size w w') : Tab w' := Lib.tabBelow_of_tabIs h w' hb

theorem lens_le (xs : List (List UInt8)) (M : Nat) (h : ∀ x ∈ xs, x.length ≤ M) : Lib.lens xs ≤ xs.length * M := by
  induction xs with
  | nil => simp [Lib.lens]
  | cons x xs ih =>
    have h1 := h x (by simp)
    have h2 := ih fun y hy => h y (by simp [hy])
    have e : Lib.lens (x :: xs) = x.length + Lib.lens xs := by simp [Lib.lens]
    rw [e, List.length_cons, Nat.add_mul, Nat.one_mul]
    omega
theorem below_bytes (w : World) (s : ByteArray) : Below w.heap.size w (Lib.bytesWorld w 5 s) :=
  ⟨rfl, rfl, rfl, by rw [Lib.bytesWorld_size]; omega, fun j hj => Lib.bytesWorld_at_old w 5 s j hj⟩

end Go.Proofs.YtmimmnjdgpdjlaaGreatDoor
namespace Go.Proofs.YtmimmnjdgpdjlaaGreatDoor
open Go.RowKit Go.Lib Go.Shelf
/-- what the library's variables hold -/
structure Env (w : World) : Prop where
  tab : Tab w
  syn : ∃ ev, w.cell? ⟨8, 0, none⟩ = some ev ∧ (ev = .nilIface ∨ ∃ te pe, ev = .iface te pe)
  rng : ∃ ev, w.cell? ⟨9, 0, none⟩ = some ev ∧ (ev = .nilIface ∨ ∃ te pe, ev = .iface te pe)
  sp : Lib.TabIs Tryz.prog w "strings.asciiSpace" .u8 Lib.asciiSpaceTab
  mx : ∃ m, w.cell? ⟨2, 0, none⟩ = some (.int .i64 m)
theorem Env.below {w w' : World} (h : Env w) (hb : Below w.heap.size w w') : Env w' := by
  refine ⟨h.tab.below hb, ?_, ?_, Lib.tabBelow_of_tabIs h.sp w' hb, ?_⟩
  · obtain ⟨ev, h1, h2⟩ := h.syn
    exact ⟨ev, (hb.cell (p := ⟨8, 0, none⟩) (cell_some_lt h1)).trans h1, h2⟩
  · obtain ⟨ev, h1, h2⟩ := h.rng
    exact ⟨ev, (hb.cell (p := ⟨9, 0, none⟩) (cell_some_lt h1)).trans h1, h2⟩
  · obtain ⟨m, h1⟩ := h.mx
    exact ⟨m, (hb.cell (p := ⟨2, 0, none⟩) (cell_some_lt h1)).trans h1⟩
set_option maxRecDepth 100000 in
set_option maxHeartbeats 1000000 in
theorem digit_any (b : UInt8) (w : World) : Calls Tryz.prog 143 #[.int .u8 (b.toNat : Int)] w fun e w' => e = .returned (.bool (digB b)) ∧ w = w' := by
  unfold digB
  by_cases h1 : 48 ≤ b.toNat
  · have e1 : ((48 : Int) ≤ (b.toNat : Int)) := by omega
    have d1 : decide (48 ≤ b.toNat) = true := by simpa using h1
    have f1 : decide ((48 : Int) ≤ (b.toNat : Int)) = true := by simpa using e1
    by_cases h2 : b.toNat ≤ 57
    · have e2 : ((b.toNat : Int) ≤ 57) := by omega
      have d2 : decide (b.toNat ≤ 57) = true := by simpa using h2
      rw [d1, d2]
      clear d1 d2
      go_enter Tryz.func143, Tryz.ntmps143
      go_wp2
      go_ret
      exact ⟨rfl, rfl⟩
    · have e2 : ¬ ((b.toNat : Int) ≤ 57) := by omega
      have d2 : decide (b.toNat ≤ 57) = false := by simpa using h2
      rw [d1, d2]
      clear d1 d2
      go_enter Tryz.func143, Tryz.ntmps143
      go_wp2
      go_ret
      exact ⟨rfl, rfl⟩
  · have e1 : ¬ ((48 : Int) ≤ (b.toNat : Int)) := by omega
    have d1 : decide (48 ≤ b.toNat) = false := by simpa using h1
    rw [d1]
    clear d1
    go_enter Tryz.func143, Tryz.ntmps143
    go_wp2
    go_ret
    exact ⟨rfl, rfl⟩

def RefNum (s : ByteArray) (w : World) (e : Ending) (w' : World) : Prop := ∃ v er : Int, e = .returned (.tuple #[.int .u64 v, .int .i64 er]) ∧ (numI s = none → er = 15 ∧ v = 0) ∧ (∀ u, numI s = some u → v = u ∧ er = 0) ∧ w = w'

theorem size_list (s : ByteArray) : s.data.toList.length = s.size := Array.length_toList
theorem get_list (s : ByteArray) (k : Nat) (hk : k < s.size) : s.data.toList[k]? = some (s[k]'hk) := by
  rw [List.getElem?_eq_getElem (by rw [size_list]; exact hk)]
  exact congrArg some (Array.getElem_toList (xs := s.data) (by exact hk))
theorem take_next (s : ByteArray) (k : Nat) (hk : k < s.size) : s.data.toList.take (k + 1) = s.data.toList.take k ++ [s[k]'hk] := by
  rw [List.take_add_one, get_list s k hk]; rfl
theorem take_val (s : ByteArray) (k : Nat) : valF 0 (s.data.toList.take k) ≤ valF 0 s.data.toList := by
  have h := valF_app 0 (s.data.toList.take k) (s.data.toList.drop k)
  rw [List.take_append_drop] at h
  rw [h]
  exact valF_ge _ _

set_option maxRecDepth 100000 in
set_option maxHeartbeats 2000000 in
theorem refNumber_any (s : ByteArray) (w : World) (hs : s.size ≤ 2000000) : Calls Tryz.prog 116 #[.string s] w (RefNum s w) := by
  have hB := Lib.hid (show ∀ (k : Nat) (hk : k < s.size) (w : World), Calls Tryz.prog 143 #[.int .u8 ((s[k]'hk).toNat : Int)] w fun e w' => e = .returned (.bool (digB (s[k]'hk))) ∧ w = w' from fun k hk w => digit_any _ w)
  by_cases h1 : s.size < 1
  · have e1 : ((s.size : Int) < 1) := by omega
    have hn := Lib.hid (numI_zero (s := s) (by unfold canonB; rw [size_list]; simp; omega))
    go_enter Tryz.func116, Tryz.ntmps116
    go_wp2
    go_ret2
    exact ⟨0, 15, rfl, fun _ => ⟨rfl, rfl⟩, (fun u h => by rw [hn.out] at h; cases h), rfl⟩
  · have e1 : ¬ ((s.size : Int) < 1) := by omega
    by_cases h2 : 20 < s.size
    · have e2 : (20 : Int) < (s.size : Int) := by omega
      have hn := Lib.hid (numI_long h2)
      go_enter Tryz.func116, Tryz.ntmps116
      go_wp2
      go_ret2
      exact ⟨0, 15, rfl, fun _ => ⟨rfl, rfl⟩, (fun u h => by rw [hn.out] at h; cases h), rfl⟩
    · have e2 : ¬ (20 : Int) < (s.size : Int) := by omega
      have hk0 : 0 < s.size := by omega
      by_cases h3 : 1 < s.size ∧ (s[0]'hk0).toNat = 48
      · have e3 : (1 : Int) < (s.size : Int) := by omega
        have e4 : ((s[0]'hk0).toNat : Int) = 48 := by omega
        have hn := Lib.hid (numI_zero (s := s) (by
          have hg := get_list s 0 hk0
          unfold canonB
          rw [size_list]
          have hh : s.data.toList.headD 0 = 48 := by
            cases hl : s.data.toList with
            | nil => rw [hl] at hg; simp at hg
            | cons c r =>
              rw [hl] at hg
              have : c = s[0]'hk0 := by simpa using hg
              show c = 48
              rw [this]
              exact UInt8.toNat_inj.1 h3.2
          rw [hh]
          have : ¬ s.size ≤ 1 := by omega
          simp [this]))
        go_enter Tryz.func116, Tryz.ntmps116
        go_wp2
        go_ret2
        exact ⟨0, 15, rfl, fun _ => ⟨rfl, rfl⟩, (fun u h => by rw [hn.out] at h; cases h), rfl⟩
      · have hcan : s.data.toList.all digB = true → canonB s.data.toList = true := fun hall => by
          unfold canonB
          rw [hall, Bool.and_true, size_list, decide_eq_true hk0, Bool.true_and]
          by_cases h4 : s.size ≤ 1
          · rw [decide_eq_true h4, Bool.true_or]
          · have h5 : ¬ (s[0]'hk0).toNat = 48 := fun e => h3 ⟨by omega, e⟩
            have hg := get_list s 0 hk0
            cases hl : s.data.toList with
            | nil => rw [hl] at hg; simp at hg
            | cons c r =>
              rw [hl] at hg
              have : c = s[0]'hk0 := by simpa using hg
              have : c ≠ 48 := fun e => h5 (by rw [← this, e]; rfl)
              simp [this]
        have hcan' := Lib.hid hcan
        have key : Calls Tryz.prog 116 #[.string s] w (RefNum s w) := by
          have hpos : 0 < s.size := hk0
          rcases (show ((1 : Int) < (s.size : Int) ∧ ¬ ((s[0]'hk0).toNat : Int) = 48) ∨ (¬ (1 : Int) < (s.size : Int) ∧ True) from by
            by_cases h4 : 1 < s.size
            · exact .inl ⟨by omega, by omega⟩
            · exact .inr ⟨by omega, trivial⟩) with ⟨e3, e4⟩ | ⟨e3, e4⟩
          all_goals clear h3 hcan
          all_goals (
            go_enter Tryz.func116, Tryz.ntmps116
            go_wp2_with fail
            go_loopg [4, 5, 6] s.size (fun g s4 s5 s6 wr => ∃ k n : Nat, k + g = s.size ∧ s5 = .int .i64 k ∧ s4 = .int .u64 n ∧ n = valF 0 (s.data.toList.take k) ∧ n ≤ 18446744073709551615 ∧ (s.data.toList.take k).all digB = true ∧ w = wr)
            case atStart => exact ⟨0, 0, by omega, rfl, rfl, rfl, by omega, rfl, rfl⟩
            case round =>
              obtain ⟨k, n, hkg, rfl, rfl, hn, hn2, hall, rfl⟩ := hrel
              have hn' := Lib.hid hn
              have hall' := Lib.hid hall
              clear hn hall
              cases gk with
              | zero =>
                have e0 : ¬ ((k : Int) < (s.size : Int)) := by omega
                have htk : s.data.toList.take k = s.data.toList := List.take_of_length_le (by rw [size_list]; omega)
                have hv := hn'.out
                have ha := hall'.out
                rw [htk] at hv ha
                have hf := Lib.hid (numI_some (hcan'.out ha) (by omega))
                have hv' := Lib.hid hv
                clear htk hv ha
                go_wp2
                go_ret2
                exact ⟨_, _, rfl, (fun h => by rw [hf.out] at h; cases h), (fun u h => by rw [hf.out] at h; cases h; exact ⟨by rw [hv'.out], rfl⟩), rfl⟩
              | succ g =>
                have e0 : (k : Int) < (s.size : Int) := by omega
                have hk : k < s.size := by omega
                have hd := hB.out k hk w
                have htn := Lib.hid (take_next s k hk)
                cases hdb : digB (s[k]'hk)
                · rw [hdb] at hd
                  have hd' := Lib.hid hd
                  have hf := Lib.hid (numI_zero (s := s) (by
                    unfold canonB
                    have : s.data.toList.all digB = false := by
                      rw [List.all_eq_false]
                      exact ⟨s[k]'hk, List.mem_of_getElem? (get_list s k hk), by simp [hdb]⟩
                    rw [this, Bool.and_false]))
                  clear hd hdb
                  go_wp2_with fail
                  refine hd'.out.mono ?_
                  rintro e w1 ⟨rfl, rfl⟩
                  go_wp2
                  go_ret2
                  exact ⟨0, 15, rfl, fun _ => ⟨rfl, rfl⟩, (fun u h => by rw [hf.out] at h; cases h), rfl⟩
                · rw [hdb] at hd
                  have hd' := Lib.hid hd
                  have hb := (dig_iff (s[k]'hk)).1 hdb
                  have hdb' := Lib.hid hdb
                  clear hd hdb
                  obtain ⟨d, hd⟩ : ∃ d : Nat, (s[k]'hk).toNat = 48 + d := ⟨(s[k]'hk).toNat - 48, by omega⟩
                  have hd9 : d ≤ 9 := by omega
                  have hdZ : ((s[k]'hk).toNat : Int) = 48 + (d : Int) := by omega
                  have w1 : IntKind.u8.wrap (48 + (d : Int) - 48) = (d : Int) := by rw [IntKind.wrap_u8]; omega
                  have hd2 := hd'.out
                  rw [hdZ] at hd2
                  have hd3 := Lib.hid hd2
                  clear hd2
                  go_wp2_with fail
                  refine hd3.out.mono ?_
                  rintro e w1 ⟨rfl, rfl⟩
                  have w2 : IntKind.u64.wrap (18446744073709551615 - (d : Int)) = 18446744073709551615 - (d : Int) := by rw [IntKind.wrap_u64]; omega
                  by_cases hov : (18446744073709551615 - d) / 10 < n
                  · have q1 : ((18446744073709551615 - (d : Int)) / 10 < (n : Int)) := by omega
                    have hf := Lib.hid (numI_over (s := s) (by
                      have h5 := take_val s (k + 1)
                      rw [htn.out, valF_snoc, hd, ← hn'.out] at h5
                      omega))
                    go_wp2
                    go_ret2
                    exact ⟨0, 15, rfl, fun _ => ⟨rfl, rfl⟩, (fun u h => by rw [hf.out] at h; cases h), rfl⟩
                  · have q1 : ¬ ((18446744073709551615 - (d : Int)) / 10 < (n : Int)) := by omega
                    have hov' : n * 10 + d ≤ 18446744073709551615 := by omega
                    go_wp2
                    go_roundg g
                    case measure => omega
                    case rel =>
                      refine ⟨k + 1, n * 10 + d, by omega, by go_num, by go_num, ?_, hov', ?_, rfl⟩
                      · rw [htn.out, valF_snoc, hd, ← hn'.out]; omega
                      · rw [htn.out, List.all_append, hall'.out]
                        simp [hdb'.out])
        exact key

def NumPost (s : ByteArray) (w : World) (e : Ending) (w' : World) : Prop :=
  (numI s = none → e = .returned (.tuple #[.int .u64 0, .int .i64 15])) ∧ (∀ u : Nat, numI s = some u → e = .returned (.tuple #[.int .u64 u, .int .i64 0])) ∧ Below w.heap.size w w'

set_option maxRecDepth 100000 in
set_option maxHeartbeats 1000000 in
theorem number_any (s : ByteArray) (w : World) (hE : Env w) (hs : s.size ≤ 2000000) : Calls Tryz.prog 137 #[.string s] w (NumPost s w) := by
  rcases hp : Lib.parseUintB 64 s.data.toList with u | _ | _
  · have hle := Lib.parseUintB_le hp
    have hu : u < 18446744073709551616 := by omega
    have hk := Lib.hid (Tryz.strconv_ParseUint_10_at64_ok s (by omega) u hp w)
    have hT := Lib.hid hE.tab
    obtain ⟨t, ht⟩ : ∃ t, ((numT u).toList == s.toList) = t := ⟨_, rfl⟩
    have hn : numI s = if t = true then some u else none := by unfold numI; rw [hp]; dsimp only; rw [ht]
    have hn' := Lib.hid hn
    have ht2 : ((numT u).toList != s.toList) = !t := by rw [bne, ht]
    clear hp hE hs hle hn
    go_enter Tryz.func137, Tryz.ntmps137
    go_wp2_with fail
    refine hk.out.mono ?_
    rintro e w1 ⟨rfl, hw1⟩
    have hb1 := Lib.hid (show Below w.heap.size w w1 from by
      rcases hw1 with rfl | rfl
      · exact Below.refl _ _
      · exact below_bytes w s)
    clear hw1
    go_wp2_with fail
    refine (fmtU u hu w1 (hT.out.below hb1.out)).mono ?_
    rintro e w2 ⟨rfl, hb2⟩
    have hb2' := Lib.hid (Below.next hb1.out hb2)
    clear hb2
    cases t
    · go_wp2
      go_ret2
      exact ⟨(fun _ => rfl), (fun v h => by rw [hn'.out] at h; cases h), hb2'.out⟩
    · go_wp2
      go_ret2
      exact ⟨(fun h => by rw [hn'.out] at h; cases h), (fun v h => by rw [hn'.out] at h; cases h; rfl), hb2'.out⟩
  · obtain ⟨ev, h1, h2⟩ := hE.syn
    have hk := Lib.hid (Tryz.strconv_ParseUint_10_at64_syntax s (by omega) hp ev w h1 h2)
    have hn' := Lib.hid (show numI s = none by unfold numI; rw [hp])
    clear hp hE hs h1 h2
    go_enter Tryz.func137, Tryz.ntmps137
    go_wp2_with fail
    refine hk.out.mono ?_
    rintro e w1 ⟨N, rfl, _, _, hb⟩
    have hb' := Lib.hid hb
    clear hb
    go_wp2
    go_ret2
    exact ⟨(fun _ => rfl), (fun v h => by rw [hn'.out] at h; cases h), hb'.out⟩
  · obtain ⟨ev, h1, h2⟩ := hE.rng
    have hk := Lib.hid (Tryz.strconv_ParseUint_10_at64_range s (by omega) hp ev w h1 h2)
    have hn' := Lib.hid (show numI s = none by unfold numI; rw [hp])
    clear hp hE hs h1 h2
    go_enter Tryz.func137, Tryz.ntmps137
    go_wp2_with fail
    refine hk.out.mono ?_
    rintro e w1 ⟨N, rfl, _, _, hb⟩
    have hb' := Lib.hid hb
    clear hb
    go_wp2
    go_ret2
    exact ⟨(fun _ => rfl), (fun v h => by rw [hn'.out] at h; cases h), hb'.out⟩

end Go.Proofs.YtmimmnjdgpdjlaaGreatDoor
namespace Go.Proofs.YtmimmnjdgpdjlaaGreatDoor
open Go.RowKit Go.Lib Go.Shelf

def bt (l : List UInt8) : ByteArray := ⟨l.toArray⟩
theorem bt_list (l : List UInt8) : (bt l).data.toList = l := rfl
theorem ext_bytes {a b : ByteArray} (h : a.data.toList = b.data.toList) : a = b := by
  cases a; cases b
  simp at h
  rw [h]
theorem bt_inj {a b : List UInt8} (h : bt a = bt b) : a = b := by rw [← bt_list a, h, bt_list]
theorem bt_app (a b : List UInt8) : bt a ++ bt b = bt (a ++ b) := ext_bytes (by simp [bt])
theorem bt_data (s : ByteArray) : bt s.data.toList = s := ext_bytes rfl
theorem bt_size (l : List UInt8) : (bt l).size = l.length := by show l.toArray.size = _; simp
theorem ret_bool {a b : Bool} (h : a = b) : Ending.returned (.bool a) = .returned (.bool b) := by rw [h]
def lisC (L : List (List UInt8)) : Array Value := (L.map fun l => Value.string (bt l)).toArray
def LisPost (L : List (List UInt8)) (w : World) (e : Ending) (w' : World) : Prop := e = .returned (.slice (some ⟨w.heap.size, 0, none⟩) L.length L.length) ∧ w' = w.alloc (.cells (lisC L) 9)
theorem lis_cell {w : World} {L : List (List UInt8)} {k : Nat} {x : List UInt8} (h : L[k]? = some x) : (w.alloc (.cells (lisC L) 9)).cell? ⟨w.heap.size, k, none⟩ = some (.string (bt x)) := by
  rw [blk_cell (heap_alloc_new w _)]
  unfold lisC
  rw [List.getElem?_toArray, List.getElem?_map, h]
  rfl
theorem ascii_all {s : ByteArray} (h : s.data.toList.all (fun b => decide (b.toNat < 128)) = true) : ∀ (j : Nat) (b : UInt8), s.data.toList[j]? = some b → b.toNat < 128 := fun j b hb => of_decide_eq_true (List.all_eq_true.1 h b (List.mem_of_getElem? hb))
theorem below_new (w : World) (o : Obj) : Below w.heap.size w (w.alloc o) := (Below.refl _ w).alloc (Nat.le_refl _) o
theorem at_get {L : List (List UInt8)} {k : Nat} (h : k < L.length) : L[k]? = some (atW L (k : Int)) := by
  unfold atW
  rw [Int.toNat_natCast, List.getD_eq_getElem?_getD, List.getElem?_eq_getElem h]
  rfl

theorem words_f : Lib.fields (⟨#[114, 97, 120, 32, 114, 99, 120, 32, 114, 100, 120, 32, 114, 98, 120, 32, 114, 115, 112, 32, 114, 98, 112, 32, 114, 115, 105, 32, 114, 100, 105, 32, 114, 56, 32, 114, 57, 32, 114, 49, 48, 32, 114, 49, 49, 32, 114, 49, 50, 32, 114, 49, 51, 32, 114, 49, 52, 32, 114, 49, 53]⟩ : ByteArray).data.toList = regW := by decide +kernel
theorem words_any (w : World) (hE : Env w) : Calls Tryz.prog 37 #[] w (LisPost regW w) := by
  have hf := Tryz.strings_Fields ⟨#[114, 97, 120, 32, 114, 99, 120, 32, 114, 100, 120, 32, 114, 98, 120, 32, 114, 115, 112, 32, 114, 98, 112, 32, 114, 115, 105, 32, 114, 100, 105, 32, 114, 56, 32, 114, 57, 32, 114, 49, 48, 32, 114, 49, 49, 32, 114, 49, 50, 32, 114, 49, 51, 32, 114, 49, 52, 32, 114, 49, 53]⟩ w (by decide +kernel) (ascii_all (by decide +kernel)) hE.sp
  rw [words_f] at hf
  have hf := Lib.hid hf
  go_enter Tryz.func37, Tryz.ntmps37
  go_wp2_with fail
  refine hf.out.mono ?_
  rintro e w1 ⟨rfl, hw1⟩

  go_wp2
  go_ret
  exact ⟨rfl, rfl⟩
theorem lows_f : Lib.fields (⟨#[97, 108, 32, 99, 108, 32, 100, 108, 32, 98, 108, 32, 115, 112, 108, 32, 98, 112, 108, 32, 115, 105, 108, 32, 100, 105, 108, 32, 114, 56, 98, 32, 114, 57, 98, 32, 114, 49, 48, 98, 32, 114, 49, 49, 98, 32, 114, 49, 50, 98, 32, 114, 49, 51, 98, 32, 114, 49, 52, 98, 32, 114, 49, 53, 98]⟩ : ByteArray).data.toList = lowW := by decide +kernel
theorem lows_any (w : World) (hE : Env w) : Calls Tryz.prog 115 #[] w (LisPost lowW w) := by
  have hf := Tryz.strings_Fields ⟨#[97, 108, 32, 99, 108, 32, 100, 108, 32, 98, 108, 32, 115, 112, 108, 32, 98, 112, 108, 32, 115, 105, 108, 32, 100, 105, 108, 32, 114, 56, 98, 32, 114, 57, 98, 32, 114, 49, 48, 98, 32, 114, 49, 49, 98, 32, 114, 49, 50, 98, 32, 114, 49, 51, 98, 32, 114, 49, 52, 98, 32, 114, 49, 53, 98]⟩ w (by decide +kernel) (ascii_all (by decide +kernel)) hE.sp
  rw [lows_f] at hf
  have hf := Lib.hid hf
  go_enter Tryz.func115, Tryz.ntmps115
  go_wp2_with fail
  refine hf.out.mono ?_
  rintro e w1 ⟨rfl, hw1⟩

  go_wp2
  go_ret
  exact ⟨rfl, rfl⟩
theorem conds_f : Lib.fields (⟨#[111, 32, 110, 111, 32, 98, 32, 97, 101, 32, 101, 32, 110, 101, 32, 98, 101, 32, 97, 32, 115, 32, 110, 115, 32, 112, 32, 110, 112, 32, 108, 32, 103, 101, 32, 108, 101, 32, 103]⟩ : ByteArray).data.toList = cndW := by decide +kernel
theorem conds_any (w : World) (hE : Env w) : Calls Tryz.prog 87 #[] w (LisPost cndW w) := by
  have hf := Tryz.strings_Fields ⟨#[111, 32, 110, 111, 32, 98, 32, 97, 101, 32, 101, 32, 110, 101, 32, 98, 101, 32, 97, 32, 115, 32, 110, 115, 32, 112, 32, 110, 112, 32, 108, 32, 103, 101, 32, 108, 101, 32, 103]⟩ w (by decide +kernel) (ascii_all (by decide +kernel)) hE.sp
  rw [conds_f] at hf
  have hf := Lib.hid hf
  go_enter Tryz.func87, Tryz.ntmps87
  go_wp2_with fail
  refine hf.out.mono ?_
  rintro e w1 ⟨rfl, hw1⟩

  go_wp2
  go_ret
  exact ⟨rfl, rfl⟩
theorem bins_f : Lib.fields (⟨#[97, 100, 100, 113, 32, 97, 100, 99, 113, 32, 115, 117, 98, 113, 32, 115, 98, 98, 113, 32, 97, 110, 100, 113, 32, 111, 114, 113, 32, 120, 111, 114, 113, 32, 105, 109, 117, 108, 113]⟩ : ByteArray).data.toList = binW := by decide +kernel
theorem bins_any (w : World) (hE : Env w) : Calls Tryz.prog 83 #[] w (LisPost binW w) := by
  have hf := Tryz.strings_Fields ⟨#[97, 100, 100, 113, 32, 97, 100, 99, 113, 32, 115, 117, 98, 113, 32, 115, 98, 98, 113, 32, 97, 110, 100, 113, 32, 111, 114, 113, 32, 120, 111, 114, 113, 32, 105, 109, 117, 108, 113]⟩ w (by decide +kernel) (ascii_all (by decide +kernel)) hE.sp
  rw [bins_f] at hf
  have hf := Lib.hid hf
  go_enter Tryz.func83, Tryz.ntmps83
  go_wp2_with fail
  refine hf.out.mono ?_
  rintro e w1 ⟨rfl, hw1⟩

  go_wp2
  go_ret
  exact ⟨rfl, rfl⟩
theorem shifts_f : Lib.fields (⟨#[115, 104, 108, 113, 32, 115, 104, 114, 113, 32, 115, 97, 114, 113, 32, 114, 111, 108, 113, 32, 114, 111, 114, 113]⟩ : ByteArray).data.toList = shfW := by decide +kernel
theorem shifts_any (w : World) (hE : Env w) : Calls Tryz.prog 84 #[] w (LisPost shfW w) := by
  have hf := Tryz.strings_Fields ⟨#[115, 104, 108, 113, 32, 115, 104, 114, 113, 32, 115, 97, 114, 113, 32, 114, 111, 108, 113, 32, 114, 111, 114, 113]⟩ w (by decide +kernel) (ascii_all (by decide +kernel)) hE.sp
  rw [shifts_f] at hf
  have hf := Lib.hid hf
  go_enter Tryz.func84, Tryz.ntmps84
  go_wp2_with fail
  refine hf.out.mono ?_
  rintro e w1 ⟨rfl, hw1⟩

  go_wp2
  go_ret
  exact ⟨rfl, rfl⟩
theorem rwords_any (w : World) : Calls Tryz.prog 38 #[] w (LisPost regW w) := by
  go_enter Tryz.func38, Tryz.ntmps38
  go_wp2
  go_ret
  exact ⟨rfl, rfl⟩
theorem rlows_any (w : World) : Calls Tryz.prog 108 #[] w (LisPost lowW w) := by
  go_enter Tryz.func108, Tryz.ntmps108
  go_wp2
  go_ret
  exact ⟨rfl, rfl⟩
theorem rconds_any (w : World) : Calls Tryz.prog 56 #[] w (LisPost cndW w) := by
  go_enter Tryz.func56, Tryz.ntmps56
  go_wp2
  go_ret
  exact ⟨rfl, rfl⟩
theorem rbins_any (w : World) : Calls Tryz.prog 53 #[] w (LisPost binR w) := by
  go_enter Tryz.func53, Tryz.ntmps53
  go_wp2
  go_ret
  exact ⟨rfl, rfl⟩
theorem rshifts_any (w : World) : Calls Tryz.prog 55 #[] w (LisPost shfR w) := by
  go_enter Tryz.func55, Tryz.ntmps55
  go_wp2
  go_ret
  exact ⟨rfl, rfl⟩
theorem regW_len : regW.length = 16 := rfl
theorem lowW_len : lowW.length = 16 := rfl
theorem atW_le {L : List (List UInt8)} (h : ∀ x ∈ L, x.length ≤ 10) (k : Int) : (atW L k).length ≤ 10 := by
  unfold atW
  rw [List.getD_eq_getElem?_getD]
  cases hk : L[k.toNat]? with
  | none => simp
  | some x => exact h x (List.mem_of_getElem? hk)
theorem regW_le (k : Int) : (atW regW k).length ≤ 10 := atW_le (by decide) k
theorem lowW_le (k : Int) : (atW lowW k).length ≤ 10 := atW_le (by decide) k
theorem cndW_le (k : Int) : (atW cndW k).length ≤ 10 := atW_le (by decide) k
theorem binW_le (k : Int) : (atW binW k).length ≤ 10 := atW_le (by decide) k
theorem shfW_le (k : Int) : (atW shfW k).length ≤ 10 := atW_le (by decide) k
theorem nat16 {r : Int} (h : 0 ≤ r ∧ r ≤ 15) : ∃ k : Nat, r = (k : Int) ∧ k < 16 := ⟨r.toNat, by omega, by omega⟩
theorem app_one (c : UInt8) (l : List UInt8) : (⟨#[c]⟩ : ByteArray) ++ bt l = bt (c :: l) := bt_app [c] l
set_option maxRecDepth 100000 in
theorem reg46_any (r : Int) (h : 0 ≤ r ∧ r ≤ 15) (w : World) (hE : Env w) : Calls Tryz.prog 46 #[.int .i64 r] w (StrPost (bt (regT r)) w) := by
  obtain ⟨k, rfl, hk⟩ := nat16 h
  have hw := Lib.hid (words_any w hE)
  have e1 : (0 : Int) ≤ (k : Int) := by omega
  have e2 : (k : Int) < 16 := by omega
  have hc := lis_cell (w := w) (at_get (L := regW) (k := k) hk)
  have ht := app_one 37 (atW regW (k : Int))
  have hsz : (bt (atW regW (k : Int))).size ≤ 10 := by rw [bt_size]; exact regW_le (k : Int)
  obtain ⟨x, hx⟩ : ∃ x, bt (atW regW (k : Int)) = x := ⟨_, rfl⟩
  rw [hx] at hc ht hsz
  have ht2 := (show _ = bt (regT (k : Int)) from ht)
  clear ht
  clear hx h
  go_enter Tryz.func46, Tryz.ntmps46
  go_wp2_with fail
  refine hw.out.mono ?_
  rintro e w1 ⟨rfl, rfl⟩
  have hl := regW_len
  rw [hl]
  go_wp2
  go_ret
  exact ⟨rfl, below_new _ _⟩
set_option maxRecDepth 100000 in
theorem low130_any (r : Int) (h : 0 ≤ r ∧ r ≤ 15) (w : World) (hE : Env w) : Calls Tryz.prog 130 #[.int .i64 r] w (StrPost (bt (lowT r)) w) := by
  obtain ⟨k, rfl, hk⟩ := nat16 h
  have hw := Lib.hid (lows_any w hE)
  have e1 : (0 : Int) ≤ (k : Int) := by omega
  have e2 : (k : Int) < 16 := by omega
  have hc := lis_cell (w := w) (at_get (L := lowW) (k := k) hk)
  have ht := app_one 37 (atW lowW (k : Int))
  have hsz : (bt (atW lowW (k : Int))).size ≤ 10 := by rw [bt_size]; exact lowW_le (k : Int)
  obtain ⟨x, hx⟩ : ∃ x, bt (atW lowW (k : Int)) = x := ⟨_, rfl⟩
  rw [hx] at hc ht hsz
  have ht2 := (show _ = bt (lowT (k : Int)) from ht)
  clear ht
  clear hx h
  go_enter Tryz.func130, Tryz.ntmps130
  go_wp2_with fail
  refine hw.out.mono ?_
  rintro e w1 ⟨rfl, rfl⟩
  have hl := lowW_len
  rw [hl]
  go_wp2
  go_ret
  exact ⟨rfl, below_new _ _⟩
set_option maxRecDepth 100000 in
theorem rreg47_any (r : Int) (h : 0 ≤ r ∧ r ≤ 15) (w : World) : Calls Tryz.prog 47 #[.int .i64 r] w (StrPost (bt (regT r)) w) := by
  obtain ⟨k, rfl, hk⟩ := nat16 h
  have hw := Lib.hid (rwords_any w)
  have e1 : (0 : Int) ≤ (k : Int) := by omega
  have e2 : (k : Int) < 16 := by omega
  have hc := lis_cell (w := w) (at_get (L := regW) (k := k) hk)
  have ht := app_one 37 (atW regW (k : Int))
  have hsz : (bt (atW regW (k : Int))).size ≤ 10 := by rw [bt_size]; exact regW_le (k : Int)
  obtain ⟨x, hx⟩ : ∃ x, bt (atW regW (k : Int)) = x := ⟨_, rfl⟩
  rw [hx] at hc ht hsz
  have ht2 := (show _ = bt (regT (k : Int)) from ht)
  clear ht
  clear hx h
  go_enter Tryz.func47, Tryz.ntmps47
  go_wp2_with fail
  refine hw.out.mono ?_
  rintro e w1 ⟨rfl, rfl⟩
  have hl := regW_len
  rw [hl]
  go_wp2
  go_ret
  exact ⟨rfl, below_new _ _⟩
set_option maxRecDepth 100000 in
theorem rlow57_any (r : Int) (h : 0 ≤ r ∧ r ≤ 15) (w : World) : Calls Tryz.prog 57 #[.int .i64 r] w (StrPost (bt (lowT r)) w) := by
  obtain ⟨k, rfl, hk⟩ := nat16 h
  have hw := Lib.hid (rlows_any w)
  have e1 : (0 : Int) ≤ (k : Int) := by omega
  have e2 : (k : Int) < 16 := by omega
  have hc := lis_cell (w := w) (at_get (L := lowW) (k := k) hk)
  have ht := app_one 37 (atW lowW (k : Int))
  have hsz : (bt (atW lowW (k : Int))).size ≤ 10 := by rw [bt_size]; exact lowW_le (k : Int)
  obtain ⟨x, hx⟩ : ∃ x, bt (atW lowW (k : Int)) = x := ⟨_, rfl⟩
  rw [hx] at hc ht hsz
  have ht2 := (show _ = bt (lowT (k : Int)) from ht)
  clear ht
  clear hx h
  go_enter Tryz.func57, Tryz.ntmps57
  go_wp2_with fail
  refine hw.out.mono ?_
  rintro e w1 ⟨rfl, rfl⟩
  have hl := lowW_len
  rw [hl]
  go_wp2
  go_ret
  exact ⟨rfl, below_new _ _⟩
def RegPost (r : Int) (w : World) (e : Ending) (w' : World) : Prop := e = .returned (.tuple #[.string (if regB r then bt (atW regW r) else ⟨#[]⟩), .bool (regB r)]) ∧ Below w.heap.size w w'

set_option maxRecDepth 100000 in
theorem reg20_any (r : Int) (w : World) (hE : Env w) : Calls Tryz.prog 20 #[.int .i64 r] w (RegPost r w) := by
  unfold RegPost
  by_cases h : 0 ≤ r ∧ r ≤ 15
  · have hb : regB r = true := by unfold regB; simp [h]
    rw [hb]
    obtain ⟨k, rfl, hk⟩ := nat16 h
    have hw := Lib.hid (words_any w hE)
    have e1 : ¬ (k : Int) < 0 := by omega
    have e2 : (k : Int) < 16 := by omega
    have e3 : ¬ (15 : Int) < (k : Int) := by omega
    have e4 : (0 : Int) ≤ (k : Int) := by omega
    have hc := lis_cell (w := w) (at_get (L := regW) (k := k) hk)
    obtain ⟨x, hx⟩ : ∃ x, bt (atW regW (k : Int)) = x := ⟨_, rfl⟩
    rw [hx] at hc
    rw [show (if true = true then bt (atW regW (k : Int)) else ⟨#[]⟩) = x from hx]
    clear hx h hb
    go_enter Tryz.func20, Tryz.ntmps20
    go_wp2_with fail
    refine hw.out.mono ?_
    rintro e w1 ⟨rfl, rfl⟩
    rw [regW_len]
    go_wp2
    go_ret2
    exact ⟨rfl, below_new _ _⟩
  · have hb : regB r = false := by unfold regB; rw [← Bool.not_eq_true]; simp; omega
    rw [hb]
    rcases (show r < 0 ∨ ¬ r < 0 ∧ 15 < r by omega) with e1 | ⟨e1, e2⟩
    all_goals
      clear h hb
      go_enter Tryz.func20, Tryz.ntmps20
      go_wp2
      go_ret2
      exact ⟨rfl, Below.refl _ _⟩

set_option maxRecDepth 100000 in
theorem rreg21_any (r : Int) (w : World) : Calls Tryz.prog 21 #[.int .i64 r] w (RegPost r w) := by
  unfold RegPost
  by_cases h : 0 ≤ r ∧ r ≤ 15
  · have hb : regB r = true := by unfold regB; simp [h]
    rw [hb]
    obtain ⟨k, rfl, hk⟩ := nat16 h
    have hw := Lib.hid (rwords_any w)
    have e1 : ¬ (k : Int) < 0 := by omega
    have e2 : (k : Int) < 16 := by omega
    have e3 : ¬ (15 : Int) < (k : Int) := by omega
    have e4 : (0 : Int) ≤ (k : Int) := by omega
    have hc := lis_cell (w := w) (at_get (L := regW) (k := k) hk)
    obtain ⟨x, hx⟩ : ∃ x, bt (atW regW (k : Int)) = x := ⟨_, rfl⟩
    rw [hx] at hc
    rw [show (if true = true then bt (atW regW (k : Int)) else ⟨#[]⟩) = x from hx]
    clear hx h hb
    go_enter Tryz.func21, Tryz.ntmps21
    go_wp2_with fail
    refine hw.out.mono ?_
    rintro e w1 ⟨rfl, rfl⟩
    rw [regW_len]
    go_wp2
    go_ret2
    exact ⟨rfl, below_new _ _⟩
  · have hb : regB r = false := by unfold regB; rw [← Bool.not_eq_true]; simp; omega
    rw [hb]
    rcases (show r < 0 ∨ ¬ r < 0 ∧ 15 < r by omega) with e1 | ⟨e1, e2⟩
    all_goals
      clear h hb
      go_enter Tryz.func21, Tryz.ntmps21
      go_wp2
      go_ret2
      exact ⟨rfl, Below.refl _ _⟩
theorem below_grown {w : World} {k : Nat} {os : Array Obj} : Below w.heap.size w (Go.Sort.grow (w.drewN k) os) := Lib.below_grow _ w (Nat.le_refl _) k os
theorem wrap_i64 (n : Int) : IntKind.wrap .i64 n = if n % 18446744073709551616 ≥ 9223372036854775808 then n % 18446744073709551616 - 18446744073709551616 else n % 18446744073709551616 := by
  unfold IntKind.wrap
  simp [IntKind.bits, IntKind.signed]
theorem wrap_i32 (n : Int) : IntKind.wrap .i32 n = if n % 4294967296 ≥ 2147483648 then n % 4294967296 - 4294967296 else n % 4294967296 := by
  unfold IntKind.wrap
  simp [IntKind.bits, IntKind.signed]
theorem wrap_u64 (n : Int) : IntKind.wrap .u64 n = n % 18446744073709551616 := by
  unfold IntKind.wrap
  simp [IntKind.bits, IntKind.signed]
theorem wrap_sgn (x : Nat) (hx : x < 18446744073709551616) : IntKind.wrap .i64 (x : Int) = sgn x := by
  rw [wrap_i64]
  unfold sgn
  split <;> split <;> omega
theorem dec_len (u : Nat) (hu : u < 18446744073709551616) : (Lib.decDigits u).length ≤ 20 := numT_len u hu
theorem itoa_len (n : Int) (h0 : -9223372036854775808 ≤ n) (h1 : n ≤ 9223372036854775807) : (Lib.itoa n).length ≤ 21 := by
  unfold Lib.itoa
  split
  · have := dec_len n.natAbs (by omega); simp; omega
  · have := dec_len n.toNat (by omega); omega
theorem sgn_range (x : Nat) (hx : x < 18446744073709551616) : -9223372036854775808 ≤ sgn x ∧ sgn x ≤ 9223372036854775807 := by unfold sgn; split <;> omega
set_option maxRecDepth 100000 in
theorem imm129_any (x : Nat) (hx : x < 18446744073709551616) (w : World) (hE : Env w) : Calls Tryz.prog 129 #[.int .u64 x] w (StrPost (bt (immT x)) w) := by
  have hr := sgn_range x hx
  have hf := Tryz.strconv_FormatInt_10 (sgn x) hr.1 hr.2 w hE.tab
  have hsz : (bt (Lib.itoa (sgn x))).size ≤ 30 := by rw [bt_size]; have := itoa_len (sgn x) hr.1 hr.2; omega
  have ht := app_one 36 (Lib.itoa (sgn x))
  have hf := show Calls Tryz.prog 45 #[.int .i64 (sgn x), .int .i64 10] w fun e w' => e = .returned (.string (bt (Lib.itoa (sgn x)))) ∧ ∃ k os, w' = Go.Sort.grow (w.drewN k) os from hf
  have hwr := wrap_sgn x hx
  have ht2 := (show _ = bt (immT x) from ht)
  obtain ⟨n, hn⟩ : ∃ n, sgn x = n := ⟨_, rfl⟩
  obtain ⟨s, hs⟩ : ∃ s, bt (Lib.itoa (sgn x)) = s := ⟨_, rfl⟩
  rw [hs] at hf hsz ht2
  rw [hn] at hf hwr
  have hf := Lib.hid hf
  clear hn hs ht hr
  go_enter Tryz.func129, Tryz.ntmps129
  go_wp2_with fail
  refine hf.out.mono ?_
  rintro e w1 ⟨rfl, k, os, rfl⟩
  go_wp2
  go_ret
  exact ⟨rfl, below_grown⟩
set_option maxRecDepth 100000 in
theorem label100_any (n : Int) (h0 : -9223372036854775808 ≤ n) (h1 : n ≤ 9223372036854775807) (w : World) (hE : Env w) : Calls Tryz.prog 100 #[.int .i64 n] w (StrPost (bt (lblT n)) w) := by
  have hf := Tryz.strconv_Itoa n h0 h1 w hE.tab
  have hsz : (bt (Lib.itoa n)).size ≤ 30 := by rw [bt_size]; have := itoa_len n h0 h1; omega
  have ht2 := show _ = bt (lblT n) from app_one 76 (Lib.itoa n)
  have hf := show Calls Tryz.prog 51 #[.int .i64 n] w fun e w' => e = .returned (.string (bt (Lib.itoa n))) ∧ ∃ k os, w' = Go.Sort.grow (w.drewN k) os from hf
  obtain ⟨s, hs⟩ : ∃ s, bt (Lib.itoa n) = s := ⟨_, rfl⟩
  rw [hs] at hf hsz ht2
  have hf := Lib.hid hf
  clear hs
  go_enter Tryz.func100, Tryz.ntmps100
  go_wp2_with fail
  refine hf.out.mono ?_
  rintro e w1 ⟨rfl, k, os, rfl⟩
  go_wp2
  go_ret
  exact ⟨rfl, below_grown⟩
theorem immT_pos {x : Nat} (h : x < 9223372036854775808) : immT x = 36 :: Lib.decDigits x := by
  unfold immT sgn
  rw [if_pos h, Lib.itoa_nonneg]
theorem immT_neg {x : Nat} (h : 9223372036854775808 ≤ x) (hx : x < 18446744073709551616) : immT x = 36 :: 45 :: Lib.decDigits (18446744073709551616 - x) := by
  unfold immT
  rw [sgn_neg h hx, Lib.itoa_neg _ (by omega)]
set_option maxRecDepth 100000 in
theorem rimm54_any (x : Nat) (hx : x < 18446744073709551616) (w : World) (hE : Env w) : Calls Tryz.prog 54 #[.int .u64 x] w (StrPost (bt (immT x)) w) := by
  by_cases h : x < 9223372036854775808
  · have e1 : ¬ (9223372036854775808 : Int) ≤ (x : Int) := by omega
    have hf := fmtU x hx w hE.tab
    have hsz : (numT x).size ≤ 30 := by have := numT_len x hx; rw [size_list] at this; omega
    have ht2 : (⟨#[36]⟩ : ByteArray) ++ numT x = bt (immT x) := by rw [immT_pos h]; exact app_one 36 _
    obtain ⟨s, hs⟩ : ∃ s, numT x = s := ⟨_, rfl⟩
    rw [hs] at hf hsz ht2
    have hf := Lib.hid hf
    clear hs
    go_enter Tryz.func54, Tryz.ntmps54
    go_wp2_with fail
    refine hf.out.mono ?_
    rintro e w1 ⟨rfl, hb⟩
    have hb := Lib.hid hb
    go_wp2
    go_ret
    exact ⟨rfl, hb.out⟩
  · have e1 : (9223372036854775808 : Int) ≤ (x : Int) := by omega
    have hneg : IntKind.wrap .u64 (-(x : Int)) = ((18446744073709551616 - x : Nat) : Int) := by rw [wrap_u64]; omega
    have hf := fmtU (18446744073709551616 - x) (by omega) w hE.tab
    have hsz : (numT (18446744073709551616 - x)).size ≤ 30 := by have := numT_len (18446744073709551616 - x) (by omega); rw [size_list] at this; omega
    have ht2 : (⟨#[36, 45]⟩ : ByteArray) ++ numT (18446744073709551616 - x) = bt (immT x) := by rw [immT_neg (by omega) hx]; exact bt_app [36, 45] _
    obtain ⟨m, hm⟩ : ∃ m, 18446744073709551616 - x = m := ⟨_, rfl⟩
    rw [hm] at hf hsz ht2 hneg
    obtain ⟨s, hs⟩ : ∃ s, numT m = s := ⟨_, rfl⟩
    rw [hs] at hf hsz ht2
    have hf := Lib.hid hf
    clear hs hm
    go_enter Tryz.func54, Tryz.ntmps54
    go_wp2_with fail
    refine hf.out.mono ?_
    rintro e w1 ⟨rfl, hb⟩
    have hb := Lib.hid hb
    go_wp2
    go_ret
    exact ⟨rfl, hb.out⟩
theorem creg_any (r : Int) (w : World) : Calls Tryz.prog 123 #[.int .i64 r] w fun e w' => e = .returned (.bool (regB r)) ∧ w = w' := by
  unfold regB
  by_cases h1 : 0 ≤ r
  · by_cases h2 : r ≤ 15
    · rw [decide_eq_true h1, decide_eq_true h2]
      go_enter Tryz.func123, Tryz.ntmps123
      go_wp2
      go_ret
      exact ⟨rfl, rfl⟩
    · rw [decide_eq_true h1, decide_eq_false h2]
      go_enter Tryz.func123, Tryz.ntmps123
      go_wp2
      go_ret
      exact ⟨rfl, rfl⟩
  · rw [decide_eq_false h1]
    go_enter Tryz.func123, Tryz.ntmps123
    go_wp2
    go_ret
    exact ⟨rfl, rfl⟩
theorem short_wrap (x : Nat) (hx : x < 18446744073709551616) : (IntKind.u64.wrap (RowKit.wrap64 (RowKit.wrap32 (x : Int))) == (x : Int)) = shortN x := by
  rw [wrap_u64]
  unfold shortN RowKit.wrap64 RowKit.wrap32
  rw [Bool.eq_iff_iff]
  simp only [beq_iff_eq, Bool.or_eq_true, Bool.and_eq_true, decide_eq_true_eq]
  omega
theorem short125_any (x : Nat) (hx : x < 18446744073709551616) (w : World) : Calls Tryz.prog 125 #[.int .u64 x] w fun e w' => e = .returned (.bool (shortN x)) ∧ w = w' := by
  have hs := short_wrap x hx
  obtain ⟨b, hb⟩ : ∃ b, shortN x = b := ⟨_, rfl⟩
  rw [hb] at hs ⊢
  clear hb
  go_enter Tryz.func125, Tryz.ntmps125
  go_wp2
  go_ret
  exact ⟨rfl, rfl⟩
theorem rshort50_any (x : Nat) (hx : x < 18446744073709551616) (w : World) : Calls Tryz.prog 50 #[.int .u64 x] w fun e w' => e = .returned (.bool (shortN x)) ∧ w = w' := by
  by_cases h1 : x < 2147483648
  · have e1 : (x : Int) < 2147483648 := by omega
    have hs : shortN x = true := by unfold shortN; simp [h1]
    rw [hs]
    clear hs
    go_enter Tryz.func50, Tryz.ntmps50
    go_wp2
    go_ret
    exact ⟨rfl, rfl⟩
  · have e1 : ¬ (x : Int) < 2147483648 := by omega
    by_cases h2 : 18446744071562067968 ≤ x
    · have e2 : (18446744071562067968 : Int) ≤ (x : Int) := by omega
      have hs : shortN x = true := by unfold shortN; simp [h2, hx]
      rw [hs]
      clear hs
      go_enter Tryz.func50, Tryz.ntmps50
      go_wp2
      go_ret
      exact ⟨rfl, rfl⟩
    · have e2 : ¬ (18446744071562067968 : Int) ≤ (x : Int) := by omega
      have hs : shortN x = false := by unfold shortN; simp [h1, h2]
      rw [hs]
      clear hs
      go_enter Tryz.func50, Tryz.ntmps50
      go_wp2
      go_ret
      exact ⟨rfl, rfl⟩
/-! Unreg -/
def idxI (L : List (List UInt8)) (s : List UInt8) : Int := match idxW L s with | some k => (k : Int) | none => -1
theorem bt_beq (a : List UInt8) (s : ByteArray) : (bt a = s) ↔ a = s.data.toList := ⟨fun h => by rw [← h]; rfl, fun h => by rw [h]; exact bt_data s⟩
theorem idxFrom_W (s : ByteArray) : ∀ (L : List (List UInt8)) (i : Nat), Lib.idxFromS (L.map bt) s i = match idxW L s.data.toList with | some k => ((i + k : Nat) : Int) | none => -1
  | [], i => rfl
  | x :: L, i => by
    have ih := idxFrom_W s L (i + 1)
    rw [List.map_cons, Lib.idxFromS, idxW, ih]
    by_cases h : x = s.data.toList
    · rw [if_pos h]
      simp [(bt_beq x s).2 h]
    · rw [if_neg h]
      have hb : ¬ bt x = s := fun e => h ((bt_beq x s).1 e)
      cases hk : idxW L s.data.toList with
      | none => simp [hb]
      | some k =>
        rw [if_neg hb]
        show ((i + 1 + k : Nat) : Int) = ((i + (k + 1) : Nat) : Int)
        omega
theorem idxOf_W (L : List (List UInt8)) (s : ByteArray) : Lib.idxOfS (L.map bt) s = idxI L s.data.toList := by
  unfold Lib.idxOfS idxI
  rw [idxFrom_W]
  cases idxW L s.data.toList <;> simp
theorem idx_words (L : List (List UInt8)) (n : Nat) (hn : L.length = n) (hb : n ≤ 100) (s : ByteArray) (w : World) : Calls Tryz.prog 36 #[.slice (some ⟨w.heap.size, 0, none⟩) n n, .string s] (w.alloc (.cells (lisC L) 9)) fun e w' => e = .returned (.int .i64 (idxI L s.data.toList)) ∧ w' = w.alloc (.cells (lisC L) 9) := by
  have h := Tryz.slices_Index_string w.heap.size 0 n n (L.map bt) s (w.alloc (.cells (lisC L) 9)) (by rw [List.length_map]; omega) (by omega) (fun j hj => by
    rw [List.length_map] at hj
    rw [Nat.zero_add, lis_cell (List.getElem?_eq_getElem hj)]
    rw [List.getD_eq_getElem?_getD, List.getElem?_map, List.getElem?_eq_getElem hj]
    rfl)
  rw [List.take_of_length_le (by rw [List.length_map]; omega), idxOf_W] at h
  exact h
def UnregPost (s : ByteArray) (w : World) (e : Ending) (w' : World) : Prop := e = .returned (.tuple #[.int .i64 ((idxW regW s.data.toList).getD 0 : Nat), .bool (idxW regW s.data.toList).isSome]) ∧ Below w.heap.size w w'
set_option maxRecDepth 100000 in
theorem unreg13_any (s : ByteArray) (w : World) (hE : Env w) : Calls Tryz.prog 13 #[.string s] w (UnregPost s w) := by
  have hw := Lib.hid (words_any w hE)
  have hi := idx_words regW 16 rfl (by omega) s w
  unfold UnregPost idxI at *
  cases hx : idxW regW s.data.toList with
  | none =>
    rw [hx] at hi
    dsimp only at hi
    have hi := Lib.hid hi
    clear hx
    go_enter Tryz.func13, Tryz.ntmps13
    go_wp2_with fail
    refine hw.out.mono ?_
    rintro e w1 ⟨rfl, rfl⟩
    rw [regW_len]
    go_wp2_with fail
    refine hi.out.mono ?_
    rintro e w1 ⟨rfl, rfl⟩
    go_wp2
    go_ret2
    exact ⟨rfl, below_new _ _⟩
  | some k =>
    rw [hx] at hi
    dsimp only at hi
    have hi := Lib.hid hi
    have e1 : (0 : Int) ≤ (k : Int) := by omega
    have e2 : max (0 : Int) (k : Int) = (k : Int) := by omega
    clear hx
    go_enter Tryz.func13, Tryz.ntmps13
    go_wp2_with fail
    refine hw.out.mono ?_
    rintro e w1 ⟨rfl, rfl⟩
    rw [regW_len]
    go_wp2_with fail
    refine hi.out.mono ?_
    rintro e w1 ⟨rfl, rfl⟩
    go_wp2
    go_ret2
    exact ⟨rfl, below_new _ _⟩

theorem idxW_step {L : List (List UInt8)} {s x : List UInt8} {k : Nat} (hx : L[k]? = some x) (hno : ∀ (j : Nat) (y : List UInt8), j < k → L[j]? = some y → y ≠ s) (h : x = s) : idxW L s = some k := by
  induction L generalizing k with
  | nil => simp at hx
  | cons y L ih =>
    cases k with
    | zero =>
      simp at hx
      rw [idxW, if_pos (by rw [hx, h])]
    | succ k =>
      have h0 := hno 0 y (by omega) rfl
      rw [idxW, if_neg h0, ih (by simpa using hx) (fun j z hj hz => hno (j + 1) z (by omega) (by simpa using hz))]
      rfl
theorem idxW_none {L : List (List UInt8)} {s : List UInt8} (hno : ∀ (j : Nat) (y : List UInt8), L[j]? = some y → y ≠ s) : idxW L s = none := by
  induction L with
  | nil => rfl
  | cons y L ih =>
    rw [idxW, if_neg (hno 0 y rfl), ih (fun j z hz => hno (j + 1) z (by simpa using hz))]
    rfl
theorem toList_beq (a : List UInt8) (s : ByteArray) : ((bt a).toList == s.toList) = decide (a = s.data.toList) := by
  rw [ByteArray.toList_eq, ByteArray.toList_eq, bt_list]
  by_cases h : a = s.data.toList <;> simp [h]
set_option maxRecDepth 100000 in
set_option maxHeartbeats 1000000 in
theorem runreg14_any (s : ByteArray) (w : World) : Calls Tryz.prog 14 #[.string s] w (UnregPost s w) := by
  have hw := Lib.hid (rwords_any w)
  unfold UnregPost
  have hb0 := Lib.hid (below_new w (.cells (lisC regW) 9))
  go_enter Tryz.func14, Tryz.ntmps14
  go_wp2_with fail
  refine hw.out.mono ?_
  rintro e w1 ⟨rfl, rfl⟩
  rw [regW_len]
  go_wp2_with fail
  go_loopg [5] 16 (fun g s5 wr => ∃ k : Nat, k + g = 16 ∧ s5 = .int .i64 k ∧ (∀ (j : Nat) (y : List UInt8), j < k → regW[j]? = some y → y ≠ s.data.toList) ∧ w.alloc (.cells (lisC regW) 9) = wr)
  case atStart => exact ⟨0, by omega, rfl, fun j y h => absurd h (by omega), rfl⟩
  case round =>
    obtain ⟨k, hkg, rfl, hno, rfl⟩ := hrel
    have hno := Lib.hid hno
    cases gk with
    | zero =>
      have e0 : ¬ ((k : Int) < 16) := by omega
      have hfin := Lib.hid (show idxW regW s.data.toList = none from idxW_none fun j y hy => hno.out j y (by have := (List.getElem?_eq_some_iff.1 hy).1; have h16 : regW.length = 16 := rfl; omega) hy)
      go_wp2
      go_ret2
      exact ⟨by rw [hfin.out]; rfl, hb0.out⟩
    | succ g2 =>
      have hk : k < 16 := by omega
      have e0 : (k : Int) < 16 := by omega
      have hx := at_get (L := regW) (k := k) hk
      have cx := lis_cell (w := w) hx
      obtain ⟨x, hxe⟩ : ∃ x, atW regW (k : Int) = x := ⟨_, rfl⟩
      rw [hxe] at hx cx
      have heq := toList_beq x s
      have hx := Lib.hid hx
      by_cases hxs : x = s.data.toList
      · have hfin := Lib.hid (idxW_step hx.out hno.out hxs)
        rw [decide_eq_true hxs] at heq
        clear hxs hxe
        go_wp2
        go_ret2
        exact ⟨by rw [hfin.out]; rfl, hb0.out⟩
      · rw [decide_eq_false hxs] at heq
        have hxs := Lib.hid hxs
        clear hxe
        go_wp2
        go_roundg g2
        case measure => omega
        case rel =>
          refine ⟨k + 1, by omega, by go_num, fun j y hj hy => ?_, rfl⟩
          rcases Nat.lt_or_ge j k with h | h
          · exact hno.out j y h hy
          · obtain rfl : j = k := by omega
            rw [hx.out] at hy
            cases hy
            exact hxs.out
/-! addresses that may be -/
theorem short_disp (dp : Int) (h0 : -9223372036854775808 ≤ dp) (h1 : dp ≤ 9223372036854775807) : ∃ y : Nat, IntKind.wrap .u64 dp = (y : Int) ∧ y < 18446744073709551616 ∧ shortN y = shortI dp := by
  refine ⟨(dp % 18446744073709551616).toNat, by rw [wrap_u64]; omega, by omega, ?_⟩
  unfold shortN shortI
  rw [Bool.eq_iff_iff]
  simp only [Bool.or_eq_true, Bool.and_eq_true, decide_eq_true_eq]
  omega
def adV (ba ix : Int) (hb hi : Bool) (dp : Int) : Value := .agg #[.int .i64 ba, .int .i64 ix, .bool hb, .bool hi, .int .i64 dp]
theorem beq_no {a b : Int} (h : a ≠ b) : (a == b) = false := by simp [h]
theorem beq_yes {a b : Int} (h : a = b) : (a == b) = true := by simp [h]

end Go.Proofs.YtmimmnjdgpdjlaaGreatDoor
namespace Go.Proofs.YtmimmnjdgpdjlaaGreatDoor
open Go.RowKit Go.Lib

theorem regT_le (r : Int) : (regT r).length ≤ 11 := by unfold regT; have := regW_le r; simp; omega
theorem lowT_le (r : Int) : (lowT r).length ≤ 11 := by unfold lowT; have := lowW_le r; simp; omega
theorem immT_le (n : Nat) (h : n < 18446744073709551616) : (immT n).length ≤ 22 := by unfold immT; have := itoa_len (sgn n) (sgn_range n h).1 (sgn_range n h).2; simp; omega
theorem lblT_le (n : Int) (h : 0 ≤ n ∧ n ≤ 1048576) : (lblT n).length ≤ 22 := by unfold lblT; have := itoa_len n (by omega) (by omega); simp; omega
theorem addrT_le (ba ix : Int) (hb hi : Bool) (dp : Int) (h0 : -9223372036854775808 ≤ dp) (h1 : dp ≤ 9223372036854775807) : (addrT ba ix hb hi dp).length ≤ 60 := by
  have h2 := itoa_len dp h0 h1
  have h3 := regT_le ba
  have h4 := regT_le ix
  unfold addrT
  by_cases hd : dp = 0 <;> cases hb <;> cases hi <;> simp [hd] <;> (try rw [hd] at h2) <;> omega
theorem dp_rng {ba ix dp : Int} {hb hi : Bool} (h : addrB ba ix hb hi dp = true) : -9223372036854775808 ≤ dp ∧ dp ≤ 9223372036854775807 := by
  obtain ⟨_, _, _, _, _, h5, h6⟩ := addr_parts h
  omega
/-- the operands: at most two, none long; the last has a byte, and no blank -/
theorem ops_plain {i : In} (h : Form i) (hl : i.op ≠ 19) (hr : i.op ≠ 20) : (opsT i).length ≤ 2 ∧ (∀ x ∈ opsT i, x.length ≤ 60) ∧ ∃ p q, opsT i = p ++ [q] ∧ q ≠ [] ∧ noSp q := by
  have two : ∀ a b : List UInt8, a.length ≤ 60 → b.length ≤ 60 → b ≠ [] → noSp b → ([a, b] : List (List UInt8)).length ≤ 2 ∧ (∀ x ∈ [a, b], x.length ≤ 60) ∧ ∃ p q, [a, b] = p ++ [q] ∧ q ≠ [] ∧ noSp q :=
    fun a b ha hb h1 h2 => ⟨by simp, fun x hx => by rcases List.mem_cons.1 hx with rfl | hx; exact ha; rw [List.mem_singleton.1 hx]; exact hb, [a], b, rfl, h1, h2⟩
  have one : ∀ a : List UInt8, a.length ≤ 60 → a ≠ [] → noSp a → ([a] : List (List UInt8)).length ≤ 2 ∧ (∀ x ∈ [a], x.length ≤ 60) ∧ ∃ p q, [a] = p ++ [q] ∧ q ≠ [] ∧ noSp q :=
    fun a ha h1 h2 => ⟨by simp, fun x hx => by rw [List.mem_singleton.1 hx]; exact ha, [], a, rfl, h1, h2⟩
  have R : ∀ r, (regT r).length ≤ 60 := fun r => Nat.le_trans (regT_le r) (by omega)
  have L : ∀ r, (lowT r).length ≤ 60 := fun r => Nat.le_trans (lowT_le r) (by omega)
  cases h with
  | two op d s ho hd hs => rcases ho with rfl | rfl | rfl | rfl <;> first | exact two _ _ (R s) (R d) (reg_ne d) (reg_sp hd) | exact two _ _ (L s) (R d) (reg_ne d) (reg_sp hd)
  | set d n hd hn => exact two _ _ (by have := dec_len n hn; simp; omega) (R d) (reg_ne d) (reg_sp hd)
  | load d ba ix hb hi dp hd ha => exact two _ _ (addrT_le _ _ _ _ _ (dp_rng ha).1 (dp_rng ha).2) (R d) (reg_ne d) (reg_sp hd)
  | store s ba ix hb hi dp hs ha => exact two _ _ (R s) (addrT_le _ _ _ _ _ (dp_rng ha).1 (dp_rng ha).2) (addr_ne _ _ _ _ _) (addr_sp ha)
  | bin b d s hb hd hs => exact two _ _ (R s) (R d) (reg_ne d) (reg_sp hd)
  | binI b d n hb hd hn => exact two _ _ (Nat.le_trans (immT_le n (shortN_lt hn)) (by omega)) (R d) (reg_ne d) (reg_sp hd)
  | shf h d hh hd => exact two _ _ (by simp) (R d) (reg_ne d) (reg_sp hd)
  | shfI h d n hh hd hn => exact two _ _ (Nat.le_trans (immT_le n (by omega)) (by omega)) (R d) (reg_ne d) (reg_sp hd)
  | one op d ho hd => rcases ho with rfl | rfl <;> exact one _ (R d) (reg_ne d) (reg_sp hd)
  | cmpI d n hd hn => exact two _ _ (Nat.le_trans (immT_le n (shortN_lt hn)) (by omega)) (R d) (reg_ne d) (reg_sp hd)
  | setc c d hc hd => exact one _ (L d) (low_ne d) (low_sp hd)
  | movc c d s hc hd hs => exact two _ _ (R s) (R d) (reg_ne d) (reg_sp hd)
  | jump n hn => exact one _ (Nat.le_trans (lblT_le n hn) (by omega)) (lbl_ne n) (fun b hb => (lbl_chars n b hb).1)
  | brc c n hc hn => exact one _ (Nat.le_trans (lblT_le n hn) (by omega)) (lbl_ne n) (fun b hb => (lbl_chars n b hb).1)
  | lab n hn => exact absurd rfl hl
  | ret => exact absurd rfl hr
theorem joinC_eq : ∀ l : List (List UInt8), Lib.join l [44, 32] = joinC l
  | [] => rfl
  | [x] => by rw [Lib.join_one]; rfl
  | x :: y :: l => by
    have ih := joinC_eq (y :: l)
    have e : Lib.join (x :: y :: l) [44, 32] = x ++ 44 :: 32 :: Lib.join (y :: l) [44, 32] := by simp [Lib.join, List.intercalate]
    rw [e, ih]
    rfl
theorem joinC_last : ∀ (p : List (List UInt8)) (q : List UInt8), q ≠ [] → (joinC (p ++ [q])).getLast? = q.getLast?
  | [], q, _ => rfl
  | [x], q, h => by
    show (x ++ 44 :: 32 :: q).getLast? = _
    rw [List.getLast?_append, List.getLast?_cons, List.getLast?_cons]
    cases hq : q.getLast? with
    | none => exact absurd (List.getLast?_eq_none_iff.1 hq) h
    | some c => simp
  | x :: y :: p, q, h => by
    have ih := joinC_last (y :: p) q h
    show (x ++ 44 :: 32 :: joinC (y :: p ++ [q])).getLast? = _
    rw [List.getLast?_append, List.getLast?_cons, List.getLast?_cons, ih]
    cases hq : q.getLast? with
    | none => exact absurd (List.getLast?_eq_none_iff.1 hq) h
    | some c => simp
theorem trim_line {i : In} (h : Form i) (hl : i.op ≠ 19) (hr : i.op ≠ 20) : trimS 32 (wordT i ++ 32 :: joinC (opsT i)) = lineL i := by
  obtain ⟨_, _, p, q, e, h1, h2⟩ := ops_plain h hl hr
  unfold lineL
  rw [if_neg hl, if_neg hr]
  unfold trimS
  rw [if_neg]
  rw [List.getLast?_append, List.getLast?_cons, e, joinC_last p q h1]
  cases hq : q.getLast? with
  | none => exact absurd (List.getLast?_eq_none_iff.1 hq) h1
  | some c =>
    have := h2 c (List.mem_of_getLast? hq)
    simpa using this
theorem joinC_len (l : List (List UInt8)) (h : l.length ≤ 2) (h2 : ∀ x ∈ l, x.length ≤ 60) : (joinC l).length ≤ 122 := by
  match l, h with
  | [], _ => simp [joinC]
  | [x], _ => have := h2 x (by simp); simp [joinC]; omega
  | [x, y], _ =>
    have := h2 x (by simp)
    have := h2 y (by simp)
    simp [joinC]
    omega
theorem wordT_len {i : In} (h : Form i) : (wordT i).length ≤ 15 := by
  have hb := fun k => binW_le k
  have hs := fun k => shfW_le k
  have hc := fun k => cndW_le k
  have hp : ∀ op, (plainW op).length ≤ 8 := fun op => by unfold plainW; (repeat' split) <;> simp
  unfold wordT
  repeat' split
  · exact Nat.le_trans (hb _) (by omega)
  · exact Nat.le_trans (hs _) (by omega)
  · have := hc i.cd; simp; omega
  · have := hc i.cd; simp; omega
  · have := hc i.cd; simp; omega
  · exact Nat.le_trans (hp _) (by omega)
theorem line_len {i : In} (h : Form i) : (lineL i).length ≤ 140 := by
  by_cases hl : i.op = 19
  · cases h with
    | lab n hn => have := lblT_le n hn; show (lblT n ++ [58]).length ≤ 140; simp; omega
    | two op d s ho hd hs => rcases ho with h | h | h | h <;> (dsimp only at hl; omega)
    | one op d ho hd => rcases ho with h | h <;> (dsimp only at hl; omega)
    | _ => first | (dsimp only at hl; omega) | (simp at hl)
  · by_cases hr : i.op = 20
    · unfold lineL; rw [if_neg hl, if_pos hr]; simp
    · obtain ⟨h1, h2, _⟩ := ops_plain h hl hr
      have := joinC_len _ h1 h2
      have := wordT_len h
      unfold lineL
      rw [if_neg hl, if_neg hr]
      simp
      omega
end Go.Proofs.YtmimmnjdgpdjlaaGreatDoor
