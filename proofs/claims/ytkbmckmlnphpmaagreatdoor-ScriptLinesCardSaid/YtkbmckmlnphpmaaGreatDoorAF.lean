/- strings.SplitSeq at a blank: the iterator's contract. -/
import Derived.Test.YtkbmckmlnphpmaaGreatDoorAE
import Derived.RangeFuncBound
import Derived.RangeFuncCalls
import Derived.RangeFuncLeaves
import Derived.Shelf.Abstract
import Derived.Shelf.RegionOpen
import Derived.OwnWalkIn
import Derived.TacticsInMore
import Derived.LoopNIn
import Derived.LoopIn
set_option linter.unusedSimpArgs false
set_option linter.unusedVariables false
namespace Go.Proofs.YtkbmckmlnphpmaaGreatDoor
open Go.RowKit Go.Lib Go.Shelf

attribute [local go_sem] Oper.semAt_some

theorem parts_miss (c : UInt8) : ∀ l : List UInt8, indexByte l c = -1 → partsF c l = [l]
  | [], _ => rfl
  | b :: l, h => by
    unfold indexByte at h
    by_cases hb : b = c
    · subst hb; simp at h
    · have hge := indexByte_ge l c
      have hm : indexByte l c = -1 := by
        have e : (b == c) = false := by simpa using hb
        rw [e] at h
        simp only [Bool.false_eq_true, if_false] at h
        by_cases h2 : indexByte l c = -1
        · exact h2
        · rw [if_neg (by simpa using h2)] at h; omega
      unfold partsF
      rw [if_neg hb, parts_miss c l hm]
      rfl
theorem parts_hit (c : UInt8) : ∀ (l : List UInt8) (i : Nat), indexByte l c = (i : Int) → i < l.length ∧ partsF c l = l.take i :: partsF c (l.drop (i + 1))
  | [], i, h => by have h : (-1 : Int) = i := h; omega
  | b :: l, i, h => by
    unfold indexByte at h
    by_cases hb : b = c
    · subst hb
      simp at h
      have h0 : i = 0 := by omega
      subst h0
      simp [partsF]
    · have e : (b == c) = false := by simpa using hb
      rw [e] at h
      simp only [Bool.false_eq_true, if_false] at h
      by_cases h2 : indexByte l c = -1
      · rw [if_pos (by simpa using h2)] at h; omega
      · rw [if_neg (by simpa using h2)] at h
        have hge := indexByte_ge l c
        obtain ⟨k, hk⟩ : ∃ k : Nat, indexByte l c = (k : Int) := ⟨(indexByte l c).toNat, by omega⟩
        obtain ⟨h3, h4⟩ := parts_hit c l k hk
        have hik : i = k + 1 := by omega
        subst hik
        refine ⟨by simp; omega, ?_⟩
        conv => lhs; unfold partsF
        rw [if_neg hb, h4]
        simp
theorem partsB_miss {r : ByteArray} (h : indexByte r.data.toList 32 = -1) : partsB r = [r] := by
  unfold partsB
  rw [parts_miss 32 _ h]
  simp
theorem partsB_hit {r : ByteArray} {i : Nat} (h : indexByte r.data.toList 32 = (i : Int)) : i < r.size ∧ partsB r = r.extract 0 i :: partsB (r.extract (i + 1) r.size) := by
  obtain ⟨h1, h2⟩ := parts_hit 32 _ i h
  rw [size_list] at h1
  refine ⟨h1, ?_⟩
  unfold partsB
  rw [h2, List.map_cons, extract_list]
  have e1 : (⟨(r.data.toList.take i).toArray⟩ : ByteArray) = r.extract 0 i := ext_bytes (by rw [extract_list]; simp)
  have e2 : r.data.toList.take r.size = r.data.toList := List.take_of_length_le (by rw [size_list]; exact Nat.le_refl _)
  rw [e1, e2]

/-- the iterator's three boxes lie as they lay -/
def Kp3 (a b c : Nat) (W W' : World) : Prop := W'.heap[a]? = W.heap[a]? ∧ W'.heap[b]? = W.heap[b]? ∧ W'.heap[c]? = W.heap[c]?
theorem Kp3.trans {a b c : Nat} {A B C : World} (h : Kp3 a b c A B) (k : Kp3 a b c B C) : Kp3 a b c A C := ⟨k.1.trans h.1, k.2.1.trans h.2.1, k.2.2.trans h.2.2⟩
/-- a block of one cell -/
def Box1 (W : World) (b : Nat) (t : TypeId) (v : Value) : Prop := W.heap[b]? = some (.cells #[v] t (0, 0))
theorem Box1.c {W : World} {b : Nat} {t : TypeId} {v : Value} (h : Box1 W b t v) : W.cell? ⟨b, 0, none⟩ = some v := by rw [blk_cell h]; rfl
theorem Box1.f {W : World} {b : Nat} {t : TypeId} {v : Value} (h : Box1 W b t v) : W.frozen? ⟨b, 0, none⟩ = false := by simp [World.frozen?, show W.heap[b]? = _ from h]
theorem Box1.set {W : World} {b : Nat} {t : TypeId} {v u : Value} (h : Box1 W b t v) : Box1 (W.setCell ⟨b, 0, none⟩ u) b t u := set_same h
/-- what is left in the box -/
def leftIn (Bs : Nat) (W : World) : Nat := match W.cell? ⟨Bs, 0, none⟩ with | some (.string r) => r.size | _ => 0

set_option maxRecDepth 100000 in
set_option maxHeartbeats 4000000 in
theorem split115_in (n : Nat) (hn : 1 ≤ n) (l Bp Bs B0 : Nat) (s0 : ByteArray) (hs0 : s0.size ≤ 1000000) (J Jx : List ByteArray → World → Prop) (W : World) (hps : Bp ≠ Bs) (h0s : B0 ≠ Bs)
    (hp : Box1 W Bp 9 (.string ⟨#[32]⟩)) (hs : Box1 W Bs 9 (.string s0)) (hz : Box1 W B0 3 (.int .i64 0))
    (hJ : ∀ s W v, J s W → J s (W.setCell ⟨Bs, 0, none⟩ v))
    (hY : ∀ pre x W1, J pre W1 → Told 1000001 pre x → YieldAt Fence.wide (n - 1) Tryz.prog l #[.string x] W1 fun e W' => (e = .returned (.bool true) ∧ J (pre ++ [x]) W' ∧ Kp3 Bp Bs B0 W1 W') ∨ (e = .returned (.bool false) ∧ Jx (pre ++ [x]) W'))
    (hJ0 : J [] W) :
    CallsIn Fence.wide n Tryz.prog 115 #[.func (.yield l) #[] #[], .pointer (some ⟨Bp, 0, none⟩), .pointer (some ⟨Bs, 0, none⟩), .pointer (some ⟨B0, 0, none⟩)] W fun e W' => (∃ v, e = .returned v) ∧
      ((∃ xs, xs = partsB s0 ∧ J xs W') ∨ (∃ pre, (∃ rest, pre ++ rest = partsB s0 ∧ pre ≠ []) ∧ Jx pre W')) := by
  have hY' := Lib.hid hY
  have hJ' := Lib.hid hJ
  have hp' := Lib.hid hp
  have hs' := Lib.hid hs
  have hz' := Lib.hid hz
  have c0 := hp.c
  have hJ0' := Lib.hid hJ0
  have hlen := Lib.hid (show (partsB s0).length ≤ 1000001 by have := parts_le s0; omega)
  clear hY hJ hp hs hz hJ0
  refine callsIn_of_wp Tryz.func115 rfl trivial ?_ rfl
  simp only [Tryz.ntmps115, List.size_toArray, List.length_cons, List.length_nil, Nat.reduceAdd, Nat.reduceSub, Array.replicate_succ, Array.replicate_zero, List.push_toArray, List.append_toArray, List.nil_append, List.cons_append]
  gi_wp2_with fail
  gi_loopw [7] (fun s7 wr => ∃ (pre : List ByteArray) (r : ByteArray), partsB s0 = pre ++ partsB r ∧ r.size ≤ s0.size ∧ J pre wr ∧ Box1 wr Bp 9 (.string ⟨#[32]⟩) ∧ Box1 wr Bs 9 (.string r) ∧ Box1 wr B0 3 (.int .i64 0))
    (fun s7 wr => leftIn Bs wr)
  case atStart => exact ⟨[], s0, rfl, Nat.le_refl _, hJ0'.out, hp'.out, hs'.out, hz'.out⟩
  case round =>
    obtain ⟨pre, r, hpr, hrs, hJr, hbp, hbs, hb0⟩ := hrel
    have hpr' := Lib.hid hpr
    have hJr' := Lib.hid hJr
    have hbp' := Lib.hid hbp
    have hbs' := Lib.hid hbs
    have hb0' := Lib.hid hb0
    have d0 := hbp.c
    have d1 := hbs.c
    have d2 := hb0.c
    have hidx := Lib.hid (Tryz.strings_Index_one r 32 wr)
    have hpl := Lib.hid (show pre.length + (partsB r).length ≤ 1000001 by have := hlen.out; rw [hpr, List.length_append] at this; exact this)
    have hpp := parts_pos r
    have hleft := Lib.hid (show leftIn Bs wr = r.size by unfold leftIn; rw [d1])
    clear hpr hJr hbp hbs hb0 c0
    by_cases hm : indexByte r.data.toList 32 = -1
    · rw [hm] at hidx
      have hpm := Lib.hid (partsB_miss hm)
      clear hm
      obtain ⟨fn, tmps, assign, body, hy, hRo⟩ := hY'.out pre r wr hJr'.out ⟨by have := hpl.out; omega, by omega⟩
      have hRo' := Lib.hid hRo
      clear hRo
      gi_wp2_with fail
      refine ⟨trivial, ?_⟩
      refine (callsIn_wide.2 hidx.out).mono ?_
      rintro e w1 ⟨rfl, rfl⟩
      gi_wp2_with fail
      refine hRo'.out.mono ?_
      rintro e W3 (⟨rfl, hJ3, hk3⟩ | ⟨rfl, hJx3⟩)
      · have hJ3' := Lib.hid hJ3
        clear hJ3 hk3
        gi_wp2
        go_end0
        exact ⟨⟨_, rfl⟩, .inl ⟨_, rfl, by rw [hpr'.out, hpm.out]; exact hJ3'.out⟩⟩
      · have hJx3' := Lib.hid hJx3
        clear hJx3
        gi_wp2
        go_end0
        exact ⟨⟨_, rfl⟩, .inr ⟨_, ⟨[], by rw [hpr'.out, hpm.out]; simp, by simp⟩, hJx3'.out⟩⟩
    · have hge := indexByte_ge r.data.toList 32
      obtain ⟨i, hi⟩ : ∃ i : Nat, indexByte r.data.toList 32 = (i : Int) := ⟨(indexByte r.data.toList 32).toNat, by omega⟩
      rw [hi] at hidx
      obtain ⟨hir, hph⟩ := partsB_hit hi
      have hph' := Lib.hid hph
      have hxs : (r.extract 0 i).size ≤ 1000000 := by rw [ByteArray.size_extract]; omega
      have hx2 : (r.extract (i + 1) r.size).size + (i + 1) = r.size := by rw [ByteArray.size_extract]; omega
      have hx2' := Lib.hid hx2
      have hp2 := parts_pos (r.extract (i + 1) r.size)
      have hpl2 := Lib.hid (show pre.length < 1000001 by have h1 := hpl.out; rw [hph, List.length_cons] at h1; omega)
      clear hm hge hi hph hx2
      obtain ⟨fn, tmps, assign, body, hy, hRo⟩ := hY'.out pre (r.extract 0 i) wr hJr'.out ⟨hpl2.out, hxs⟩
      have hRo' := Lib.hid hRo
      have e1 : (i : Int) ≤ (r.size : Int) := by omega
      have e2 : (i : Int) + 1 ≤ (r.size : Int) := by omega
      clear hRo hxs
      gi_wp2_with fail
      refine ⟨trivial, ?_⟩
      refine (callsIn_wide.2 hidx.out).mono ?_
      rintro e w1 ⟨rfl, rfl⟩
      gi_wp2_with fail
      refine hRo'.out.mono ?_
      rintro e W3 (⟨rfl, hJ3, hk3⟩ | ⟨rfl, hJx3⟩)
      · have hJ3' := Lib.hid hJ3
        have gp := Lib.hid (show Box1 W3 Bp 9 (.string ⟨#[32]⟩) from hk3.1.trans hbp'.out)
        have gs := Lib.hid (show Box1 W3 Bs 9 (.string r) from hk3.2.1.trans hbs'.out)
        have gz := Lib.hid (show Box1 W3 B0 3 (.int .i64 0) from hk3.2.2.trans hb0'.out)
        have d0 := gp.out.c
        have d1 := gs.out.c
        have d2 := gz.out.c
        have df := gs.out.f
        clear hJ3 hk3
        gi_wp2
        go_roundw
        case rel =>
          refine ⟨pre ++ [r.extract 0 i], r.extract (i + 1) r.size, by rw [hpr'.out, hph'.out]; simp, by have := hx2'.out; omega, hJ'.out _ _ _ hJ3'.out, ?_, gs.out.set, ?_⟩
          · exact (set_other hps).trans gp.out
          · exact (set_other h0s).trans gz.out
        case measure =>
          have h1 : leftIn Bs (W3.setCell ⟨Bs, 0, none⟩ (.string (r.extract (i + 1) r.size))) = (r.extract (i + 1) r.size).size := by
            unfold leftIn
            rw [(gs.out.set (u := .string (r.extract (i + 1) r.size))).c]
          rw [h1, hleft.out]
          have := hx2'.out
          omega
      · have hJx3' := Lib.hid hJx3
        clear hJx3
        gi_wp2
        refine bodyPost_ret (results_none rfl _ _ _) rfl ?_
        exact ⟨⟨_, rfl⟩, .inr ⟨_, ⟨partsB (r.extract (i + 1) r.size), by rw [hpr'.out, hph'.out]; simp, by simp⟩, hJx3'.out⟩⟩

theorem split115_said (n : Nat) (hn : 1 ≤ n) (Bp Bs B0 : Nat) (s0 : ByteArray) (hs0 : s0.size ≤ 1000000) (w : World) (hps : Bp ≠ Bs) (h0s : B0 ≠ Bs)
    (hp : Box1 w Bp 9 (.string ⟨#[32]⟩)) (hs : Box1 w Bs 9 (.string s0)) (hz : Box1 w B0 3 (.int .i64 0)) :
    IterSaid n 115 #[.pointer (some ⟨Bp, 0, none⟩), .pointer (some ⟨Bs, 0, none⟩), .pointer (some ⟨B0, 0, none⟩)] Bs 1000001 (Kp3 Bp Bs B0) (fun xs => xs = partsB s0) (fun pre => ∃ rest, pre ++ rest = partsB s0 ∧ pre ≠ []) w :=
  fun l J Jx W hW hJ hY h0 => split115_in n hn l Bp Bs B0 s0 hs0 J Jx W hps h0s ((hW.block _ (blk_lt hp)).trans hp) ((hW.block _ (blk_lt hs)).trans hs) ((hW.block _ (blk_lt hz)).trans hz) hJ hY h0
/-- what SplitSeq gives -/
def SeqPost (s : ByteArray) (w : World) (e : Ending) (w' : World) : Prop :=
  ∃ Bp Bs B0, e = .returned (.func (.func 115) #[] #[.pointer (some ⟨Bp, 0, none⟩), .pointer (some ⟨Bs, 0, none⟩), .pointer (some ⟨B0, 0, none⟩)]) ∧ Bp ≠ Bs ∧ B0 ≠ Bs ∧ (w.heap.size ≤ Bp ∧ w.heap.size ≤ Bs ∧ w.heap.size ≤ B0) ∧
    Box1 w' Bp 9 (.string ⟨#[32]⟩) ∧ Box1 w' Bs 9 (.string s) ∧ Box1 w' B0 3 (.int .i64 0) ∧ Below w.heap.size w w'
set_option maxRecDepth 100000 in
set_option maxHeartbeats 1000000 in
theorem seq94_any (s : ByteArray) (w : World) : Calls Tryz.prog 94 #[.string s, .string ⟨#[32]⟩, .int .i64 0] w (SeqPost s w) := by
  go_enter Tryz.func94, Tryz.ntmps94
  go_wp2
  go_ret
  have e1 : (w.alloc (.cells #[.string s] 9)).heap.size = w.heap.size + 1 := by simp
  have e2 : ((w.alloc (.cells #[.string s] 9)).alloc (.cells #[.string ⟨#[32]⟩] 9)).heap.size = w.heap.size + 1 + 1 := by simp
  have hB : Below w.heap.size w (((w.alloc (.cells #[.string s] 9)).alloc (.cells #[.string ⟨#[32]⟩] 9)).alloc (.cells #[.int .i64 0] 3)) := (((Below.refl _ w).alloc (Nat.le_refl _) _).alloc (by simp) _).alloc (by simp; omega) _
  refine ⟨w.heap.size + 1, w.heap.size, w.heap.size + 1 + 1, rfl, by omega, by omega, ⟨by omega, by omega, by omega⟩, ?_, ?_, ?_, hB⟩
  · have h := heap_alloc_new (w.alloc (.cells #[.string s] 9)) (.cells #[.string ⟨#[32]⟩] 9)
    rw [e1] at h
    exact (heap_alloc_old _ _ (by simp)).trans h
  · exact (heap_alloc_old _ _ (by simp; omega)).trans ((heap_alloc_old _ _ (by simp)).trans (heap_alloc_new w _))
  · have h := heap_alloc_new ((w.alloc (.cells #[.string s] 9)).alloc (.cells #[.string ⟨#[32]⟩] 9)) (.cells #[.int .i64 0] 3)
    rw [e2] at h
    exact h
set_option maxRecDepth 100000 in
set_option maxHeartbeats 1000000 in
theorem seq_any (s : ByteArray) (w : World) : Calls Tryz.prog 66 #[.string s, .string ⟨#[32]⟩] w (SeqPost s w) := by
  have hk := Lib.hid (seq94_any s w)
  go_enter Tryz.func66, Tryz.ntmps66
  go_wp2_with fail
  refine hk.out.mono ?_
  rintro e w1 ⟨Bp, Bs, B0, rfl, h⟩
  have h' := Lib.hid h
  clear h
  go_wp2
  go_ret
  exact ⟨Bp, Bs, B0, rfl, h'.out⟩
end Go.Proofs.YtkbmckmlnphpmaaGreatDoor
