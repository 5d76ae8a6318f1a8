/- A line of words: line, Words. -/
import Derived.Test.YtkbmckmlnphpmaaGreatDoorB
import Derived.Maps.AppendAt
import Derived.Laws.OwnMore
set_option linter.unusedSimpArgs false
set_option linter.unusedVariables false
namespace Go.Proofs.YtkbmckmlnphpmaaGreatDoor
open Go.RowKit Go.Lib Go.Shelf

theorem cell_some_lt {w : World} {b o : Nat} {v : Value} (h : w.cell? ⟨b, o, none⟩ = some v) : b < w.heap.size := by
  rcases Nat.lt_or_ge b w.heap.size with hlt | hge
  · exact hlt
  · simp [World.cell?, Array.getElem?_eq_none hge] at h
theorem blk_cell {w : World} {g : Nat} {t : TypeId} {cs : Array Value} (h : w.heap[g]? = some (.cells cs t (0, 0))) (i : Nat) : w.cell? ⟨g, i, none⟩ = cs[i]? := cell_of_row w g i cs t (0, 0) h
theorem blk_lt {w : World} {g : Nat} {o : Obj} (h : w.heap[g]? = some o) : g < w.heap.size := by
  rcases Nat.lt_or_ge g w.heap.size with hlt | hge
  · exact hlt
  · rw [Array.getElem?_eq_none hge] at h; cases h
theorem Below.next {w w1 w2 : World} (h : Below w.heap.size w w1) (h2 : Below w1.heap.size w1 w2) : Below w.heap.size w w2 := h.trans (h2.mono h.size)

/-- a slice that reads as words -/
def WAt (w : World) (A : Option Addr) (ws : List Int) : Prop :=
  (∀ x ∈ ws, 0 ≤ x ∧ x ≤ 18446744073709551615) ∧ (0 < ws.length → ∃ blk off, A = some ⟨blk, off, none⟩ ∧ ∀ i x, ws[i]? = some x → w.cell? ⟨blk, off + i, none⟩ = some (.int .u64 x))
theorem WAt.below {w w' : World} {A : Option Addr} {ws : List Int} (h : WAt w A ws) (hb : Below w.heap.size w w') : WAt w' A ws := by
  refine ⟨h.1, fun hn => ?_⟩
  obtain ⟨blk, off, e, hc⟩ := h.2 hn
  exact ⟨blk, off, e, fun i x hx => (hb.cell (p := ⟨blk, off + i, none⟩) (cell_some_lt (hc i x hx))).trans (hc i x hx)⟩
theorem WAt.at_ {w : World} {A : Option Addr} {ws : List Int} (h : WAt w A ws) {k : Nat} (hk : k < ws.length) :
    ∃ blk off x, A = some ⟨blk, off, none⟩ ∧ ws[k]? = some x ∧ w.cell? ⟨blk, off + k, none⟩ = some (.int .u64 x) ∧ 0 ≤ x ∧ x ≤ 18446744073709551615 := by
  obtain ⟨blk, off, e, hc⟩ := h.2 (by omega)
  have e1 : ws[k]? = some ws[k] := List.getElem?_eq_getElem hk
  obtain ⟨h1, h2⟩ := h.1 _ (List.getElem_mem hk)
  exact ⟨blk, off, _, e, e1, hc k _ e1, h1, h2⟩

/-- texts of a line: a word, and numbers -/
def lineL (word : ByteArray) (l : List Int) : List ByteArray := word :: l.map fun x => numT x.toNat
def joinT (xs : List ByteArray) (sep : ByteArray) : ByteArray := ⟨(Lib.join (xs.map (·.data.toList)) sep.data.toList).toArray⟩
def lineT (word : ByteArray) (l : List Int) : ByteArray := joinT (lineL word l) ⟨#[32]⟩

theorem numT_len (u : Nat) (hu : u < 18446744073709551616) : (numT u).data.toList.length ≤ 20 := by
  show (Lib.decDigits u).toArray.toList.length ≤ 20
  rw [List.toList_toArray, Lib.decDigits_length]
  by_cases h1 : 1 ≤ u
  · have := Lib.numDigits_eq u h1 hu
    split at this <;> omega
  · obtain rfl : u = 0 := by omega
    rw [Lib.nDigits_small (by omega)]; omega

theorem info9 : (Tryz.prog.info? 9).map (fun i => (i.zero, i.size, i.bytes)) = some (some (.string ⟨#[]⟩), 1, 16) := by kernel_rfl
theorem und67 : Tryz.prog.underlying 67 = some (.slice 9) := by kernel_rfl
def sCells (xs : List ByteArray) : List Value := xs.map .string

/-- strconv's table lies -/
def Tab (w : World) : Prop := Lib.TabIs Tryz.prog w "internal/strconv.uint64pow10" .u64 Lib.pow10Tab
theorem Tab.below {w w' : World} (h : Tab w) (hb : Below w.heap.size w w') : Tab w' := Lib.tabBelow_of_tabIs h w' hb

theorem lens_le (xs : List (List UInt8)) (M : Nat) (h : ∀ x ∈ xs, x.length ≤ M) : Lib.lens xs ≤ xs.length * M := by
  induction xs with
  | nil => simp [Lib.lens]
  | cons x xs ih =>
    have h1 := h x (by simp)
    have h2 := ih fun y hy => h y (by simp [hy])
    have e : Lib.lens (x :: xs) = x.length + Lib.lens xs := by simp [Lib.lens]
    rw [e, List.length_cons, Nat.add_mul, Nat.one_mul]
    omega
theorem line_len (word : ByteArray) (l : List Int) (hl : ∀ x ∈ l, 0 ≤ x ∧ x ≤ 18446744073709551615) (h1 : word.size ≤ 1000000) (h2 : l.length ≤ 1000000) :
    (Lib.join ((lineL word l).map (·.data.toList)) [32]).length ≤ 140737488355328 := by
  unfold lineL
  rw [List.map_cons, Lib.join_length]
  have hs : word.data.toList.length = word.size := Array.length_toList
  have h3 := lens_le (word.data.toList :: (l.map fun x => numT x.toNat).map (·.data.toList)) 1000000 (by
    intro x hx
    rcases List.mem_cons.1 hx with rfl | hx
    · omega
    · rw [List.map_map] at hx
      obtain ⟨y, hy, rfl⟩ := List.mem_map.1 hx
      have := numT_len y.toNat (by have := hl y hy; omega)
      show (numT y.toNat).data.toList.length ≤ 1000000
      omega)
  simp only [List.length_cons, List.length_map, List.length_nil] at h3 ⊢
  have h4 : (l.length + 1) * 1000000 ≤ 1000001 * 1000000 := Nat.mul_le_mul_right _ (by omega)
  omega

set_option maxRecDepth 100000 in
set_option maxHeartbeats 2000000 in
theorem line_any (word : ByteArray) (A : Option Addr) (n c : Nat) (l : List Int) (w : World) (hl : l.length = n) (hw : WAt w A l) (hT : Tab w) (h1 : word.size ≤ 1000000) (h2 : n ≤ 1000000) :
    Calls Tryz.prog 50 #[.string word, .slice A n c] w (StrPost (lineT word l) w) := by
  obtain ⟨i0, hi, hz0, hz1, hz2⟩ := info_parts info9
  have hi' := Lib.hid (And.intro hi (And.intro hz0 (And.intro hz1 hz2)))
  have hl' := Lib.hid hl
  have hw' := Lib.hid hw
  have hT' := Lib.hid hT
  have hlen := Lib.hid (line_len word l hw.1 h1 (by omega))
  clear hl hw hT hi hz0 hz1 hz2
  have hb0 := Lib.hid ((Below.refl w.heap.size w).alloc (Nat.le_refl _) (.cells #[.string word] 9))
  have hown0 := Lib.hid (show (w.alloc (.cells #[.string word] 9)).ownsRow w.heap.size 9 1 (.slice (some ⟨w.heap.size, 0, none⟩) 1 1) 1 (sCells [word]) from ⟨rfl, .inr ⟨w.heap.size, 1, #[.string word], rfl, Nat.le_refl _, heap_alloc_new w _, Nat.le_refl _, by simp [maxLen], rfl, rfl⟩⟩)
  go_enter Tryz.func50, Tryz.ntmps50
  go_wp2_with fail
  go_loopg [5, 12] n (fun g s5 s12 wr => ∃ k : Nat, k + g = n ∧ s12 = .int .i64 k ∧ wr.ownsRow w.heap.size 9 1 s5 (k + 1) (sCells (lineL word (l.take k))) ∧ Below w.heap.size w wr)
  case atStart => exact ⟨0, by omega, rfl, hown0.out, hb0.out⟩
  case round =>
    obtain ⟨k, hkg, rfl, ho, hbr⟩ := hrel
    have ho' := Lib.hid ho
    have hbr' := Lib.hid hbr
    clear ho hbr
    cases gk with
    | zero =>
      have e0 : ¬ ((k : Int) < (n : Int)) := by omega
      have htk : l.take k = l := List.take_of_length_le (by rw [hl'.out]; omega)
      have ho2 := ho'.out
      rw [htk] at ho2
      obtain ⟨hcl, hcase⟩ := ho2
      rcases hcase with ⟨_, h0⟩ | ⟨g, cap, cur, hv, hg, hh, hcap, hm, hs, ht⟩
      · omega
      · have hLl : (lineL word l).length = k + 1 := by simp [lineL, hl'.out]; omega
        have hj := Lib.hid (Tryz.strings_Join g 0 cap (lineL word l) ⟨#[32]⟩ wr (fun j x hx => by
          rw [Nat.zero_add, blk_cell hh]
          have h3 : (cur.toList.take ((k + 1) * 1))[j]? = (sCells (lineL word l))[j]? := by rw [ht]
          have hjl : j < k + 1 := by have := (List.getElem?_eq_some_iff.1 hx).1; omega
          rw [List.getElem?_take, if_pos (by omega), sCells, List.getElem?_map, hx] at h3
          simpa using h3) (blk_lt hh) (by omega) (by omega) hlen.out)
        rw [hLl] at hj
        subst hv
        clear hh ht hs hcl htk hg
        go_wp2_with fail
        refine hj.out.mono ?_
        rintro e w4 ⟨rfl, hb4⟩
        have hb4' := Lib.hid (Below.next hbr'.out hb4)
        clear hb4
        go_wp2
        go_ret
        exact ⟨rfl, hb4'.out⟩
    | succ g =>
      have e0 : (k : Int) < (n : Int) := by omega
      obtain ⟨blk, off, x, rfl, hx, cx, x0, x1⟩ := (hw'.out.below hbr'.out).at_ (k := k) (by rw [hl'.out]; omega)
      obtain ⟨u, rfl⟩ := Int.eq_ofNat_of_zero_le x0
      have hx' := Lib.hid hx
      have hf := Lib.hid (fmtU u (by omega) wr (hT'.out.below hbr'.out))
      have hsz := hbr'.out.size
      clear hx
      go_wp2_with fail
      refine hf.out.mono ?_
      rintro e w3 ⟨rfl, hb3⟩
      have hb3' := Lib.hid hb3
      have hsz3 := hb3.size
      have hown := Lib.hid ((show w3.ownsRow w.heap.size 9 1 u5 (k + 1) (sCells (lineL word (l.take k))) from ho'.out.kept (row := none) ⟨hb3.os, hb3.tape, hb3.output, hb3.size, fun i hi _ => hb3.block i hi⟩ (Classical.em _)).alloc (.cells #[.string (numT u)] 9))
      have hnew := Lib.hid (cell_one_new w3 (.string (numT u)) 9)
      have hbA := Lib.hid ((Below.refl w3.heap.size w3).alloc (Nat.le_refl _) (.cells #[.string (numT u)] 9))
      have hone := Lib.hid (show ∀ v ∈ [Value.string (numT u)], v.oneCell' = true by simp [Value.oneCell'])
      have hbs := Lib.hid (show w.heap.size ≤ (w3.alloc (.cells #[.string (numT u)] 9)).heap.size by simp; omega)
      have hk1 := Lib.hid (show k + 1 + 1 ≤ maxLen by unfold maxLen; omega)
      have hk2 := Lib.hid (show (k + 1 + 1) * 16 ≤ 140737488355328 by omega)
      obtain ⟨hj1, hj2, hj3, hj4⟩ := hi'.out
      clear hb3 cx
      go_wp2_with ((at_builtin; refine wpList_append_own_at _ rfl _ _ 67 rfl w.heap.size 9 i0 _ 1 16 und67 hj1 hj2 hj3 hj4 rfl (by decide) u5 (k + 1) (sCells (lineL word (l.take k))) rfl hown.out ⟨w3.heap.size, 0, none⟩ 1 1 [.string (numT u)] rfl rfl hnew.out hone.out hk1.out hk2.out hbs.out ?_; intro v' w4 hown4 hg4 hnil4 hat4))
      have hB4 : Below w.heap.size w w4 := (Below.next (Below.next hbr'.out hb3'.out) hbA.out).grown hg4 (by simp; omega) (fun g' e => (hown.out.lt g' e).1)
      have hB4' := Lib.hid hB4
      have hown4' := Lib.hid hown4
      clear hB4 hown4 hg4 hnil4 hat4
      go_wp2
      go_roundg g
      case measure => omega
      case rel =>
        refine ⟨k + 1, by omega, by go_num, ?_, hB4'.out⟩
        have e5 : lineL word (l.take (k + 1)) = lineL word (l.take k) ++ [numT u] := by
          unfold lineL
          rw [List.take_add_one, hx'.out, List.map_append]
          rfl
        rw [e5]
        simpa [sCells] using hown4'.out
end Go.Proofs.YtkbmckmlnphpmaaGreatDoor
