/- The reference's list of words that are not 0; the stack's bytes. -/
import Derived.Test.YtageahpgcjnkpaaP2
set_option linter.unusedSimpArgs false
set_option linter.unusedVariables false
namespace Go.Proofs.Ytageahpgcjnkpaa
open Go.RowKit

/-- the addresses of words that are not 0 -/
def fullA (f : Nat → Int) (k : Nat) : List Int := (fullN f k).map fun (i : Nat) => 8 * (i : Int)
theorem fullA_len (f : Nat → Int) (k : Nat) : (fullA f k).length ≤ k := by
  unfold fullA
  rw [List.length_map]
  exact fullN_len f k
theorem fullN_lt (f : Nat → Int) (k : Nat) : ∀ i ∈ fullN f k, i < k := by
  intro i hi
  unfold fullN at hi
  exact List.mem_range.1 (List.mem_filter.1 hi).1
theorem fullA_bd (f : Nat → Int) (k : Nat) (hk : k ≤ 8192) : ∀ x ∈ fullA f k, 0 ≤ x ∧ x ≤ 18446744073709551615 := by
  intro x hx
  obtain ⟨i, hi, rfl⟩ := List.mem_map.1 hx
  have := fullN_lt f k i hi
  omega
def FullPost (f : Nat → Int) (w : World) (e : Ending) (w' : World) : Prop :=
  ∃ A cap, e = .returned (.slice A (fullA f 8192).length cap) ∧ WOwn w' w.heap.size A (fullA f 8192) ∧ Below w.heap.size w w'

set_option maxRecDepth 100000 in
set_option maxHeartbeats 2000000 in
theorem full_any {p q : Nat} {A : Option Addr} {n cap : Nat} {L : List Reg} {f : Nat → Int} (w : World) (h : RMem_ w p q A n cap L f) :
    Calls Try.prog 53 #[.pointer (some ⟨p, 0, none⟩)] w (FullPost f w) := by
  obtain ⟨i0, hi, hz0, hz1, hz2⟩ := info_parts info30
  have hi' := Lib.hid (And.intro hi (And.intro hz0 (And.intro hz1 hz2)))
  have H := Lib.hid h
  clear h hi hz0 hz1 hz2
  go_enter Try.func53, Try.ntmps53
  go_wp2_with fail
  go_loopg [3, 4] 8192 (fun g s3 s4 wr => ∃ (k : Nat) (a : Int), k + g = 8192 ∧ a = 8 * (k : Int) ∧ s4 = .int .i64 a ∧ wr.ownsRow w.heap.size 30 1 s3 (fullA f k).length (wCells (fullA f k)) ∧ Below w.heap.size w wr)
  case atStart => exact ⟨0, 0, by omega, by simp, rfl, World.ownsRow_nil _ _ _ _, Below.refl _ _⟩
  case round =>
    obtain ⟨k, a, hkg, ha, rfl, ho, hbr⟩ := hrel
    have ho' := Lib.hid ho
    have hbr' := Lib.hid hbr
    have ha' := Lib.hid ha
    have hkg' := Lib.hid hkg
    have hHr := Lib.hid (H.out.below hbr)
    have a0 : 0 ≤ a := by omega
    have a1 : a ≤ 70000 := by omega
    have hsz := hbr.size
    clear ho hbr
    cases gk with
    | zero =>
      have hd : decide (a < 65536) = false := by simp; omega
      have hk8 : k = 8192 := by omega
      obtain ⟨A3, c3, hv3, q1, q2, q3, q4⟩ := row_own ho'.out (fullA_bd f k (by omega))
      rw [hk8] at q3 hv3
      have q3' := Lib.hid q3
      have hv3' := Lib.hid hv3
      clear q1 q2 q3 q4 ha hkg hk8 hkg' hv3
      go_wp2
      go_ret
      exact ⟨A3, c3, by rw [← hv3'.out]; rfl, q3'.out, hbr'.out⟩
    | succ g =>
      have hd : decide (a < 65536) = true := by simp; omega
      have ha8 : a + 8 ≤ 65536 := by omega
      have hget := Lib.hid (refGet_int a wr hHr.out a0 ha8)
      have e8 : a.toNat = 8 * k := by omega
      rw [e8] at hget
      have hfs0 := fullN_succ f k
      have hfl := fullA_len f k
      have hk8 : k ≤ 8191 := by omega
      have hv := get8_bd H.out.hf (8 * k)
      generalize get8 f (8 * k) = v at hget hfs0 hv
      obtain ⟨hv0, hv1⟩ := hv
      have hkg2 := Lib.hid (show k + 1 + g = 8192 by omega)
      have ha2 := Lib.hid (show a + 8 = 8 * ((k + 1 : Nat) : Int) by omega)
      clear e8 ha8 ha hkg hkg'
      by_cases hz : v = 0
      · subst hz
        have hfs := Lib.hid (show fullA f (k + 1) = fullA f k by unfold fullA; rw [hfs0, if_pos rfl])
        clear hfs0 hk8 hfl
        go_wp2_with fail
        refine hget.out.mono ?_
        rintro e w5 ⟨rfl, rfl⟩
        go_wp2
        go_roundg g
        case measure => omega
        case rel => exact ⟨k + 1, a + 8, hkg2.out, ha2.out, by go_num, by rw [hfs.out]; exact ho'.out, hbr'.out⟩
      · have hd2 : (v != 0) = true := by simp [hz]
        have hfs := Lib.hid (show fullA f (k + 1) = fullA f k ++ [a] by
          unfold fullA
          rw [hfs0, if_neg hz, List.map_append]
          rw [ha'.out]
          rfl)
        have hown := Lib.hid (ho'.out.alloc (.cells #[.int .u64 a] 30))
        have hnew := Lib.hid (cell_one_new wr (.int .u64 a) 30)
        have hbA := Lib.hid ((Below.refl wr.heap.size wr).alloc (Nat.le_refl _) (.cells #[.int .u64 a] 30))
        have hone := Lib.hid (show ∀ u ∈ [Value.int .u64 a], u.oneCell' = true by simp [Value.oneCell'])
        have hbs := Lib.hid (show w.heap.size ≤ (wr.alloc (.cells #[.int .u64 a] 30)).heap.size by simp; omega)
        have hk1 := Lib.hid (show (fullA f k).length + 1 ≤ maxLen by unfold maxLen; omega)
        have hk2 := Lib.hid (show ((fullA f k).length + 1) * 8 ≤ 140737488355328 by omega)
        obtain ⟨hj1, hj2, hj3, hj4⟩ := hi'.out
        clear hfs0 hk8 hz hfl
        go_wp2_with fail
        refine hget.out.mono ?_
        rintro e w5 ⟨rfl, rfl⟩
        go_wp2_with ((at_builtin; refine wpList_append_own_at _ rfl _ _ 80 rfl w.heap.size 30 i0 _ 1 8 und80 hj1 hj2 hj3 hj4 rfl (by decide) u3 (fullA f k).length (wCells (fullA f k)) rfl hown.out ⟨wr.heap.size, 0, none⟩ 1 1 [.int .u64 a] rfl rfl hnew.out hone.out hk1.out hk2.out hbs.out ?_; intro v' w4 hown4 hg4 hnil4 hat4))
        have hB4 : Below w.heap.size w w4 := (Below.next hbr'.out hbA.out).grown hg4 (by simp; omega) (fun g' e => (hown.out.lt g' e).1)
        have hB4' := Lib.hid hB4
        have hown4' := Lib.hid hown4
        clear hB4 hown4 hg4 hnil4 hat4
        go_wp2
        go_roundg g
        case measure => omega
        case rel => exact ⟨k + 1, a + 8, hkg2.out, ha2.out, by go_num, by rw [hfs.out]; simpa [wCells] using hown4'.out, hB4'.out⟩

/-- bytes cloned from a place on -/
def tailB (f : Nat → Int) : List Value := (List.range 16384).map fun i => .int .u8 (f (49152 + i))
theorem tailB_len (f : Nat → Int) : (tailB f).length = 16384 := by simp [tailB]
theorem tailB_at (f : Nat → Int) (i : Nat) (h : i < 16384) : (tailB f)[i]? = some (.int .u8 (f (49152 + i))) := by
  unfold tailB
  rw [List.getElem?_map, List.getElem?_range h]
  rfl
theorem tailB_one (f : Nat → Int) : ∀ u ∈ tailB f, u.oneCell' = true := by
  intro u hu
  obtain ⟨i, _, rfl⟩ := List.mem_map.1 hu
  rfl
theorem tailB_news {w : World} {q : Nat} {f : Nat → Int} {t : TypeId} (hq : w.heap[q]? = some (.cells (bytes f) t (0, 0))) : ∀ j u, (tailB f)[j]? = some u → w.cell? ((⟨q, 49152, none⟩ : Addr).add j) = some u := by
  intro j u hu
  have hj : j < 16384 := by have := (List.getElem?_eq_some_iff.1 hu).1; rw [tailB_len] at this; exact this
  rw [tailB_at f j hj] at hu
  rw [Addr.add_lit, blk_cell hq, bytes_at _ _ (by omega)]
  exact hu
def StackPost (f : Nat → Int) (w : World) (e : Ending) (w' : World) : Prop :=
  ∃ g cap, e = .returned (.slice (some ⟨g, 0, none⟩) 16384 cap) ∧ (∀ i, i < 16384 → w'.cell? ⟨g, i, none⟩ = some (.int .u8 (f (49152 + i)))) ∧ Below w.heap.size w w'
theorem stack_own {w : World} {base : Nat} {v : Value} {f : Nat → Int} (h : w.ownsRow base 5 1 v 16384 (tailB f)) : ∃ g cap, v = .slice (some ⟨g, 0, none⟩) 16384 cap ∧ ∀ i, i < 16384 → w.cell? ⟨g, i, none⟩ = some (.int .u8 (f (49152 + i))) := by
  obtain ⟨hl, h⟩ := h
  rcases h with ⟨rfl, h0⟩ | ⟨g, cap, cur, rfl, hg, hh, hcap, hm, hs, ht⟩
  · omega
  · refine ⟨g, cap, rfl, fun i hi => ?_⟩
    have h1 : (cur.toList.take (16384 * 1))[i]? = (tailB f)[i]? := by rw [ht]
    rw [List.getElem?_take, if_pos (by omega), tailB_at f i hi] at h1
    rw [blk_cell hh]
    simpa using h1

set_option maxRecDepth 100000 in
set_option maxHeartbeats 1000000 in
theorem cloneB_any {q : Nat} {f : Nat → Int} {t : TypeId} (c : Nat) (w : World) (hq : w.heap[q]? = some (.cells (bytes f) t (0, 0))) :
    Calls Try.prog 52 #[.slice (some ⟨q, 49152, none⟩) 16384 c] w (StackPost f w) := by
  obtain ⟨i0, hi, hz0, hz1, hz2⟩ := info_parts info5
  have he := fun w => Lib.run_eql_slice_some_nil (P := Try.prog) w (t := 50) ⟨q, 49152, none⟩ 16384 c Try.underlying50
  have hown := Lib.hid (show (w.alloc (.cells #[] 5)).ownsRow w.heap.size 5 1 (.slice (some ⟨w.heap.size, 0, none⟩) 0 0) 0 [] from ⟨rfl, .inr ⟨w.heap.size, 0, #[], rfl, Nat.le_refl _, heap_alloc_new w _, Nat.le_refl _, by simp [maxLen], rfl, rfl⟩⟩)
  have hbA := Lib.hid ((Below.refl w.heap.size w).alloc (Nat.le_refl _) (.cells #[] 5))
  have hnews := Lib.hid (tailB_news ((hbA.out.block q (blk_lt hq)).trans hq))
  have hlen := Lib.hid (show (tailB f).length = 16384 * 1 by rw [tailB_len])
  have hone := Lib.hid (tailB_one f)
  have hbs := Lib.hid (show w.heap.size ≤ (w.alloc (.cells #[] 5)).heap.size by simp)
  have hk1 := Lib.hid (show 0 + 16384 ≤ maxLen by unfold maxLen; omega)
  have hk2 := Lib.hid (show (0 + 16384) * 1 ≤ 140737488355328 by omega)
  clear hq
  go_enter Try.func52, Try.ntmps52
  go_wp2_with ((at_builtin; refine wpList_append_own_at _ rfl _ _ 50 rfl w.heap.size 5 i0 _ 1 1 Try.underlying50 hi hz0 hz1 hz2 rfl (by decide) (.slice (some ⟨w.heap.size, 0, none⟩) 0 0) 0 [] rfl hown.out ⟨q, 49152, none⟩ 16384 c (tailB f) rfl hlen.out hnews.out hone.out hk1.out hk2.out hbs.out ?_; intro v' w1 hown1 hg1 hnil1 hat1))
  go_ret
  have hb : Below w.heap.size w w1 := hbA.out.grown hg1 (by simp) (fun k hk => by simp [Value.ownBlock] at hk; omega)
  rw [Nat.zero_add, List.nil_append] at hown1
  obtain ⟨g, cap', rfl, h2⟩ := stack_own hown1
  exact ⟨g, cap', rfl, h2, hb⟩

set_option maxRecDepth 100000 in
set_option maxHeartbeats 1000000 in
theorem stack_any {p q : Nat} {A : Option Addr} {n cap : Nat} {L : List Reg} {f : Nat → Int} (w : World) (h : Mem_ w p q A n cap L f) :
    Calls Try.prog 29 #[.pointer (some ⟨p, 0, none⟩)] w (StackPost f w) := by
  have H := Lib.hid h
  have c1 := h.c1
  clear h
  go_enter Try.func29, Try.ntmps29
  go_wp2_with fail
  refine (there_any _ H.out).mono ?_
  rintro e w1 ⟨rfl, rfl⟩
  go_wp2_with fail
  refine (cloneB_any _ _ H.out.hq).mono ?_
  rintro e w1 ⟨g, cap', rfl, h1, h2⟩
  have h1' := Lib.hid h1
  have h2' := Lib.hid h2
  clear h1 h2
  go_wp2
  go_ret
  exact ⟨g, cap', rfl, h1'.out, h2'.out⟩
end Go.Proofs.Ytageahpgcjnkpaa
