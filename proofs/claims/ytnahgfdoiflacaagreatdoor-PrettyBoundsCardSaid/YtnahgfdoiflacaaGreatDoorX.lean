/- A text that is built: copyCheck, WriteString, String (walked over this program: the kit's contracts fell). A program with one empty function: whether it can be told; its text. A line that is written; lines of no statements; the text of a program with one empty function. The text of a program with one empty function. -/
import Derived.Test.YtnahgfdoiflacaaGreatDoorQ
import Derived.Shelf.RegionOpenPlain
import Derived.Lib.UnsafeStr
import Derived.Test.YtnahgfdoiflacaaGreatDoorS
import Derived.Test.YtnahgfdoiflacaaGreatDoorT
import Derived.RangeFuncLeaves
import Derived.RangeFuncNested
import Derived.RangeFuncBound
import Derived.RangeFuncCalls
import Derived.RangeFuncBox
import Derived.OwnWalkIn
import Derived.TacticsInMore
import Derived.LoopNIn
import Derived.LoopIn
import Derived.LoopN
import Derived.Handy
import Derived.Laws.EntriesVeiled
import Derived.WideLaws
set_option linter.unusedSimpArgs false
set_option linter.unusedVariables false
namespace Go.Proofs.YtnahgfdoiflacaaGreatDoor
open Go.RowKit Go.Lib Go.Shelf

theorem und84 : Tryz.prog.underlying 84 = some (.pointer 87) := by kernel_rfl
theorem und157 : Tryz.prog.underlying 157 = some .unsafePointer := by kernel_rfl
theorem und85 : Tryz.prog.underlying 85 = some (.slice 5) := by kernel_rfl
theorem und9 : Tryz.prog.underlying 9 = some .string := by kernel_rfl
theorem size87 : (Tryz.prog.info? 87).map (·.size) = some 2 := by kernel_rfl
theorem byte5 : (Tryz.prog.info? 5).map (fun i => (i.zero, i.size, i.bytes)) = some (some (.int .u8 0), 1, 1) := by kernel_rfl

/-- what does not lie in block b, and is no row of bytes, stays -/
def Hold (b : Nat) (w w' : World) : Prop := w.heap.size ≤ w'.heap.size ∧ ∀ k o, k ≠ b → w.heap[k]? = some o → (∀ cs fr, o ≠ .cells cs 5 fr) → w'.heap[k]? = some o
theorem Hold.refl (b : Nat) (w : World) : Hold b w w := ⟨Nat.le_refl _, fun _ _ _ h _ => h⟩
theorem Hold.trans {b : Nat} {w w1 w2 : World} (h : Hold b w w1) (k : Hold b w1 w2) : Hold b w w2 := ⟨Nat.le_trans h.1 k.1, fun i o hi ho hn => k.2 i o hi (h.2 i o hi ho hn) hn⟩
theorem Hold.set (b o : Nat) (w : World) (v : Value) : Hold b w (w.setCell ⟨b, o, none⟩ v) := ⟨by simp [World.setCell], fun k _ hk ho _ => (Below.heap_setCell _ _ _ _ (fun e => hk e)).trans ho⟩
theorem Hold.grown {b B n : Nat} {w w' : World} {v : Value} {xs : List Value} (hown : w.ownsRow B 5 1 v n xs) (hg : w.grownBy w' v.ownBlock) : Hold b w w' := by
  refine ⟨hg.size, fun k o _ ho hn => (hg.block k (blk_lt ho) fun e => ?_).trans ho⟩
  rcases hown.2 with ⟨rfl, _⟩ | ⟨g, cap, cur, rfl, _, hh, _⟩
  · simp [Value.ownBlock] at e
  · simp only [Value.ownBlock, Option.some.injEq] at e
    subst e
    rw [hh] at ho
    cases ho
    exact hn _ _ rfl

set_option maxHeartbeats 1000000 in
set_option maxRecDepth 100000 in
theorem copyCheck_used (b : Nat) (w : World) (h0 : w.cell? ⟨b, 0, none⟩ = some (.pointer (some ⟨b, 0, none⟩))) :
    Calls Tryz.prog 99 #[.pointer (some ⟨b, 0, none⟩)] w fun e w' => e = .returned (.tuple #[]) ∧ w' = w := by
  obtain ⟨j, hj, _⟩ := Option.map_eq_some_iff.1 size87
  go_enter Tryz.func99, Tryz.ntmps99
  go_wp2
  rw [Lib.run_neq_ptr_same w _ und84 hj]
  go_wp2
  go_end0
  exact ⟨rfl, rfl⟩

set_option maxHeartbeats 1000000 in
set_option maxRecDepth 100000 in
theorem copyCheck_fresh (b : Nat) (w : World) (h0 : w.cell? ⟨b, 0, none⟩ = some (.pointer none)) (hsh : w.shape? b = some (87, 2)) (hfz : w.frozen? ⟨b, 0, none⟩ = false) :
    Calls Tryz.prog 99 #[.pointer (some ⟨b, 0, none⟩)] w fun e w' => e = .returned (.tuple #[]) ∧ w' = w.setCell ⟨b, 0, none⟩ (.pointer (some ⟨b, 0, none⟩)) := by
  obtain ⟨j, hj, hjs⟩ := Option.map_eq_some_iff.1 size87
  go_enter Tryz.func99, Tryz.ntmps99
  go_wp2
  rw [Lib.run_to_unsafe w ⟨b, 0, none⟩ und84 und157 hj (by rw [hjs]; decide) hsh (Nat.zero_lt_succ 1)]
  simp only [Result.andThen]
  rw [Oper.upon_value]
  go_wp2
  rw [run_callFunc_extern Tryz.func136 (by kernel_rfl) (by kernel_rfl) (by kernel_rfl) (e := Extern.AbiNoEscape.same) (by kernel_rfl)]
  rw [Lib.run_noEscape]
  simp only [Result.andThen]
  rw [Oper.upon_value]
  go_wp2
  rw [Lib.run_from_unsafe w ⟨b, 0, none⟩ und157 und84 hj hsh (by kernel_rfl)]
  simp only [Result.andThen]
  rw [Oper.upon_value]
  go_wp2
  go_end0
  exact ⟨rfl, rfl⟩

theorem copyCheck_any (B b : Nat) (bs : List Value) (w : World) (h : Lib.IsBuilder 87 5 B b bs w) :
    Calls Tryz.prog 99 #[.pointer (some ⟨b, 0, none⟩)] w fun e w' => e = .returned (.tuple #[]) ∧ (Lib.BuilderAt 87 5 B b (.pointer (some ⟨b, 0, none⟩)) bs w' ∧ Below B w w') ∧ Hold b w w' := by
  rcases h with h | h
  · refine (copyCheck_fresh b w h.cell0 h.shape h.frozen0).mono ?_
    rintro e w' ⟨rfl, rfl⟩
    exact ⟨rfl, ⟨h.used _, (Below.refl B w).setCell (p := ⟨b, 0, none⟩) h.1 _⟩, Hold.set b 0 w _⟩
  · refine (copyCheck_used b w h.cell0).mono ?_
    rintro e w' ⟨rfl, rfl⟩
    exact ⟨rfl, ⟨h, Below.refl B _⟩, Hold.refl b _⟩

set_option maxHeartbeats 2000000 in
set_option maxRecDepth 100000 in
theorem writeString_any (B b : Nat) (bs : List Value) (s : ByteArray) (w : World) (h : Lib.IsBuilder 87 5 B b bs w) (hlen : bs.length + s.size ≤ 140737488355328) (hBw : B ≤ w.heap.size) :
    Calls Tryz.prog 51 #[.pointer (some ⟨b, 0, none⟩), .string s] w fun e w' => e = .returned (.tuple #[.int .i64 s.size, .nilIface]) ∧ (Lib.BuilderAt 87 5 B b (.pointer (some ⟨b, 0, none⟩)) (bs ++ Lib.strCells s) w' ∧ Below B w w' ∧ Hold b w w') := by
  obtain ⟨i0, hi, hz0, hz1, hz2⟩ := info_parts byte5
  go_enter Tryz.func51, Tryz.ntmps51
  go_wp2_with (go_at_call 99; refine (copyCheck_any B b bs _ h).mono ?_)
  rintro e w1 ⟨rfl, ⟨h1, hb1⟩, hh1⟩
  obtain ⟨hB, v, hbk, hown, hne⟩ := h1
  have c0 : w1.cell? ⟨b, 0, none⟩ = some (.pointer (some ⟨b, 0, none⟩)) := by rw [Lib.cell_of_heap hbk]; rfl
  have c1 : w1.cell? ⟨b, 1, none⟩ = some v := by rw [Lib.cell_of_heap hbk]; rfl
  go_wp2_with (at_builtin; refine Lib.wpList_append_own_string _ rfl _ _ 85 9 rfl B 5 i0 und85 und9 hi hz0 hz1 hz2 _ _ _ rfl hown s rfl ?c3 ?c4 ?c5 ?_)
  case c3 => unfold maxLen; omega
  case c4 => omega
  case c5 => have := hb1.size; omega
  intro v' w2 hown' hgrow _
  have hlt : b < w1.heap.size := blk_lt hbk
  have hb2 : w2.heap[b]? = some (.cells #[.pointer (some ⟨b, 0, none⟩), v] 87 (0, 0)) := by
    rw [hgrow.block b hlt (fun e => hne e.symm)]
    exact hbk
  have d0 : w2.cell? ⟨b, 0, none⟩ = some (.pointer (some ⟨b, 0, none⟩)) := by rw [Lib.cell_of_heap hb2]; rfl
  have d1 : w2.cell? ⟨b, 1, none⟩ = some v := by rw [Lib.cell_of_heap hb2]; rfl
  have f1 : w2.frozen? ⟨b, 1, none⟩ = false := Lib.frozen_of_heap hb2 1
  obtain ⟨ao, n', cap, rfl⟩ : ∃ ao n' cap, v' = .slice ao n' cap := by
    rcases hown'.2 with ⟨hv, _⟩ | ⟨g, cap, cur, hv, _⟩
    · exact ⟨_, _, _, hv⟩
    · exact ⟨_, _, _, hv⟩
  go_wp2
  go_ret2
  refine ⟨rfl, ?_, ?_, ?_⟩
  · exact Lib.BuilderAt.put (T := 87) (e := 5) hB hb2 (bs' := bs ++ Lib.strCells s) (by simpa [Lib.strCells_length] using hown') (by decide)
  · exact (hb1.grown hgrow (by have := hb1.size; omega) (fun k hk => (hown.lt k hk).1)).setCell (p := ⟨b, 1, none⟩) hB _
  · exact (hh1.trans (Hold.grown hown hgrow)).trans (Hold.set b 1 _ _)

theorem und142 : Tryz.prog.underlying 142 = some (.pointer 5) := by kernel_rfl
theorem cells5 : Tryz.prog.cellsOf 5 = 1 := by kernel_rfl
theorem Hold.drew {b : Nat} {w w' : World} (h : Hold b w w') : Hold b w w'.drew := h
theorem Hold.alloc {b : Nat} {w w' : World} (h : Hold b w w') (o : Obj) : Hold b w (w'.alloc o) := ⟨by have := h.1; simp; omega, fun k x hk hx hn => (Lib.alloc_old w' o k (blk_lt (h.2 k x hk hx hn))).trans (h.2 k x hk hx hn)⟩
theorem Hold.freeze {b g : Nat} {cur : Array Value} {fr : Nat × Nat} (w : World) (hg : w.heap[g]? = some (.cells cur 5 fr)) (n : Nat) : Hold b w (w.freeze ⟨g, 0, none⟩ n) := by
  unfold World.freeze
  split
  · exact Hold.refl _ _
  · refine ⟨by simp, fun k o hk ho hn => ?_⟩
    have hne : k ≠ g := by
      rintro rfl
      rw [hg] at ho
      cases ho
      exact hn _ _ rfl
    simp only [Array.getElem?_modify]
    rw [if_neg (fun e => hne e.symm)]
    exact ho

set_option maxHeartbeats 1000000 in
set_option maxRecDepth 100000 in
theorem string_some (B b : Nat) (l : List UInt8) (w : World) (h : Lib.IsBuilder 87 5 B b (Lib.byteCells l) w) (h0 : l ≠ []) :
    Calls Tryz.prog 60 #[.pointer (some ⟨b, 0, none⟩)] w fun e w' => e = .returned (.string ⟨l.toArray⟩) ∧ Below B w w' ∧ Hold b w w' := by
  obtain ⟨p, hB, v, hbk, hown, hne⟩ : ∃ p, Lib.BuilderAt 87 5 B b p (Lib.byteCells l) w := by
    rcases h with h | h
    · exact ⟨_, h⟩
    · exact ⟨_, h⟩
  have hl0 : l.length ≠ 0 := by simpa using h0
  rw [Lib.byteCells_length] at hown
  obtain ⟨g, cap, cur, rfl, hbg, hg, hnc, hcm, hcs, htake⟩ : ∃ g cap cur, v = .slice (some ⟨g, 0, none⟩) l.length cap ∧ B ≤ g ∧ w.heap[g]? = some (.cells cur 5 (0, 0)) ∧ l.length ≤ cap ∧ cap ≤ maxLen ∧ cur.size = cap * 1 ∧ cur.toList.take (l.length * 1) = Lib.byteCells l := by
    rcases hown.2 with ⟨_, hz⟩ | ⟨g, cap, cur, hv, r⟩
    · exact absurd hz hl0
    · exact ⟨g, cap, cur, hv, r⟩
  have c1 : w.drew.cell? ⟨b, 1, none⟩ = some (.slice (some ⟨g, 0, none⟩) l.length cap) := by
    have : w.drew.heap[b]? = some (.cells #[p, .slice (some ⟨g, 0, none⟩) l.length cap] 87 (0, 0)) := hbk
    rw [Lib.cell_of_heap this]; rfl
  have hg' : w.drew.heap[g]? = some (.cells cur 5 (0, 0)) := hg
  have hSD : (Builtin.unsafeSliceData_ #[85] 142 #[.slice (some ⟨g, 0, none⟩) l.length cap]).run Tryz.prog w.drew = .ok (.pointer (some ⟨g, 0, none⟩)) w.drew :=
    Lib.run_unsafeSliceData_row _ _ _ _ _ _ (by omega)
  have hUS : (Builtin.unsafeString_ #[142, 3] 9 #[.pointer (some ⟨g, 0, none⟩), .int .i64 l.length]).run Tryz.prog w.drew = .ok (.string ⟨l.toArray⟩) (w.drew.freeze ⟨g, 0, none⟩ l.length) := by
    refine Lib.run_unsafeString_row w.drew 142 3 9 5 und142 cells5 g cur.size (by simp [World.shape?, hg']) l h0 (by omega) (by unfold maxLen at hcm; omega) ?_
    intro j x hx
    have := hown.cells (g := g) rfl j (.int .u8 x.toNat) (by simp [Lib.byteCells, hx])
    exact this
  have hfin : Below B w (w.drew.freeze ⟨g, 0, none⟩ l.length) ∧ Hold b w (w.drew.freeze ⟨g, 0, none⟩ l.length) := ⟨Lib.below_freeze (Below.drew (Below.refl B w)) (p := ⟨g, 0, none⟩) hbg _, (Hold.drew (Hold.refl b w)).trans (Hold.freeze w.drew hg' l.length)⟩
  have hfin := Lib.hid hfin
  clear hg' hown h htake
  have mixed : Tryz.prog.follows Departure.mixedOrders = true := by kernel_rfl
  go_enter Tryz.func60, Tryz.ntmps60
  go_wp2
  go_region_o
  all_goals (go_wp2; go_ret; exact ⟨rfl, hfin.out⟩)

theorem unsafeString_none (W : World) (q : Option Addr) : (Builtin.unsafeString_ #[142, 3] 9 #[.pointer q, .int .i64 0]).run Tryz.prog W = .ok (.string .empty) W := Lib.run_unsafeString_none W _ _ _ q

set_option maxHeartbeats 2000000 in
set_option maxRecDepth 100000 in
theorem string_nil (B b : Nat) (p : Value) (w : World) (hbk : w.heap[b]? = some (.cells #[p, .slice none 0 0] 87 (0, 0))) :
    Calls Tryz.prog 60 #[.pointer (some ⟨b, 0, none⟩)] w fun e w' => e = .returned (.string ⟨#[]⟩) ∧ Below B w w' ∧ Hold b w w' := by
  have hUS := unsafeString_none
  have c1 : w.drew.cell? ⟨b, 1, none⟩ = some (.slice none 0 0) := by
    have : w.drew.heap[b]? = some (.cells #[p, .slice none 0 0] 87 (0, 0)) := hbk
    rw [Lib.cell_of_heap this]; rfl
  have hSD : (Builtin.unsafeSliceData_ #[85] 142 #[.slice none 0 0]).run Tryz.prog w.drew = .ok (.pointer none) w.drew := rfl
  have mixed : Tryz.prog.follows Departure.mixedOrders = true := by kernel_rfl
  go_enter Tryz.func60, Tryz.ntmps60
  go_wp2
  go_region_o
  all_goals (go_wp2; go_ret; exact ⟨rfl, Below.drew (Below.refl B w), (Hold.refl b w).drew⟩)

set_option maxHeartbeats 2000000 in
set_option maxRecDepth 100000 in
theorem string_noroom (B b g : Nat) (p : Value) (cur : Array Value) (w : World) (hBw : B ≤ w.heap.size) (hbk : w.heap[b]? = some (.cells #[p, .slice (some ⟨g, 0, none⟩) 0 0] 87 (0, 0))) (hg : w.heap[g]? = some (.cells cur 5 (0, 0))) :
    Calls Tryz.prog 60 #[.pointer (some ⟨b, 0, none⟩)] w fun e w' => e = .returned (.string ⟨#[]⟩) ∧ Below B w w' ∧ Hold b w w' := by
  have hUS := unsafeString_none
  have hlt : b < w.heap.size := blk_lt hbk
  have c1 : w.drew.cell? ⟨b, 1, none⟩ = some (.slice (some ⟨g, 0, none⟩) 0 0) := by
    have : w.drew.heap[b]? = some (.cells #[p, .slice (some ⟨g, 0, none⟩) 0 0] 87 (0, 0)) := hbk
    rw [Lib.cell_of_heap this]; rfl
  have hSD : (Builtin.unsafeSliceData_ #[85] 142 #[.slice (some ⟨g, 0, none⟩) 0 0]).run Tryz.prog w.drew = .ok (.pointer (some ⟨w.drew.heap.size, 0, none⟩)) (w.drew.alloc (.view ⟨g, 0, none⟩ 5)) :=
    Lib.run_unsafeSliceData_zero w.drew _ _ 5 und142 ⟨g, 0, none⟩ 0 (5, cur.size) (by have hg' : w.drew.heap[g]? = some (.cells cur 5 (0, 0)) := hg; simp [World.shape?, hg'])
  have c2 : (w.drew.alloc (.view ⟨g, 0, none⟩ 5)).cell? ⟨b, 1, none⟩ = some (.slice (some ⟨g, 0, none⟩) 0 0) := by
    have : (w.drew.alloc (.view ⟨g, 0, none⟩ 5)).heap[b]? = _ := (Lib.alloc_old w.drew _ b hlt).trans hbk
    rw [Lib.cell_of_heap this]; rfl
  have c3 : (w.alloc (.view ⟨g, 0, none⟩ 5)).drew.cell? ⟨b, 1, none⟩ = some (.slice (some ⟨g, 0, none⟩) 0 0) := c2
  have c0 : w.cell? ⟨b, 1, none⟩ = some (.slice (some ⟨g, 0, none⟩) 0 0) := c1
  have mixed : Tryz.prog.follows Departure.mixedOrders = true := by kernel_rfl
  go_enter Tryz.func60, Tryz.ntmps60
  go_wp2
  go_region_o
  all_goals (go_wp2; go_ret; exact ⟨rfl, (Below.drew (Below.refl B w)).alloc hBw _, ((Hold.refl b w).drew).alloc _⟩)

set_option maxHeartbeats 2000000 in
set_option maxRecDepth 100000 in
theorem string_room (B b g cap : Nat) (p : Value) (w : World) (hc0 : cap ≠ 0) (hbk : w.heap[b]? = some (.cells #[p, .slice (some ⟨g, 0, none⟩) 0 cap] 87 (0, 0))) :
    Calls Tryz.prog 60 #[.pointer (some ⟨b, 0, none⟩)] w fun e w' => e = .returned (.string ⟨#[]⟩) ∧ Below B w w' ∧ Hold b w w' := by
  have hUS := unsafeString_none
  have c1 : w.drew.cell? ⟨b, 1, none⟩ = some (.slice (some ⟨g, 0, none⟩) 0 cap) := by
    have : w.drew.heap[b]? = some (.cells #[p, .slice (some ⟨g, 0, none⟩) 0 cap] 87 (0, 0)) := hbk
    rw [Lib.cell_of_heap this]; rfl
  have hSD : (Builtin.unsafeSliceData_ #[85] 142 #[.slice (some ⟨g, 0, none⟩) 0 cap]).run Tryz.prog w.drew = .ok (.pointer (some ⟨g, 0, none⟩)) w.drew :=
    Lib.run_unsafeSliceData_row _ _ _ _ _ _ hc0
  clear hc0
  have mixed : Tryz.prog.follows Departure.mixedOrders = true := by kernel_rfl
  go_enter Tryz.func60, Tryz.ntmps60
  go_wp2
  go_region_o
  all_goals (go_wp2; go_ret; exact ⟨rfl, Below.drew (Below.refl B w), (Hold.refl b w).drew⟩)

theorem string_any (B b : Nat) (l : List UInt8) (w : World) (h : Lib.IsBuilder 87 5 B b (Lib.byteCells l) w) (hBw : B ≤ w.heap.size) :
    Calls Tryz.prog 60 #[.pointer (some ⟨b, 0, none⟩)] w fun e w' => e = .returned (.string ⟨l.toArray⟩) ∧ Below B w w' ∧ Hold b w w' := by
  cases l with
  | nil =>
    obtain ⟨p, hB, v, hbk, hown, hne⟩ : ∃ p, Lib.BuilderAt 87 5 B b p [] w := by
      rcases h with h | h
      · exact ⟨_, h⟩
      · exact ⟨_, h⟩
    rcases hown.2 with ⟨rfl, _⟩ | ⟨g, cap, cur, rfl, hbg, hg, _, _, _, _⟩
    · exact string_nil B b p w hbk
    · by_cases hc0 : cap = 0
      · subst hc0
        exact string_noroom B b g p cur w hBw hbk hg
      · exact string_room B b g cap p w hc0 hbk
  | cons x r => exact string_some B b (x :: r) w h (by simp)
end Go.Proofs.YtnahgfdoiflacaaGreatDoor
namespace Go.Proofs.YtnahgfdoiflacaaGreatDoor
open Go.RowKit Go.Lib Go.Shelf

theorem below_put {B l : Nat} {w W : World} (h : Below B w W) (hl : B ≤ l) (o' : Obj) : Below B w (W.putObj l o') :=
  h.trans ⟨rfl, rfl, rfl, by simp, fun k hk => World.putObj_heap_other (by omega)⟩
theorem own_put {W : World} {base l : Nat} {t : TypeId} {sz n : Nat} {v : Value} {L : List Value} {o : Obj} (h : W.ownsRow base t sz v n L) (hl : W.heap[l]? = some o) (ho : o.isCells = false) (o' : Obj) : (W.putObj l o').ownsRow base t sz v n L := by
  refine h.kept (grownBy_putObj' W l o') ?_
  obtain ⟨_, hcase⟩ := h
  rcases hcase with ⟨hv, _⟩ | ⟨g, cap, cur, hv, _, hh, _⟩
  · left; rw [hv]; simp [Value.ownBlock]
  · right
    rw [hv]
    simp only [Value.ownBlock]
    intro e
    injection e with e
    subst e
    rw [hh] at hl
    cases hl
    cases ho
attribute [local go_sem] Oper.semAt_some
/-! marks of loops that are over -/
def mks (Ds : List Nat) : List Deferred := Ds.map fun D => { target := .collected D, args := #[] }
def shutAll : List Nat → World → World
  | [], W => W
  | D :: Ds, W => shutAll Ds (W.putObj D (.deferred none))
theorem leaves_marks {F : Fence} {n : Nat} {P : Program} {fn : Func} {tmps : Array Value} {R : Ending → World → Prop} : ∀ (Ds : List Nat) (W : World), (∀ D ∈ Ds, W.heap[D]? = some (.deferred (some []))) → Ds.Nodup →
    LeavesIn F n P fn tmps R [] .returning (shutAll Ds W) → LeavesInM F n P fn tmps R (mks Ds) .returning W
  | [], W, _, _, h => h
  | D :: Ds, W, hk, hn, h => by
    obtain ⟨h1, h2⟩ := List.nodup_cons.1 hn
    refine ⟨by simp, .inl ⟨D, _, rfl, run_takeDeferred (hk D (by simp)), leaves_marks Ds _ (fun D' hD' => ?_) h2 h⟩⟩
    exact (World.putObj_heap_other (by rintro rfl; exact h1 hD')).trans (hk D' (by simp [hD']))
theorem shut_below {B : Nat} {w : World} : ∀ (Ds : List Nat) (W : World), (∀ D ∈ Ds, B ≤ D) → Below B w W → Below B w (shutAll Ds W)
  | [], W, _, h => h
  | D :: Ds, W, hk, h => shut_below Ds _ (fun D' hD' => hk D' (by simp [hD'])) (below_put h (hk D (by simp)) _)

/-! a text that is being built, as the world grows -/
theorem BuilderAt.go {B b : Nat} {p : Value} {bs : List Value} {W W' : World} (h : Lib.BuilderAt 87 5 B b p bs W) (hb : Below W.heap.size W W') : Lib.BuilderAt 87 5 B b p bs W' := by
  obtain ⟨h1, v, h2, h3, h4⟩ := h
  exact ⟨h1, v, (hb.block b (blk_lt h2)).trans h2, h3.kept (row := none) ⟨hb.os, hb.tape, hb.output, hb.size, fun i hi _ => hb.block i hi⟩ (Classical.em _), h4⟩
theorem BuilderAt.pu {B b l : Nat} {p : Value} {bs : List Value} {W : World} {o : Obj} (h : Lib.BuilderAt 87 5 B b p bs W) (hl : W.heap[l]? = some o) (ho : o.isCells = false) (o' : Obj) : Lib.BuilderAt 87 5 B b p bs (W.putObj l o') := by
  obtain ⟨h1, v, h2, h3, h4⟩ := h
  refine ⟨h1, v, ?_, own_put h3 hl ho o', h4⟩
  have hne : b ≠ l := by
    rintro rfl
    rw [h2] at hl
    cases hl
    cases ho
  exact (World.putObj_heap_other hne).trans h2
theorem IsBuilder.go {B b : Nat} {bs : List Value} {W W' : World} (h : Lib.IsBuilder 87 5 B b bs W) (hb : Below W.heap.size W W') : Lib.IsBuilder 87 5 B b bs W' := h.elim (fun h => .inl (BuilderAt.go h hb)) (fun h => .inr (BuilderAt.go h hb))
theorem IsBuilder.pu {B b l : Nat} {bs : List Value} {W : World} {o : Obj} (h : Lib.IsBuilder 87 5 B b bs W) (hl : W.heap[l]? = some o) (ho : o.isCells = false) (o' : Obj) : Lib.IsBuilder 87 5 B b bs (W.putObj l o') := h.elim (fun h => .inl (BuilderAt.pu h hl ho o')) (fun h => .inr (BuilderAt.pu h hl ho o'))
theorem IsBuilder.cells {B b : Nat} {bs : List Value} {W : World} (h : Lib.IsBuilder 87 5 B b bs W) : ∃ cs, W.heap[b]? = some (.cells cs 87 (0, 0)) := by
  rcases h with ⟨_, v, h, _⟩ | ⟨_, v, h, _⟩
  · exact ⟨_, h⟩
  · exact ⟨_, h⟩
theorem IsBuilder.lo {B b : Nat} {bs : List Value} {W : World} (h : Lib.IsBuilder 87 5 B b bs W) : B ≤ b := by
  rcases h with ⟨h, _⟩ | ⟨h, _⟩ <;> exact h

set_option maxRecDepth 100000 in
set_option maxHeartbeats 2000000 in
theorem deepNil_any (W : World) : Calls Tryz.prog 28 #[.slice none 0 0] W (IntPost 0 W) := by
  have hk : Calls Tryz.prog 79 #[.slice none 0 0, .func (.func 80) #[] #[]] W (IntPost 0 W) := by
    go_enter Tryz.func79, Tryz.ntmps79
    go_wp2
    go_rounds 1
    go_ret
    exact ⟨rfl, Below.refl _ _⟩
  have hk := Lib.hid hk
  go_enter Tryz.func28, Tryz.ntmps28
  go_wp2_with fail
  refine hk.out.mono ?_
  rintro e w1 ⟨rfl, hb⟩
  go_wp2
  go_ret
  exact ⟨rfl, hb⟩
set_option maxRecDepth 100000 in
set_option maxHeartbeats 2000000 in
theorem mayNil_any (W : World) : Calls Tryz.prog 68 #[.slice none 0 0] W (BoolPost true W) := by
  have hd := Lib.hid (deepNil_any W)
  have ha := Lib.hid (fun W' => allT_any 115 (enters_of Tryz.func115 (by kernel_rfl) rfl) (fun _ => true) W' [] none (CellsAt.nil none) 0 W' (Below.refl _ _) (by simp) (fun i x hx => by simp at hx))
  go_enter Tryz.func68, Tryz.ntmps68
  go_wp2_with fail
  refine hd.out.mono ?_
  rintro e w1 ⟨rfl, hb⟩
  go_wp2_with fail
  refine (ha.out w1).mono ?_
  rintro e w2 ⟨rfl, hb2⟩
  go_wp2
  go_ret
  exact ⟨rfl, Below.next hb hb2⟩
def fT : ByteArray := ⟨#[102]⟩
theorem name_f : nameB fT = true := by decide +kernel
set_option maxRecDepth 100000 in
set_option maxHeartbeats 2000000 in
theorem fn63_f (W : World) : Calls Tryz.prog 63 #[.agg #[.string fT, .slice none 0 0, .slice none 0 0, .slice none 0 0, .slice none 0 0]] W (BoolPost true W) := by
  have hx := Lib.hid (heap_alloc_new W (.cells #[.string fT, .slice none 0 0, .slice none 0 0, .slice none 0 0, .slice none 0 0] 54))
  obtain ⟨W1, hW1⟩ : ∃ W1, W.alloc (.cells #[.string fT, .slice none 0 0, .slice none 0 0, .slice none 0 0, .slice none 0 0] 54) = W1 := ⟨_, rfl⟩
  have hb1 : Below W.heap.size W W1 := by rw [← hW1]; exact (Below.refl _ W).alloc (Nat.le_refl _) _
  have hx1 : W1.heap[W.heap.size]? = some (.cells #[.string fT, .slice none 0 0, .slice none 0 0, .slice none 0 0, .slice none 0 0] 54 (0, 0)) := by rw [← hW1]; exact heap_alloc_new _ _
  have hn := name_any fT W1 (by decide)
  rw [name_f] at hn
  have hn := Lib.hid hn
  have hv := Lib.hid (fun (g : Nat) (hent : ∀ args w, (callFunc g args).run Tryz.prog w = .ok (.enter g args) w) (W' : World) => allV_any g hent (fun _ => true) W' [] none (CellsAt.nil none) 0 W' (Below.refl _ _) (by simp) (fun i x hx => by simp at hx))
  have hs := Lib.hid (fun (W' : World) => allS_any 62 (enters_of Tryz.func62 (by kernel_rfl) rfl) (fun _ => true) W' [] none (CellsAt.nil none) 0 W' (Below.refl _ _) (by simp) (fun i x hx => by simp at hx))
  have hm := Lib.hid mayNil_any
  have hW1' := Lib.hid hW1
  have hb1 := Lib.hid hb1
  have hx1 := Lib.hid hx1
  have e65 := Lib.hid (enters_of Tryz.func65 (by kernel_rfl) rfl)
  have e66 := Lib.hid (enters_of Tryz.func66 (by kernel_rfl) rfl)
  clear hx hW1
  have cells : ∀ W2 : World, Below W1.heap.size W1 W2 → W2.cell? ⟨W.heap.size, 0, none⟩ = some (.string fT) ∧ W2.cell? ⟨W.heap.size, 1, none⟩ = some (.slice none 0 0) ∧ W2.cell? ⟨W.heap.size, 2, none⟩ = some (.slice none 0 0) ∧ W2.cell? ⟨W.heap.size, 3, none⟩ = some (.slice none 0 0) ∧ W2.cell? ⟨W.heap.size, 4, none⟩ = some (.slice none 0 0) := fun W2 hb => by
    have h := (hb.block W.heap.size (blk_lt hx1.out)).trans hx1.out
    exact ⟨by rw [blk_cell h]; rfl, by rw [blk_cell h]; rfl, by rw [blk_cell h]; rfl, by rw [blk_cell h]; rfl, by rw [blk_cell h]; rfl⟩
  have cells := Lib.hid cells
  obtain ⟨g0, g1, g2, g3, g4⟩ := cells.out W1 (Below.refl _ _)
  go_enter Tryz.func63, Tryz.ntmps63
  go_wp2_with fail
  rw [hW1'.out]
  go_wp2_with fail
  refine hn.out.mono ?_
  rintro e w1 ⟨rfl, hb2⟩
  have hb2 := Lib.hid hb2
  clear g0 g1 g2 g3 g4
  obtain ⟨g0, g1, g2, g3, g4⟩ := cells.out _ hb2.out
  go_wp2_with fail
  refine (hv.out 65 e65.out _).mono ?_
  rintro e w2 ⟨rfl, hb3⟩
  have hb3 := Lib.hid (Below.next hb2.out hb3)
  clear g0 g1 g2 g3 g4
  obtain ⟨g0, g1, g2, g3, g4⟩ := cells.out _ hb3.out
  go_wp2_with fail
  refine (hv.out 66 e66.out _).mono ?_
  rintro e w2 ⟨rfl, hb4⟩
  have hb4 := Lib.hid (Below.next hb3.out hb4)
  clear g0 g1 g2 g3 g4
  obtain ⟨g0, g1, g2, g3, g4⟩ := cells.out _ hb4.out
  go_wp2_with fail
  refine (hs.out _).mono ?_
  rintro e w2 ⟨rfl, hb5⟩
  have hb5 := Lib.hid (Below.next hb4.out hb5)
  clear g0 g1 g2 g3 g4
  obtain ⟨g0, g1, g2, g3, g4⟩ := cells.out _ hb5.out
  go_wp2_with fail
  refine (hm.out _).mono ?_
  rintro e w2 ⟨rfl, hb6⟩
  have hb6 := Lib.hid (Below.next hb5.out hb6)
  go_wp2
  go_ret
  exact ⟨rfl, Below.next hb1.out hb6.out⟩
/-- the one function lies -/
def fC : FnC := ⟨fT, ⟨none, 0, 0⟩, ⟨none, 0, 0⟩, ⟨none, 0, 0⟩, ⟨none, 0, 0⟩⟩
def FAt (fb : Nat) (W : World) : Prop := W.heap[fb]? = some (.cells #[.string fT, .slice none 0 0, .slice none 0 0, .slice none 0 0, .slice none 0 0] 54 (0, 0))
theorem FAt.cells {fb : Nat} {W : World} (h : FAt fb W) : CellsAt 5 cellsF W [fC] (some ⟨fb, 0, none⟩) := by
  refine ⟨fb, 0, fun _ => rfl, fun i x hx j hj => ?_⟩
  have hi := (List.getElem?_eq_some_iff.1 hx).1
  obtain rfl : i = 0 := by simpa using hi
  cases hx
  rw [show 0 + 0 * 5 + j = j by omega, blk_cell h]
  rcases (show j = 0 ∨ j = 1 ∨ j = 2 ∨ j = 3 ∨ j = 4 by omega) with rfl | rfl | rfl | rfl | rfl <;> rfl
set_option maxRecDepth 100000 in
set_option maxHeartbeats 2000000 in
theorem mayP_f (fb c : Nat) (W : World) (h : FAt fb W) : Calls Tryz.prog 20 #[.agg #[.slice none 0 0, .slice (some ⟨fb, 0, none⟩) 1 c]] W (BoolPost true W) := by
  have hr := Lib.hid (fun (W' : World) => allR_any 61 (enters_of Tryz.func61 (by kernel_rfl) rfl) (fun _ => true) W' [] none (CellsAt.nil none) 0 W' (Below.refl _ _) (by simp) (fun i x hx => by simp at hx))
  have hf := Lib.hid (fun (W' : World) (hb : Below W.heap.size W W') => allF_any 63 (enters_of Tryz.func63 (by kernel_rfl) rfl) (fun _ => true) W [fC] (some ⟨fb, 0, none⟩) h.cells c W' hb (by simp) (fun i x hx W'' hb => by
    have hi := (List.getElem?_eq_some_iff.1 hx).1
    obtain rfl : i = 0 := by simpa using hi
    cases hx
    exact fn63_f W''))
  have hx := Lib.hid (heap_alloc_new W (.cells #[.slice none 0 0, .slice (some ⟨fb, 0, none⟩) 1 c] 39))
  clear h
  go_enter Tryz.func20, Tryz.ntmps20
  go_wp2_with fail
  refine (hr.out _).mono ?_
  rintro e w1 ⟨rfl, hb1⟩
  have hxx := (hb1.block W.heap.size (by simp)).trans hx.out
  have g1 : w1.cell? ⟨W.heap.size, 1, none⟩ = some (.slice (some ⟨fb, 0, none⟩) 1 c) := by rw [blk_cell hxx]; rfl
  have hb1 := Lib.hid (Below.next ((Below.refl _ W).alloc (Nat.le_refl _) _) hb1)
  clear hxx
  go_wp2_with fail
  refine (hf.out _ hb1.out).mono ?_
  rintro e w2 ⟨rfl, hb2⟩
  have hb2 := Lib.hid (Below.next hb1.out hb2)
  go_wp2
  go_ret
  exact ⟨rfl, hb2.out⟩
end Go.Proofs.YtnahgfdoiflacaaGreatDoor
namespace Go.Proofs.YtnahgfdoiflacaaGreatDoor
open Go.RowKit Go.Lib Go.Shelf

theorem Hold.of_below {b : Nat} {w w' : World} (h : Below w.heap.size w w') : Hold b w w' := ⟨h.size, fun k o _ ho _ => (h.block k (blk_lt ho)).trans ho⟩
/-- a line behind tabs -/
def lineT (tabs : Nat) (s : ByteArray) : ByteArray := ⟨(Lib.repeatL [9] tabs).toArray⟩ ++ s ++ ⟨#[10]⟩
theorem repeat_len (c : Nat) : (Lib.repeatL [9] c).length = c := by rw [Lib.repeatL_length]; simp
theorem repeat_size (c : Nat) : (⟨(Lib.repeatL [9] c).toArray⟩ : ByteArray).size = c := by rw [← size_list]; simpa using repeat_len c
set_option maxRecDepth 100000 in
set_option maxHeartbeats 2000000 in
theorem line_any (B b : Nat) (bs : List Value) (tabs : Nat) (s : ByteArray) (W : World) (h : Lib.IsBuilder 87 5 B b bs W) (ht : tabs ≤ 1000000) (hlen : bs.length + tabs + s.size ≤ 1000000000000) (hB : B ≤ W.heap.size) :
    Calls Tryz.prog 50 #[.int .i64 tabs, .string s, .pointer (some ⟨b, 0, none⟩)] W fun e w' => e = .returned (.tuple #[]) ∧ (Lib.BuilderAt 87 5 B b (.pointer (some ⟨b, 0, none⟩)) (bs ++ Lib.strCells (lineT tabs s)) w' ∧ Below B W w' ∧ Hold b W w') := by
  have hr := Lib.hid (Tryz.strings_Repeat ⟨#[9]⟩ tabs W (by omega) (by show 1 * tabs ≤ _; omega))
  have e9 : (⟨#[9]⟩ : ByteArray).data.toList = [9] := rfl
  have e10 : (⟨#[10]⟩ : ByteArray).size = 1 := rfl
  have hsz := repeat_size tabs
  have hcz : (lineT tabs s).size = tabs + s.size + 1 := by
    unfold lineT
    rw [ByteArray.size_append, ByteArray.size_append, hsz, e10]
  have hw := Lib.hid (fun (w1 : World) (hb : Below W.heap.size W w1) => writeString_any B b bs (lineT tabs s) w1 (IsBuilder.go h hb) (by omega) (Nat.le_trans hB hb.size))
  obtain ⟨rt, hrt⟩ : ∃ rt, (⟨(Lib.repeatL [9] tabs).toArray⟩ : ByteArray) = rt := ⟨_, rfl⟩
  have hlt : rt ++ s ++ ⟨#[10]⟩ = lineT tabs s := by rw [← hrt]; rfl
  have hr2 := hr.out
  rw [e9, hrt] at hr2
  rw [hrt] at hsz
  have hr2 := Lib.hid hr2
  have hlt := Lib.hid hlt
  have c1 : ¬ rt.size + s.size > 9223372036854775807 := by omega
  have c2 : ¬ rt.size + s.size + 1 > 9223372036854775807 := by omega
  have c1' : ¬ 9223372036854775807 < rt.size + s.size := by omega
  have c2' : ¬ 9223372036854775807 < rt.size + s.size + 1 := by omega
  have hB' := Lib.hid hB
  clear h hcz hsz hrt hr hB e9 hlen ht
  go_enter Tryz.func50, Tryz.ntmps50
  go_wp2_with fail
  refine hr2.out.mono ?_
  rintro e w1 ⟨rfl, hb1⟩
  have hb1 := Lib.hid hb1
  go_wp2_with fail
  refine (hw.out _ hb1.out).mono ?_
  rintro e w2 ⟨rfl, hb2, hb3, hb4⟩
  have hq := Lib.hid (show Lib.BuilderAt 87 5 B b (.pointer (some ⟨b, 0, none⟩)) (bs ++ Lib.strCells (lineT tabs s)) w2 ∧ Below B W w2 ∧ Hold b W w2 from ⟨hb2, (hb1.out.mono hB'.out).trans hb3, (Hold.of_below hb1.out).trans hb4⟩)
  clear hb2 hb3 hb4
  go_wp2
  go_end0
  exact ⟨rfl, hq.out⟩
set_option maxRecDepth 100000 in
set_option maxHeartbeats 2000000 in
theorem lines30_any (A : Option Addr) (n c : Nat) (W : World) : Calls Tryz.prog 30 #[.slice A n c] W fun e w' => e = .returned (.func (.func 81) #[] #[.pointer (some ⟨W.heap.size, 0, none⟩)]) ∧ w' = W.alloc (.cells #[.slice A n c] 48) := by
  go_enter Tryz.func30, Tryz.ntmps30
  go_wp2
  go_ret
  exact ⟨rfl, rfl⟩
set_option maxRecDepth 100000 in
set_option maxHeartbeats 2000000 in
theorem tell82_nil (p q : Addr) (W : World) : Calls Tryz.prog 82 #[.slice none 0 0, .int .i64 0, .pointer (some p), .pointer (some q)] W (BoolPost true W) := by
  go_enter Tryz.func82, Tryz.ntmps82
  go_wp2
  go_rounds 1
  go_ret
  exact ⟨rfl, Below.refl _ _⟩
set_option maxRecDepth 100000 in
set_option maxHeartbeats 2000000 in
theorem iter81_nil (l b : Nat) (W : World) (h : W.heap[b]? = some (.cells #[.slice none 0 0] 48 (0, 0))) :
    Calls Tryz.prog 81 #[.func (.yield l) #[] #[], .pointer (some ⟨b, 0, none⟩)] W fun e w' => e = .returned (.tuple #[]) ∧ Below W.heap.size W w' := by
  have hm := Lib.hid mayNil_any
  have ht := Lib.hid tell82_nil
  have hlt := blk_lt h
  have h' := Lib.hid h
  have g0 : (W.alloc (.cells #[.func (.yield l) #[] #[]] 71)).cell? ⟨b, 0, none⟩ = some (.slice none 0 0) := by
    rw [blk_cell ((heap_alloc_old _ _ hlt).trans h)]; rfl
  clear h
  go_enter Tryz.func81, Tryz.ntmps81
  go_wp2_with fail
  refine (hm.out _).mono ?_
  rintro e w1 ⟨rfl, hb1⟩
  have hx1 := (hb1.block b (by simp; omega)).trans ((heap_alloc_old _ _ hlt).trans h'.out)
  have g1 : ∀ o : Obj, (w1.alloc o).cell? ⟨b, 0, none⟩ = some (.slice none 0 0) := fun o => by
    rw [blk_cell ((heap_alloc_old _ _ (blk_lt hx1)).trans hx1)]; rfl
  have hb1 := Lib.hid (Below.next ((Below.refl _ W).alloc (Nat.le_refl _) _) hb1)
  clear hx1 g0
  go_wp2_with fail
  refine (ht.out _ _ _).mono ?_
  rintro e w2 ⟨rfl, hb2⟩
  have hb2 := Lib.hid (Below.next (hb1.out.alloc hb1.out.size _) hb2)
  go_wp2
  go_end0
  exact ⟨rfl, hb2.out⟩
end Go.Proofs.YtnahgfdoiflacaaGreatDoor
namespace Go.Proofs.YtnahgfdoiflacaaGreatDoor
open Go.RowKit Go.Lib Go.Shelf

theorem wp_range_none {g : Operand} {p q : Tmp} {assign body : Code} {Q : Exit → Act → World → Prop} {a : Act} {w : World} {gf : Nat} {lb : Array Value}
    (hg : a.eval g = .func (.func gf) #[] lb) (eg : ∀ args w, (callFunc gf args).run Tryz.prog w = .ok (.enter gf args) w)
    (hiter : ∀ (l : Nat) (W : World), Below w.heap.size w W → Calls Tryz.prog gf (#[.func (.yield l) #[] #[]] ++ lb) W fun e W' => (∃ v, e = .returned v) ∧ Below W.heap.size W W')
    (hdone : ∀ (D : Nat) (W : World), w.heap.size ≤ D → Below w.heap.size w W → W.heap[D]? = some (.deferred (some [])) → Q .normal { a with defers := { target := .collected D, args := #[] } :: a.defers } W) :
    (Code.rangeFunc g #[p, q] assign body).wp Tryz.prog Q a w := by
  refine (wpIn_wide (n := 4)).1 (wpIn_rangeFunc fun fn hfn => ?_)
  have hlp : ∃ R : LoopState → Option Code → Loop, ∀ st pe, R st pe = { state := st, pending := pe, fn := fn, tmps := a.tmps, params := #[p, q], assign := assign, body := body, defers := w.heap.size } := ⟨_, fun _ _ => rfl⟩
  obtain ⟨R, hR⟩ := hlp
  have hD1 : ((w.alloc (.deferred (some []))).alloc (.loop (R .ready none))).heap[w.heap.size]? = some (.deferred (some [])) :=
    (heap_alloc_old _ _ (by simp)).trans (heap_alloc_new w _)
  have hL1 : ((w.alloc (.deferred (some []))).alloc (.loop (R .ready none))).heap[w.heap.size + 1]? = some (.loop (R .ready none)) := by
    have h := heap_alloc_new (w.alloc (.deferred (some []))) (.loop (R .ready none))
    have e : (w.alloc (.deferred (some []))).heap.size = w.heap.size + 1 := by simp
    rwa [e] at h
  have hB1 : Below w.heap.size w ((w.alloc (.deferred (some []))).alloc (.loop (R .ready none))) := ((Below.refl _ w).alloc (Nat.le_refl _) _).alloc (by simp) _
  generalize hW1 : (w.alloc (.deferred (some []))).alloc (.loop (R .ready none)) = W1 at hD1 hL1 hB1
  refine ⟨w.heap.size + 1, [{ target := .collected w.heap.size, args := #[] }], W1, { target := .fn (.func gf) lb, args := #[.func (.yield (w.heap.size + 1)) #[] #[]] }, W1, gf, #[.func (.yield (w.heap.size + 1)) #[] #[]] ++ lb, W1, ?_, ?_, ?_, ?_, fun _ => by omega, ?_⟩
  · rw [← hW1, hR]
    exact run_enterLoop_outer _ _ _ _ _
  · simp only [resolve, hg]
    simp [go_sem]
  · intro f' _
    exact trivial
  · simp [invoke, go_sem, eg]
  · refine (callsIn_wide.2 (hiter (w.heap.size + 1) W1 hB1)).mono ?_
    rintro e W2 ⟨⟨v, rfl⟩, hb⟩
    have hl := (hb.block _ (blk_lt hL1)).trans hL1
    have hd := (hb.block _ (blk_lt hD1)).trans hD1
    have hrun := run_endLoop (P := Tryz.prog) hl (by rw [hR]; simp)
    rw [show (R .ready none).pending = none by rw [hR]] at hrun
    exact ⟨none, _, hrun, hdone _ _ (Nat.le_refl _) (below_put (Below.next hB1 hb) (by omega) _) ((World.putObj_heap_other (by omega)).trans hd)⟩

set_option maxRecDepth 100000 in
set_option maxHeartbeats 2000000 in
theorem list55_nil (W : World) : Calls Tryz.prog 55 #[.slice none 0 0, .func (.func 56) #[] #[]] W (StrPost ⟨#[]⟩ W) := by
  have hj := Lib.hid (fun W' => Tryz.strings_Join_none none 0 ⟨#[44, 32]⟩ W')
  go_enter Tryz.func55, Tryz.ntmps55
  go_wp2
  refine wp_loop_rounds 1 ?_
  rw [rounds_succ]
  go_wp2_with fail
  refine (hj.out _).mono ?_
  rintro e w1 ⟨rfl, rfl⟩
  go_wp2
  go_ret
  exact ⟨rfl, Below.refl _ _⟩
attribute [local go_sem] Oper.semAt_some
def textF : ByteArray := lineT 0 ⟨#[102, 110, 32, 102, 40, 41, 32, 123]⟩ ++ lineT 0 ⟨#[125]⟩
set_option maxRecDepth 100000 in
set_option maxHeartbeats 8000000 in
theorem text_f (fb c : Nat) (W : World) (h : FAt fb W) : Calls Tryz.prog 19 #[.agg #[.slice none 0 0, .slice (some ⟨fb, 0, none⟩) 1 c]] W fun e w' => e = .returned (.tuple #[.string textF, .int .i64 0]) ∧ Below W.heap.size W w' := by
  have hm := Lib.hid (mayP_f fb c (W.alloc (.cells #[.slice none 0 0, .slice (some ⟨fb, 0, none⟩) 1 c] 39)) ((heap_alloc_old _ _ (blk_lt h)).trans h))
  have hfl := blk_lt h
  have h' := Lib.hid h
  have hx := Lib.hid (heap_alloc_new W (.cells #[.slice none 0 0, .slice (some ⟨fb, 0, none⟩) 1 c] 39))
  clear h
  refine (callsIn_wide (n := 8)).1 (callsIn_of_wp_marks Tryz.func19 rfl trivial ?_ rfl)
  simp only [Tryz.ntmps19, List.size_toArray, List.length_cons, List.length_nil, Nat.reduceAdd, Nat.reduceSub, Array.replicate_succ, Array.replicate_zero, List.push_toArray, List.append_toArray, List.nil_append, List.cons_append]
  refine wpIn_wide.2 ?_
  go_wp2_with fail
  refine hm.out.mono ?_
  rintro e w1 ⟨rfl, hb1⟩
  have hx1 := (hb1.block W.heap.size (by simp)).trans hx.out
  have hf1 := (hb1.block fb (by simp; omega)).trans ((heap_alloc_old _ _ hfl).trans h'.out)
  have hb1 := Below.next ((Below.refl _ W).alloc (Nat.le_refl _) _) hb1
  have hWl : W.heap.size < w1.heap.size := blk_lt hx1
  -- the builder, the function that writes
  obtain ⟨w2, hw2⟩ : ∃ w2, ((w1.alloc (.cells #[.pointer none, .slice none 0 0] 87)).alloc (.cells #[.func (.func 50) #[] #[.pointer (some ⟨w1.heap.size, 0, none⟩)]] 93)) = w2 := ⟨_, rfl⟩
  have hb2 : Below w1.heap.size w1 w2 := by rw [← hw2]; exact ((Below.refl _ w1).alloc (Nat.le_refl _) _).alloc (by simp) _
  have hx2 := (hb2.block _ hWl).trans hx1
  have hf2 := (hb2.block _ (blk_lt hf1)).trans hf1
  have hbu : w2.heap[w1.heap.size]? = some (.cells #[.pointer none, .slice none 0 0] 87 (0, 0)) := by
    rw [← hw2, heap_alloc_old _ _ (by simp)]; exact heap_alloc_new w1 _
  have hfn : w2.heap[w1.heap.size + 1]? = some (.cells #[.func (.func 50) #[] #[.pointer (some ⟨w1.heap.size, 0, none⟩)]] 93 (0, 0)) := by
    have h := heap_alloc_new (w1.alloc (.cells #[.pointer none, .slice none 0 0] 87)) (.cells #[.func (.func 50) #[] #[.pointer (some ⟨w1.heap.size, 0, none⟩)]] 93)
    have e : (w1.alloc (.cells #[.pointer none, .slice none 0 0] 87)).heap.size = w1.heap.size + 1 := by simp
    rw [e, hw2] at h
    exact h
  have hB2 := Lib.hid (Below.next hb1 hb2)
  obtain ⟨b, hb⟩ : ∃ b, w1.heap.size = b := ⟨_, rfl⟩
  rw [hb] at hw2 hb2 hbu hfn
  have hbl : W.heap.size ≤ b := by omega
  have hI2 := Lib.hid (show Lib.IsBuilder 87 5 W.heap.size b [] w2 from .inl ⟨hbl, _, hbu, World.ownsRow_nil _ _ _ _, by simp [Value.ownBlock]⟩)
  have p0 : w2.cell? ⟨W.heap.size, 0, none⟩ = some (.slice none 0 0) := by rw [blk_cell hx2]; rfl
  have p1 : w2.cell? ⟨W.heap.size, 1, none⟩ = some (.slice (some ⟨fb, 0, none⟩) 1 c) := by rw [blk_cell hx2]; rfl
  have f0 : w2.cell? ⟨fb, 0, none⟩ = some (.string fT) := by rw [blk_cell hf2]; rfl
  have f1 : w2.cell? ⟨fb, 1, none⟩ = some (.slice none 0 0) := by rw [blk_cell hf2]; rfl
  have f2 : w2.cell? ⟨fb, 2, none⟩ = some (.slice none 0 0) := by rw [blk_cell hf2]; rfl
  have f3 : w2.cell? ⟨fb, 3, none⟩ = some (.slice none 0 0) := by rw [blk_cell hf2]; rfl
  have f4 : w2.cell? ⟨fb, 4, none⟩ = some (.slice none 0 0) := by rw [blk_cell hf2]; rfl
  have hbu := Lib.hid hbu
  have hfn := Lib.hid hfn
  have hx2 := Lib.hid hx2
  have hf2 := Lib.hid hf2
  clear hb1 hx1 hf1 hWl hb2
  go_wp2_with fail
  refine wp_loop_rounds 1 ?_
  rw [rounds_succ]
  go_wp2_with fail
  refine wp_loop_rounds 2 ?_
  rw [rounds_succ]
  go_wp2_with fail
  obtain ⟨w3, hw3⟩ : ∃ w3, w2.alloc (.cells #[.string fT, .slice none 0 0, .slice none 0 0, .slice none 0 0, .slice none 0 0] 54) = w3 := ⟨_, rfl⟩
  have hx3 : w3.heap[w2.heap.size]? = some (.cells #[.string fT, .slice none 0 0, .slice none 0 0, .slice none 0 0, .slice none 0 0] 54 (0, 0)) := by rw [← hw3]; exact heap_alloc_new w2 _
  have hb3 : Below w2.heap.size w2 w3 := by rw [← hw3]; exact (Below.refl _ w2).alloc (Nat.le_refl _) _
  rw [hw3]
  obtain ⟨x, hxe⟩ : ∃ x, w2.heap.size = x := ⟨_, rfl⟩
  have hxx := Lib.hid hxe
  rw [hxe] at hx3 ⊢
  have q0 : w3.cell? ⟨x, 0, none⟩ = some (.string fT) := by rw [blk_cell hx3]; rfl
  have q1 : w3.cell? ⟨x, 1, none⟩ = some (.slice none 0 0) := by rw [blk_cell hx3]; rfl
  have q0 := Sub.cell q0
  have q1 := Sub.cell q1
  have hl := Lib.hid (fun s : Sub w3 => list55_nil s.val)
  have hb3 := Lib.hid hb3
  have hx3 := Lib.hid hx3
  have sz1 : fT.size = 1 := rfl
  clear hw3 hw2 f0 f1 f2 f3 f4 p0 p1 hxe
  refine wp_region_below (by kernel_rfl) (by kernel_rfl) ?_
  repeat (go_big_quiet_step ((go_at_call 55; with_reducible exact Sub.call (hl.out _))))
  refine wpQuiet_nil ?_
  rintro w4 ⟨s4, hs4⟩
  have hb4 : Below w3.heap.size w3 w4 := hs4 ▸ s4.property
  clear hs4 s4
  -- what stays beside the builder
  obtain ⟨K, hK⟩ : ∃ K : World → Prop, K = fun V => V.heap[b + 1]? = some (.cells #[.func (.func 50) #[] #[.pointer (some ⟨b, 0, none⟩)]] 93 (0, 0)) ∧ V.heap[W.heap.size]? = some (.cells #[.slice none 0 0, .slice (some ⟨fb, 0, none⟩) 1 c] 39 (0, 0)) ∧ V.heap[fb]? = some (.cells #[.string fT, .slice none 0 0, .slice none 0 0, .slice none 0 0, .slice none 0 0] 54 (0, 0)) ∧ V.heap[x]? = some (.cells #[.string fT, .slice none 0 0, .slice none 0 0, .slice none 0 0, .slice none 0 0] 54 (0, 0)) := ⟨_, rfl⟩
  have hxb : x ≠ b ∧ W.heap.size ≠ b ∧ fb ≠ b := by
    have h2 := hB2.out.size
    have h3 : b + 1 < w2.heap.size := blk_lt hfn.out
    have := hxx.out
    refine ⟨by omega, ?_, by omega⟩
    intro e
    have h5 := hbu.out
    rw [← e, hx2.out] at h5
    cases h5
  have keep : ∀ V V', K V → Hold b V V' → K V' := fun V V' hv hh => by
    rw [hK] at hv ⊢
    obtain ⟨k1, k2, k3, k4⟩ := hv
    exact ⟨hh.2 _ _ (by omega) k1 (fun _ _ e => by cases e), hh.2 _ _ hxb.2.1 k2 (fun _ _ e => by cases e), hh.2 _ _ hxb.2.2 k3 (fun _ _ e => by cases e), hh.2 _ _ hxb.1 k4 (fun _ _ e => by cases e)⟩
  have k4 : K w4 := by
    refine keep w3 w4 ?_ (Hold.of_below hb4)
    rw [hK]
    exact ⟨(hb3.out.block _ (blk_lt hfn.out)).trans hfn.out, (hb3.out.block _ (blk_lt hx2.out)).trans hx2.out, (hb3.out.block _ (blk_lt hf2.out)).trans hf2.out, hx3.out⟩
  have I4 := IsBuilder.go (IsBuilder.go hI2.out hb3.out) hb4
  have B4 : Below W.heap.size W w4 := Below.next (Below.next hB2.out hb3.out) hb4
  have cells : ∀ V, K V → (V.cell? ⟨b + 1, 0, none⟩ = some (.func (.func 50) #[] #[.pointer (some ⟨b, 0, none⟩)])) ∧ V.cell? ⟨x, 2, none⟩ = some (.slice none 0 0) ∧ V.cell? ⟨x, 3, none⟩ = some (.slice none 0 0) ∧ V.cell? ⟨x, 4, none⟩ = some (.slice none 0 0) ∧ V.cell? ⟨W.heap.size, 1, none⟩ = some (.slice (some ⟨fb, 0, none⟩) 1 c) := fun V hv => by
    rw [hK] at hv
    obtain ⟨k1, k2, k3, k4⟩ := hv
    exact ⟨by rw [blk_cell k1]; rfl, by rw [blk_cell k4]; rfl, by rw [blk_cell k4]; rfl, by rw [blk_cell k4]; rfl, by rw [blk_cell k2]; rfl⟩
  clear hK
  have keep := Lib.hid keep
  have cells := Lib.hid cells
  have k4 := Lib.hid k4
  have I4 := Lib.hid I4
  have B4 := Lib.hid B4
  clear hb4 hbu hfn hx2 hf2 hx3 hb3 hxb q0 q1 hl hI2 hB2
  obtain ⟨c0, c2, c3, c4, c5⟩ := cells.out w4 k4.out
  go_wp2_with fail
  have hln := line_any W.heap.size b [] 0 (⟨#[102, 110, 32]⟩ ++ fT ++ ⟨#[40]⟩ ++ ⟨#[]⟩ ++ ⟨#[41]⟩ ++ ⟨#[32, 123]⟩) w4 I4.out (by decide) (by decide +kernel) B4.out.size
  refine hln.mono ?_
  rintro e w5 ⟨rfl, hI5, hb5, hh5⟩
  have k5 := Lib.hid (keep.out _ _ k4.out hh5)
  have B5 := Lib.hid (B4.out.trans hb5)
  have I5 := Lib.hid hI5
  clear hln hI5 hb5 hh5 c0 c2 c3 c4 c5 k4 I4 B4
  obtain ⟨c0, c2, c3, c4, c5⟩ := cells.out w5 k5.out
  have h30 := Lib.hid (lines30_any none 0 0 w5)
  go_wp2_with fail
  refine wp_loop_rounds 1 ?_
  rw [rounds_succ]
  go_wp2_with fail
  refine h30.out.mono ?_
  rintro e w6 ⟨rfl, hw6⟩
  have hbx : w6.heap[w5.heap.size]? = some (.cells #[.slice none 0 0] 48 (0, 0)) := by rw [hw6]; exact heap_alloc_new w5 _
  have hb6 : Below w5.heap.size w5 w6 := by rw [hw6]; exact (Below.refl _ w5).alloc (Nat.le_refl _) _
  have hbx := Lib.hid hbx
  have hb6 := Lib.hid hb6
  clear hw6 h30 c0 c2 c3 c4 c5
  go_wp2_with fail
  refine wp_range_none rfl (enters_of Tryz.func81 (by kernel_rfl) rfl) (fun l V hV => ?iter) (fun D w7 hD hb7 hd => ?done)
  case iter =>
    refine (iter81_nil l w5.heap.size V ((hV.block _ (blk_lt hbx.out)).trans hbx.out)).mono ?_
    rintro e w' ⟨rfl, hb⟩
    exact ⟨⟨_, rfl⟩, hb⟩
  case done =>
    have k7 := Lib.hid (keep.out _ _ (keep.out _ _ k5.out (Hold.of_below hb6.out)) (Hold.of_below hb7))
    have B7 := Lib.hid (Below.next (Below.next B5.out hb6.out) hb7)
    have I7 := Lib.hid (IsBuilder.go (IsBuilder.go (.inr I5.out) hb6.out) hb7)
    have hd := Lib.hid hd
    have hD := Lib.hid (Nat.le_trans (Nat.le_trans B5.out.size hb6.out.size) hD)
    have hDb := Lib.hid (show D ≠ b from by
      rintro rfl
      have h1 := hd.out
      obtain ⟨cs, hcs⟩ := IsBuilder.cells I7.out
      rw [hcs] at h1
      cases h1)
    clear hb7
    obtain ⟨c0, c2, c3, c4, c5⟩ := cells.out w7 k7.out
    go_wp2_with fail
    have hln := line_any W.heap.size b _ 0 ⟨#[125]⟩ w7 I7.out (by decide) (by decide +kernel) B7.out.size
    refine hln.mono ?_
    rintro e w8 ⟨rfl, hI8, hb8, hh8⟩
    have k8 := Lib.hid (keep.out _ _ k7.out hh8)
    have B8 := Lib.hid (B7.out.trans hb8)
    have I8 := Lib.hid hI8
    have hd8 := Lib.hid (hh8.2 D _ hDb.out hd.out (fun _ _ e => by cases e))
    clear hln hI8 hb8 hh8 c0 c2 c3 c4 c5 k7 I7 B7
    go_wp2_with fail
    rw [rounds_succ]
    go_wp2_with fail
    have hbs : [] ++ Lib.strCells (lineT 0 (⟨#[102, 110, 32]⟩ ++ fT ++ ⟨#[40]⟩ ++ ⟨#[]⟩ ++ ⟨#[41]⟩ ++ ⟨#[32, 123]⟩)) ++ Lib.strCells (lineT 0 ⟨#[125]⟩) = Lib.byteCells textF.data.toList := by
      rw [List.nil_append, strCells_eq, strCells_eq, ← Lib.byteCells_append]
      rfl
    have I9 := I8.out
    rw [hbs] at I9
    have hs := Lib.hid (string_any W.heap.size b textF.data.toList w8 (.inr I9) B8.out.size)
    have hsh := Lib.hid (short_any textF)
    have st1 : shortT textF = textF := by unfold shortT; rw [if_pos (by decide +kernel)]
    have st2 : shortN textF = 0 := by unfold shortN; rw [if_pos (by decide +kernel)]
    rw [st1, st2] at hsh
    have hDb := hDb.out
    clear I9 hbs st1 st2
    refine hs.out.mono ?_
    rintro e w9 ⟨rfl, hb9, hh9⟩
    have B9 := Lib.hid (B8.out.trans hb9)
    have hd9 := Lib.hid (hh9.2 D _ hDb hd8.out (fun _ _ e => by cases e))
    clear hb9 hh9
    go_wp2_with fail
    refine (hsh.out w9).mono ?_
    rintro e w10 ⟨rfl, hb10⟩
    have B10 := Lib.hid (Below.next B9.out hb10)
    have hd10 := Lib.hid ((hb10.block D (blk_lt hd9.out)).trans hd9.out)
    clear hb10
    go_wp2_with fail
    exact leaves_marks [D] _ (fun D' hD' => by simp at hD'; subst hD'; exact hd10.out) (by simp) ⟨_, by simp [results, Tryz.f19, go_sem], rfl, shut_below [D] _ (fun D' hD' => by simp at hD'; subst hD'; exact hD.out) B10.out⟩
end Go.Proofs.YtnahgfdoiflacaaGreatDoor
