/- Going over regions: slices.All. -/
import Derived.Test.YtageahpgcjnkpaaJ
import Derived.RangeFuncNested
import Derived.RangeFuncBound
import Derived.RangeFuncCalls
import Derived.RangeFuncLeaves
import Derived.Shelf.Abstract
import Derived.Shelf.RegionOpen
import Derived.OwnWalkIn
import Derived.TacticsInMore
import Derived.LoopNIn
import Derived.LoopIn
set_option linter.unusedSimpArgs false
set_option linter.unusedVariables false
namespace Go.Proofs.Ytageahpgcjnkpaa
open Go.RowKit Go.Shelf

attribute [local go_sem] Oper.semAt_some

theorem range_succ (k : Nat) : List.range (k + 1) = List.range k ++ [k] := List.range_succ

set_option maxRecDepth 100000 in
set_option maxHeartbeats 2000000 in
theorem all1_in (F : Fence) (n : Nat) (h62 : F.fn 62) (hro : F.round = none) (hn : 1 ≤ n) (l Bs n₀ : Nat) (A : Option Addr) (m cap : Nat) (L : List Reg) (hm : m ≤ 16) (J Jx : List Nat → World → Prop)
    (W : World) (hn₀ : n₀ ≤ W.heap.size) (hJ : AbidesFrom W.heap.size J) (hJx : AbidesFrom W.heap.size Jx)
    (hY : ∀ pre x W, J pre W → pre.length < m → YieldAt F (n - 1) Try.prog l #[.int .i64 (x : Nat), (L.getD x default).val] W fun e W' =>
      (e = .returned (.bool true) ∧ J (pre ++ [x]) W' ∧ Below n₀ W W') ∨ (e = .returned (.bool false) ∧ Jx (pre ++ [x]) W'))
    (hBs : W.cell? ⟨Bs, 0, none⟩ = some (.slice A m cap)) (hc : RegsAt W n₀ A m L) (h0 : J [] W) :
    CallsIn F n Try.prog 62 #[.func (.yield l) #[] #[], .pointer (some ⟨Bs, 0, none⟩)] W fun e W' => (∃ v, e = .returned v) ∧
      ((∃ ys, ys = List.range m ∧ J ys W') ∨ (∃ pre, (∃ k, k ≤ m ∧ pre = List.range k) ∧ Jx pre W')) := by
  have hJ' := Lib.hid hJ
  have hJx' := Lib.hid hJx
  have hY' := Lib.hid hY
  have hc' := Lib.hid hc
  clear hJ hJx hY hc
  refine callsIn_of_wp Try.func62 rfl h62 ?_ hro
  simp only [Try.ntmps62, List.size_toArray, List.length_cons, List.length_nil, Nat.reduceAdd, Nat.reduceSub, Array.replicate_succ, Array.replicate_zero, List.push_toArray, List.append_toArray, List.nil_append, List.cons_append]
  gi_wp2
  gi_loopw [7] (fun i wr => ∃ k : Nat, k ≤ m ∧ i = .int .i64 k ∧ J (List.range k) wr ∧ Below n₀ W wr)
    (fun i _ => m - (intOf i).toNat)
  case atStart => exact ⟨0, Nat.zero_le _, rfl, h0, Below.refl _ _⟩
  case round =>
    obtain ⟨k, hk, rfl, hJs, hnx⟩ := hrel
    have hJs' := Lib.hid hJs
    have hnx' := Lib.hid hnx
    clear hJs hnx
    by_cases hlt : k < m
    · obtain ⟨blk, off, r, rfl, hB, hL, hR, hW⟩ := (hc'.out.below hnx'.out).at_ hlt
      obtain ⟨r0, r1, r2, r3⟩ := hR
      have eL : L.getD k default = r := by rw [List.getD_eq_getElem?_getD, hL]; rfl
      have hJa : J (List.range k) (wr.alloc (.cells #[.string r.name, .int .i64 r.addr, .int .i64 r.size, .bool r.sec] 67)) := hJ'.out _ _ _ none hJs'.out (World.grownBy_alloc wr _ none) (fun r e => by cases e)
      obtain ⟨fn, tmps, assign, body, hy, hRo⟩ := hY'.out _ k _ hJa (by rw [List.length_range]; exact hlt)
      rw [eL] at hy
      dsimp only [Reg.val] at hy
      have hJa' := Lib.hid hJa
      clear hJa eL hL
      gi_wp2
      refine hRo.mono ?_
      rintro e W3 (⟨rfl, hJ3, hk3⟩ | ⟨rfl, hJx3⟩)
      · have hJ3' := Lib.hid hJ3
        have hk3' := Lib.hid ((hnx'.out.alloc (Nat.le_trans hn₀ hnx'.out.size) _).trans hk3)
        clear hJ3 hk3
        gi_wp2
        go_roundw
        case rel => exact ⟨k + 1, by omega, by go_num, by rw [range_succ]; exact hJ3'.out, hk3'.out⟩
        case measure => simp [intOf]; omega
      · have hJx3' := Lib.hid hJx3
        clear hJx3
        gi_wp2
        refine bodyPost_ret (results_none rfl _ _ _) rfl ?_
        exact ⟨⟨_, rfl⟩, .inr ⟨_, ⟨k + 1, by omega, (range_succ k).symm⟩, hJx3'.out⟩⟩
    · obtain rfl : k = m := by omega
      gi_wp2
      go_end0
      exact ⟨⟨_, rfl⟩, .inl ⟨_, rfl, hJs'.out⟩⟩

set_option maxHeartbeats 1000000 in
/-- slices.All boxes the slice; the function value captures the box. -/
theorem all_in (F : Fence) (n : Nat) (h44 : F.fn 44) (hro : F.round = none) (A : Option Addr) (m cap : Nat) (w : World) :
    CallsIn F n Try.prog 44 #[.slice A m cap] w fun e w' => e = .returned (.func (.func 62) #[] #[.pointer (some ⟨w.heap.size, 0, none⟩)]) ∧ w' = w.alloc (.cells #[.slice A m cap] 22) := by
  refine callsIn_of_wp Try.func44 rfl h44 ?_ hro
  simp only [Try.ntmps44, List.size_toArray, List.length_cons, List.length_nil, Nat.reduceAdd, Nat.reduceSub, Array.replicate_succ, Array.replicate_zero, List.push_toArray, List.append_toArray, List.nil_append, List.cons_append]
  gi_wp2
  go_ret
  exact ⟨rfl, rfl⟩

theorem all_stops (F : Fence) (n : Nat) (h62 : F.fn 62) (hro : F.round = none) (hn : 1 ≤ n) (Bs n₀ : Nat) (A : Option Addr) (m cap : Nat) (L : List Reg) (hm : m ≤ 16) (w : World) (hBs : Bs < w.heap.size) (hn₀ : n₀ ≤ w.heap.size)
    (hc : w.cell? ⟨Bs, 0, none⟩ = some (.slice A m cap)) (hI : RegsAt w n₀ A m L) :
    SeqStopsK F n Try.prog 62 #[.pointer (some ⟨Bs, 0, none⟩)] (fun x : Nat => #[Value.int .i64 (x : Int), (L.getD x default).val]) (Below n₀) (fun ys => ys = List.range m)
      (fun pre => ∃ k, k ≤ m ∧ pre = List.range k) m w := fun l J Jx W hW hJ hJx hY h0 =>
  all1_in F n h62 hro hn l Bs n₀ A m cap L hm J Jx W (Nat.le_trans hn₀ hW.size) hJ hJx hY ((hW.cell (p := ⟨Bs, 0, none⟩) hBs).trans hc) (hI.below (hW.mono hn₀)) h0
end Go.Proofs.Ytageahpgcjnkpaa
