/- The reference's Long, New, Address. -/
import Derived.Test.YtageahpgcjnkpaaK2
import Derived.Laws.MakeOwn
import Derived.Deep.RegionLaw
import Derived.Deep.AppendLies
import Derived.Deep.RegionLawGrows
set_option linter.unusedSimpArgs false
set_option linter.unusedVariables false
namespace Go.Proofs.Ytageahpgcjnkpaa
open Go.RowKit

def longB (L : List Reg) : Bool := ((List.range L.length).any fun i => decide (i < 41) && decide (900 < (L.getD i default).name.size)) || decide (40 < L.length)

theorem longB_yes {L : List Reg} {k : Nat} {r : Reg} (hr : L[k]? = some r) (hk : k < 41) (h : 900 < r.name.size) : longB L = true := by
  unfold longB
  rw [Bool.or_eq_true]
  left
  rw [List.any_eq_true]
  refine ⟨k, List.mem_range.2 (List.getElem?_eq_some_iff.1 hr).1, ?_⟩
  rw [List.getD_eq_getElem?_getD, hr]
  simp [hk, h]
theorem longB_end {L : List Reg} (h : ∀ j r, j < L.length → j < 41 → L[j]? = some r → r.name.size ≤ 900) : longB L = decide (40 < L.length) := by
  unfold longB
  have : ((List.range L.length).any fun i => decide (i < 41) && decide (900 < (L.getD i default).name.size)) = false := by
    rw [List.any_eq_false]
    intro i hi
    have hi' := List.mem_range.1 hi
    by_cases h41 : i < 41
    · have := h i _ hi' h41 (List.getElem?_eq_getElem hi')
      rw [List.getD_eq_getElem?_getD, List.getElem?_eq_getElem hi']
      simp; omega
    · simp [h41]
  rw [this, Bool.false_or]

set_option maxHeartbeats 1000000 in
theorem long_any (A : Option Addr) (n cap : Nat) (L : List Reg) (w : World) (hr : RegsAt w w.heap.size A n L) (hcm : n ≤ 9223372036854775807) : Calls Try.prog 11 #[.slice A n cap] w fun e w' => e = .returned (.bool (longB L)) ∧ w = w' := by
  have hr' := Lib.hid hr
  clear hr
  go_enter Try.func11, Try.ntmps11
  go_wp2
  go_loop [3] (fun i => ∃ k : Nat, k ≤ n ∧ k ≤ 41 ∧ i = .int .i64 k ∧ ∀ j r, j < k → L[j]? = some r → r.name.size ≤ 900) (fun i => n - (intOf i).toNat)
  case atStart => exact ⟨0, by omega, by omega, rfl, fun j r h => absurd h (by omega)⟩
  case round =>
    obtain ⟨k, hk, hk2, rfl, hno⟩ := hrel
    have hno' := Lib.hid hno
    clear hno
    by_cases hlt : k < n
    · by_cases h41 : k < 41
      · obtain ⟨blk, off, r, rfl, hB, hL, hR, hW⟩ := hr'.out.at_ hlt
        obtain ⟨⟨wa, wb⟩, ⟨wc, wd⟩, we⟩ := hW
        obtain ⟨r0, r1, r2, r3⟩ := hR
        have hL' := Lib.hid hL
        clear hL
        by_cases hs : 900 < r.name.size
        · have hd : decide ((900 : Int) < (r.name.size : Int)) = true := by simp; omega
          go_wp2
          go_ret
          exact ⟨ret_bool (longB_yes hL'.out h41 hs).symm, rfl⟩
        · have hd : decide ((900 : Int) < (r.name.size : Int)) = false := by simp; omega
          go_wp2
          go_round
          case rel =>
            refine ⟨k + 1, by omega, by omega, by go_num, fun j r' hj hr2 => ?_⟩
            rcases Nat.lt_or_ge j k with h | h
            · exact hno'.out j r' h hr2
            · obtain rfl : j = k := by omega
              rw [hL'.out] at hr2
              cases hr2
              omega
          case measure => simp [intOf]; omega
      · have e41 : k = 41 := by omega
        have hfin := Lib.hid (show longB L = decide (40 < n) by rw [longB_end (fun j r hj h4 h => hno'.out j r (by omega) h), hr'.out.1])
        have hd : decide ((k : Int) < 41) = false := by simp; omega
        clear e41
        go_wp2
        go_ret
        exact ⟨ret_bool (by rw [hfin.out]; simp; omega), rfl⟩
    · have e41 : k = n := by omega
      have hfin := Lib.hid (show longB L = decide (40 < n) by rw [longB_end (fun j r hj h4 h => hno'.out j r (by have := hr'.out.1; omega) h), hr'.out.1])
      have hd : decide ((k : Int) < (n : Int)) = false := by simp; omega
      clear e41
      go_wp2
      go_ret
      exact ⟨ret_bool (by rw [hfin.out]; simp; omega), rfl⟩

/-- the reference's memory: block p names the regions' slice and the bytes' slice -/
structure RMem_ (w : World) (p q : Nat) (A : Option Addr) (n cap : Nat) (L : List Reg) (f : Nat → Int) : Prop where
  hp : w.heap[p]? = some (.cells #[.slice A n cap, .slice (some ⟨q, 0, none⟩) 65536 65536] 53 (0, 0))
  hq : w.heap[q]? = some (.cells (bytes f) 5 (0, 0))
  hr : RegsAt w w.heap.size A n L
  hn : n ≤ 16
  hf : ByteFn f

theorem info5 : (Try.prog.info? 5).map (fun i => (i.zero, i.size, i.bytes)) = some (some (.int .u8 0), 1, 1) := by kernel_rfl
theorem made_bytes : madeCells #[.int .u8 0] 65536 = bytes fun _ => 0 := by
  apply Array.ext_getElem?
  intro k
  by_cases hk : k < 65536
  · rw [bytes_at _ _ hk, Array.getElem?_eq_getElem (by rw [size_madeCells]; exact hk)]
    unfold madeCells
    simp [Nat.mod_one]
  · rw [Array.getElem?_eq_none (by rw [size_madeCells]; omega), Array.getElem?_eq_none (by rw [bytes_size]; omega)]
theorem run_make_bytes (w : World) : (Instr.makeSlice 50 (.int .i64 65536) (.int .i64 65536)).run Try.prog w = .ok (.slice (some ⟨w.heap.size, 0, none⟩) 65536 65536) (w.alloc (.cells (bytes fun _ => 0) 5)) := by
  obtain ⟨i0, hi, hz0, hz1, hz2⟩ := info_parts info5
  have hr := run_make (P := Try.prog) w 50 5 i0 _ Try.underlying50 hi hz0 .i64 .i64 65536 65536 (by omega) (by omega) (by rw [hz2]; omega) (by omega)
  rw [← made_bytes]
  have e : (65536 : Int).toNat = 65536 := rfl
  simp only [e, hz1, Nat.mul_one] at hr
  exact hr

theorem step_append_nil {P : Program} {ops : Array Oper} {o : Oper} {a : Act} {w : World} {K : Act → World → Prop} {Q : Exit → Act → World → Prop} {E : Prop}
    (hg : o.guard = none) (s x : Operand) (t : TypeId) (hop : o.op = Op.call { callee := Callee.builtin Builtin.append, args := #[s, x], argTypes := #[t, t] })
    (e : TypeId) (i : TypeInfo) (h1 : P.underlying t = some (.slice e)) (h2 : P.info? e = some i) (hs : a.eval s = .slice none 0 0) (A : Option Addr) (c : Nat) (hx : a.eval x = .slice A 0 c)
    (hK : K (a.put o.dst (.slice none 0 0)) w) : if Region.wanted o (yielded ops a.tmps) = true then Oper.wp P o a w K Q else E := by
  have hw : Region.wanted o (yielded ops a.tmps) = true := by simp [Region.wanted, hg]
  rw [if_pos hw]
  have hrun : (Builtin.append_ #[t, t] o.type #[.slice none 0 0, .slice A 0 c]).run P w = .ok (.slice none 0 0) w := by
    cases A <;> simp [Builtin.append_, run_underlying h1, sizeOf, typeInfo, h2, Builtin.lenOf, Builtin.firstCells, loadCells, loadCellsFrom]
  unfold Oper.wp
  simp [execOp, hop, resolve, invoke, builtin, hs, hx, hrun, Result.andThen]
  exact hK

theorem addrI_found {L : List Reg} {k : Nat} {r : Reg} {nm : ByteArray} {i : Int} (hr : L[k]? = some r) (hh : hitB nm i r = true) (h : ∀ j r, j < k → L[j]? = some r → hitB nm i r = false) : addrI L nm i = some (r.addr + 8 * i) := by
  obtain ⟨hk, rfl⟩ := List.getElem?_eq_some_iff.1 hr
  unfold addrI
  have : L.find? (hitB nm i) = some L[k] := by
    rw [List.find?_eq_some_iff_getElem]
    refine ⟨hh, k, hk, rfl, fun j hj => ?_⟩
    have h2 := h j _ hj (List.getElem?_eq_getElem (by omega))
    rw [h2]; rfl
  rw [this]
  rfl
def RNewPost (L : List Reg) (n : Nat) (w : World) (e : Ending) (w' : World) : Prop :=
  ∃ p q A cap, e = .returned (.pointer (some ⟨p, 0, none⟩)) ∧ RMem_ w' p q A n cap L (fun _ => 0) ∧ n ≤ cap ∧ cap ≤ 9223372036854775807 ∧ w.heap.size ≤ p ∧ w.heap.size ≤ q ∧ Below w.heap.size w w'

set_option maxRecDepth 100000 in
set_option maxHeartbeats 1000000 in
theorem refNew_some (ad : Addr) (n cap : Nat) (L : List Reg) (w : World) (hr : RegsAt w w.heap.size (some ad) n L) (hn : n ≤ 16) (hp : 0 < n) :
    Calls Try.prog 17 #[.slice (some ad) n cap] w (RNewPost L n w) := by
  obtain ⟨i0, hi, hz0, hz1, hz2⟩ := info_parts info67
  have hmk := run_make_bytes
  have hr' := Lib.hid hr
  have hnews := Lib.hid (show ∀ W, Below w.heap.size w W → ∀ j u, (regCells L)[j]? = some u → W.cell? (ad.add j) = some u from fun W hb => regs_news (hr'.out.below hb))
  have hlen : (regCells L).length = n * 4 := by rw [regCells_len, hr'.out.1]
  have hlen' := Lib.hid hlen
  have hwf := Lib.hid hr.2.1
  clear hr hlen
  go_enter Try.func17, Try.ntmps17
  go_wp2_with fail
  go_region_law ((refine step_append_grows rfl _ _ 22 rfl 67 i0 _ 4 40 Try.underlying22 hi hz0 hz1 hz2 rfl (by decide) none 0 0 [] rfl (fun _ => ⟨rfl, rfl⟩) rfl (fun _ h => by cases h) ad n cap (regCells L) rfl hlen'.out (hnews.out _ (by first | exact (Below.refl _ _).drew | exact (Below.refl _ _).drew.alloc (by simp) _)) regCells_one (by omega) (by unfold maxLen; omega) (by omega) ?_; intro v' w1 hown hgrow; obtain ⟨A', cap', rfl, g1, g2, g3⟩ := regs_own (L := L) (n := n) (by simpa using hown) hwf.out))
  · go_wp2
    go_ret
    have hall : Below w1.heap.size w1 ((w1.alloc (.cells (bytes fun _ => 0) 5)).alloc (.cells #[.slice A' n cap', .slice (some ⟨w1.heap.size, 0, none⟩) 65536 65536] 53)) := ((Below.refl _ _).alloc (Nat.le_refl _) _).alloc (by simp) _
    have hb1 : Below w.heap.size w w1 := (Below.refl _ _).drew.grown hgrow (by simp) (fun k e => by cases e)
    exact ⟨w1.heap.size + 1, w1.heap.size, A', cap', rfl, ⟨heap_alloc2_new w1 _ _, heap_alloc2_old w1 _ _, (g3.below hall).more hall.size, hn, fun i => ⟨Int.le_refl 0, (by decide : (0 : Int) < 256)⟩⟩, g1, g2, by have := hb1.size; omega, hb1.size, Below.next hb1 hall⟩
  · go_wp2
    go_ret
    have hall : Below w1.heap.size w1 (w1.alloc (.cells #[.slice A' n cap', .slice (some ⟨w.heap.size, 0, none⟩) 65536 65536] 53)) := (Below.refl _ _).alloc (Nat.le_refl _) _
    have hb1 : Below w.heap.size w w1 := ((Below.refl _ _).drew.alloc (by simp) _).grown hgrow (by simp) (fun k e => by cases e)
    have hq0 : (w.drew.alloc (.cells (bytes fun _ => 0) 5)).heap[w.heap.size]? = some (.cells (bytes fun _ => 0) 5 (0, 0)) := heap_alloc_new w.drew _
    have hq1 : w1.heap[w.heap.size]? = some (.cells (bytes fun _ => 0) 5 (0, 0)) := (hgrow.block _ (blk_lt hq0) (by simp)).trans hq0
    exact ⟨w1.heap.size, w.heap.size, A', cap', rfl, ⟨heap_alloc_new w1 _, (hall.block _ (blk_lt hq1)).trans hq1, (g3.below hall).more hall.size, hn, fun i => ⟨Int.le_refl 0, (by decide : (0 : Int) < 256)⟩⟩, g1, g2, hb1.size, Nat.le_refl _, Below.next hb1 hall⟩

set_option maxRecDepth 100000 in
set_option maxHeartbeats 1000000 in
theorem refNew_none (A : Option Addr) (cap : Nat) (w : World) : Calls Try.prog 17 #[.slice A 0 cap] w (RNewPost [] 0 w) := by
  obtain ⟨i0, hi, hz0, hz1, hz2⟩ := info_parts info67
  have hmk := run_make_bytes
  go_enter Try.func17, Try.ntmps17
  go_wp2_with fail
  go_region_law (refine step_append_nil rfl _ _ 22 rfl 67 i0 Try.underlying22 hi rfl A cap rfl ?_)
  all_goals
    go_wp2
    go_ret
    have hall : Below w.heap.size w ((w.drew.alloc (.cells (bytes fun _ => 0) 5)).alloc (.cells #[.slice none 0 0, .slice (some ⟨w.heap.size, 0, none⟩) 65536 65536] 53)) := ((Below.refl _ _).drew.alloc (by simp) _).alloc (by simp) _
    exact ⟨w.heap.size + 1, w.heap.size, none, 0, rfl, ⟨heap_alloc2_new w.drew _ _, heap_alloc2_old w.drew _ _, ⟨rfl, by simp, fun h => absurd h (by omega)⟩, by omega, fun i => ⟨Int.le_refl 0, (by decide : (0 : Int) < 256)⟩⟩, Nat.le_refl _, by omega, by omega, Nat.le_refl _, hall⟩

theorem refNew_any (A : Option Addr) (n cap : Nat) (L : List Reg) (w : World) (hr : RegsAt w w.heap.size A n L) (hn : n ≤ 16) : Calls Try.prog 17 #[.slice A n cap] w (RNewPost L n w) := by
  rcases Nat.eq_zero_or_pos n with h0 | h0
  · subst h0
    obtain rfl : L = [] := List.eq_nil_of_length_eq_zero hr.1
    exact refNew_none A cap w
  · obtain ⟨_, _, rfl, _⟩ := hr.2.2 h0
    exact refNew_some _ n cap L w hr hn h0

section
variable {w w' : World} {p q : Nat} {A : Option Addr} {n cap : Nat} {L : List Reg} {f : Nat → Int}
theorem RMem_.c0 (h : RMem_ w p q A n cap L f) : w.cell? ⟨p, 0, none⟩ = some (.slice A n cap) := by rw [blk_cell h.hp]; rfl
theorem RMem_.c1 (h : RMem_ w p q A n cap L f) : w.cell? ⟨p, 1, none⟩ = some (.slice (some ⟨q, 0, none⟩) 65536 65536) := by rw [blk_cell h.hp]; rfl
theorem RMem_.below (h : RMem_ w p q A n cap L f) (hb : Below w.heap.size w w') : RMem_ w' p q A n cap L f :=
  ⟨(hb.block p (blk_lt h.hp)).trans h.hp, (hb.block q (blk_lt h.hq)).trans h.hq, (h.hr.below hb).more hb.size, h.hn, h.hf⟩
end

set_option maxRecDepth 100000 in
set_option maxHeartbeats 1000000 in
theorem refAddress_any {p q : Nat} {A : Option Addr} {n cap : Nat} {L : List Reg} {f : Nat → Int} (nm : ByteArray) (i : Int) (w : World) (h : RMem_ w p q A n cap L f) (hm : ∀ r ∈ L, mayB r = true) :
    Calls Try.prog 18 #[.pointer (some ⟨p, 0, none⟩), .string nm, .int .i64 i] w (AddrPost (addrI L nm i) w) := by
  have H := Lib.hid h
  have c0 := h.c0
  have hn := h.hn
  have hm' := Lib.hid hm
  clear h hm
  go_enter Try.func18, Try.ntmps18
  go_wp2
  go_loop [8] (fun s => ∃ k : Nat, k ≤ n ∧ s = .int .i64 k ∧ ∀ j r, j < k → L[j]? = some r → hitB nm i r = false) (fun s => n - (intOf s).toNat)
  case atStart => exact ⟨0, by omega, rfl, fun j r h => absurd h (by omega)⟩
  case round =>
    obtain ⟨k, hk, rfl, hno⟩ := hrel
    have hno' := Lib.hid hno
    clear hno
    by_cases hlt : k < n
    · obtain ⟨blk, off, r, rfl, hB, hL, hR, hW⟩ := H.out.hr.at_ hlt
      obtain ⟨m1, m2, m3, m4, m5, m6, m7⟩ := (mayB_iff r).1 (hm'.out r (List.mem_of_getElem? hL))
      obtain ⟨r0, r1, r2, r3⟩ := hR
      have hL' := Lib.hid hL
      clear hL hW
      have hcont := Lib.hid (show hitB nm i r = false → ∀ j r', j < k + 1 → L[j]? = some r' → hitB nm i r' = false from fun hf j r' hj hr' => by
        rcases Nat.lt_or_ge j k with h | h
        · exact hno'.out j r' h hr'
        · obtain rfl : j = k := by omega
          rw [hL'.out] at hr'
          cases hr'
          exact hf)
      cases hnm : (r.name.toList == nm.toList)
      · have hf := Lib.hid (show hitB nm i r = false by unfold hitB; rw [hnm]; rfl)
        go_wp2
        go_round
        case rel => exact ⟨k + 1, by omega, by go_num, hcont.out hf.out⟩
        case measure => simp [intOf]; omega
      · by_cases hi0 : 0 ≤ i
        · have d1 : decide (0 ≤ i) = true := by simpa using hi0
          by_cases hi1 : i < r.size
          · have d2 : decide (i < r.size) = true := by simpa using hi1
            have hf := Lib.hid (show hitB nm i r = true by unfold hitB; rw [hnm, d1, d2]; rfl)
            go_wp2
            go_ret2
            refine ⟨?_, Below.refl _ _⟩
            rw [addrI_found hL'.out hf.out hno'.out]
            rfl
          · have d2 : decide (i < r.size) = false := by simpa using hi1
            have hf := Lib.hid (show hitB nm i r = false by unfold hitB; rw [hnm, d1, d2]; rfl)
            go_wp2
            go_round
            case rel => exact ⟨k + 1, by omega, by go_num, hcont.out hf.out⟩
            case measure => simp [intOf]; omega
        · have d1 : decide (0 ≤ i) = false := by simpa using hi0
          have hf := Lib.hid (show hitB nm i r = false by unfold hitB; rw [hnm, d1]; rfl)
          go_wp2
          go_round
          case rel => exact ⟨k + 1, by omega, by go_num, hcont.out hf.out⟩
          case measure => simp [intOf]; omega
    · have hd : decide ((k : Int) < (n : Int)) = false := by simp; omega
      have hfin := Lib.hid (addrI_none (L := L) (m := n) (nm := nm) (i := i) H.out.hr.1 (fun j hj => by
        have hj' := List.mem_range.1 hj
        have hl := H.out.hr.1
        rw [List.getD_eq_getElem?_getD, List.getElem?_eq_getElem (by omega)]
        exact hno'.out j _ (by omega) (List.getElem?_eq_getElem (by omega))))
      go_wp2
      go_ret2
      refine ⟨?_, Below.refl _ _⟩
      rw [hfin.out]
      rfl
end Go.Proofs.Ytageahpgcjnkpaa
