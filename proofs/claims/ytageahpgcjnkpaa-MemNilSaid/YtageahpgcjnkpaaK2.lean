/- Where a region's word lies: Address. -/
import Derived.Test.YtageahpgcjnkpaaK
set_option linter.unusedSimpArgs false
set_option linter.unusedVariables false
namespace Go.Proofs.Ytageahpgcjnkpaa
open Go.RowKit Go.Shelf

attribute [local go_sem] Oper.semAt_some

def hitB (nm : ByteArray) (i : Int) (r : Reg) : Bool := (r.name.toList == nm.toList) && decide (0 ≤ i) && decide (i < r.size)
def addrI (L : List Reg) (nm : ByteArray) (i : Int) : Option Int := (L.find? (hitB nm i)).map fun r => r.addr + 8 * i
/-- how Address ends -/
def AddrPost (v : Option Int) (w : World) (e : Ending) (w' : World) : Prop :=
  (match v with | some a => e = .returned (.tuple #[.int .u64 a, .bool true]) | none => e = .returned (.tuple #[.int .u64 0, .bool false])) ∧ Below w.heap.size w w'

theorem reg_bd {L : List Reg} (hm : ∀ r ∈ L, mayB r = true) (k : Nat) : 0 ≤ (L.getD k default).addr ∧ (L.getD k default).addr ≤ 49152 ∧ 0 ≤ (L.getD k default).size ∧ (L.getD k default).size ≤ 512 := by
  rw [List.getD_eq_getElem?_getD]
  cases h : L[k]? with
  | none => exact ⟨by decide, by decide, by decide, by decide⟩
  | some r =>
    obtain ⟨m1, m2, m3, m4, m5, m6, m7⟩ := (mayB_iff r).1 (hm r (List.mem_of_getElem? h))
    show 0 ≤ r.addr ∧ r.addr ≤ 49152 ∧ 0 ≤ r.size ∧ r.size ≤ 512
    omega

theorem addrI_none {L : List Reg} {m : Nat} {nm : ByteArray} {i : Int} (hl : L.length = m) (h : ∀ k ∈ List.range m, hitB nm i (L.getD k default) = false) : addrI L nm i = none := by
  unfold addrI
  rw [Option.map_eq_none_iff, List.find?_eq_none]
  intro r hr
  obtain ⟨k, hk⟩ := List.getElem?_of_mem hr
  have := h k (List.mem_range.2 (by rw [← hl]; exact (List.getElem?_eq_some_iff.1 hk).1))
  rw [List.getD_eq_getElem?_getD, hk] at this
  have h2 : hitB nm i r = false := this
  rw [h2]
  exact Bool.false_ne_true
theorem addrI_some {L : List Reg} {m k last : Nat} {ini : List Nat} {nm : ByteArray} {i : Int} (hl : L.length = m) (hk : k ≤ m) (e : List.range k = ini ++ [last]) (h : ∀ k ∈ ini, hitB nm i (L.getD k default) = false) (hh : hitB nm i (L.getD last default) = true) :
    addrI L nm i = some ((L.getD last default).addr + 8 * i) := by
  obtain ⟨k', rfl⟩ : ∃ k', k = k' + 1 := by
    cases k with
    | zero => simp at e
    | succ k' => exact ⟨k', rfl⟩
  rw [range_succ] at e
  obtain ⟨rfl, e5⟩ := List.append_inj' e rfl
  obtain rfl : k' = last := by simpa using e5
  have hlt : k' < L.length := by omega
  unfold addrI
  have e0 : L.getD k' default = L[k'] := by rw [List.getD_eq_getElem?_getD, List.getElem?_eq_getElem hlt]; rfl
  rw [e0] at hh ⊢
  have : L.find? (hitB nm i) = some L[k'] := by
    rw [List.find?_eq_some_iff_getElem]
    refine ⟨hh, k', hlt, rfl, fun j hj => ?_⟩
    have := h j (List.mem_range.2 hj)
    rw [List.getD_eq_getElem?_getD, List.getElem?_eq_getElem (by omega)] at this
    have h2 : hitB nm i L[j] = false := this
    rw [h2]; rfl
  rw [this]
  rfl

set_option maxRecDepth 100000 in
set_option maxHeartbeats 2000000 in
theorem address_in {p q : Nat} {A : Option Addr} {m cap : Nat} {L : List Reg} {f : Nat → Int} (nm : ByteArray) (i : Int) (w : World) (h : Mem_ w p q A m cap L f) (hc : m ≤ cap) (hm : ∀ r ∈ L, mayB r = true) :
    CallsIn Fence.wide 5 Try.prog 16 #[.pointer (some ⟨p, 0, none⟩), .string nm, .int .i64 i] w (AddrPost (addrI L nm i) w) := by
  have H := Lib.hid h
  have hm' := Lib.hid hm
  clear h hm
  refine callsIn_of_wp_marks Try.func16 rfl trivial ?_ rfl
  simp only [Try.ntmps16, List.size_toArray, List.length_cons, List.length_nil, Nat.reduceAdd, Nat.reduceSub, Array.replicate_succ, Array.replicate_zero, List.push_toArray, List.append_toArray, List.nil_append, List.cons_append]
  have hw1 : Below w.heap.size w ((((w.alloc (.cells #[.string nm] 9)).alloc (.cells #[.int .i64 i] 3)).alloc (.cells #[.int .u64 0] 30)).alloc (.cells #[.bool false] 4)) := ((((Below.refl _ w).alloc (Nat.le_refl _) _).alloc (by simp) _).alloc (by simp; omega) _).alloc (by simp; omega) _
  have k0 := (((Boxed.new w 9 (.string nm)).alloc (.cells #[.int .i64 i] 3)).alloc (.cells #[.int .u64 0] 30)).alloc (.cells #[.bool false] 4)
  have k1 := ((Boxed.new (w.alloc (.cells #[.string nm] 9)) 3 (.int .i64 i)).alloc (.cells #[.int .u64 0] 30)).alloc (.cells #[.bool false] 4)
  have k2 := (Boxed.new ((w.alloc (.cells #[.string nm] 9)).alloc (.cells #[.int .i64 i] 3)) 30 (.int .u64 0)).alloc (.cells #[.bool false] 4)
  have k3 := Boxed.new (((w.alloc (.cells #[.string nm] 9)).alloc (.cells #[.int .i64 i] 3)).alloc (.cells #[.int .u64 0] 30)) 4 (.bool false)
  simp only [World.size_alloc] at k1 k2 k3
  gi_wp2_with fail
  obtain ⟨W1, hW1⟩ : ∃ W1, ((((w.alloc (.cells #[.string nm] 9)).alloc (.cells #[.int .i64 i] 3)).alloc (.cells #[.int .u64 0] 30)).alloc (.cells #[.bool false] 4)) = W1 := ⟨_, rfl⟩
  rw [hW1] at hw1 k0 k1 k2 k3 ⊢
  clear hW1
  refine ⟨trivial, ?_⟩
  refine (callsIn_wide.2 (layout_any W1 (H.out.below hw1) hc)).mono ?_
  rintro e w2 ⟨A2, cap2, rfl, x1, x2, x3, x4⟩
  have hw2' := Lib.hid (hw1.trans (x4.mono hw1.size))
  have k0' := Lib.hid (show Boxed w2 w.heap.size 9 (.string nm) from (x4.block _ k0.lt).trans k0)
  have k1' := Lib.hid (show Boxed w2 (w.heap.size + 1) 3 (.int .i64 i) from (x4.block _ k1.lt).trans k1)
  have k2' := Lib.hid (show Boxed w2 (w.heap.size + 1 + 1) 30 (.int .u64 0) from (x4.block _ k2.lt).trans k2)
  have k3' := Lib.hid (show Boxed w2 (w.heap.size + 1 + 1 + 1) 4 (.bool false) from (x4.block _ k3.lt).trans k3)
  have x3' := Lib.hid x3
  clear x3 x4 k0 k1 k2 k3 hw1
  gi_wp2_with fail
  refine ⟨trivial, ?_⟩
  refine (all_in Fence.wide _ trivial rfl _ _ _ _).mono ?_
  rintro e w3 ⟨rfl, rfl⟩
  gi_wp2_with fail
  have hB2 := hw2'.out
  have hsz : w.heap.size + 1 + 1 + 1 < w2.heap.size := k3'.out.lt
  obtain ⟨W0, hW0⟩ : ∃ W0, w2.alloc (.cells #[.slice A2 m cap2] 22) = W0 := ⟨_, rfl⟩
  have hB0 : Below w.heap.size w W0 := by rw [← hW0]; exact hB2.alloc hB2.size _
  have g0 : Boxed W0 w.heap.size 9 (.string nm) := by rw [← hW0]; exact k0'.out.alloc _
  have g1 : Boxed W0 (w.heap.size + 1) 3 (.int .i64 i) := by rw [← hW0]; exact k1'.out.alloc _
  have g2 : Boxed W0 (w.heap.size + 1 + 1) 30 (.int .u64 0) := by rw [← hW0]; exact k2'.out.alloc _
  have g3 : Boxed W0 (w.heap.size + 1 + 1 + 1) 4 (.bool false) := by rw [← hW0]; exact k3'.out.alloc _
  have hR0 : RegsAt W0 W0.heap.size A2 m L := by rw [← hW0]; exact regs_alloc x3'.out _
  have hcell : W0.cell? ⟨w2.heap.size, 0, none⟩ = some (.slice A2 m cap2) := by rw [← hW0]; exact new_cell w2 _ _
  have hsW : w2.heap.size < W0.heap.size := by rw [← hW0]; simp
  have hbd := reg_bd hm'.out
  rw [hW0]
  clear hW0 k0' k1' k2' k3' x3' hw2' hB2
  refine wpIn_rangeFunc_ownH (F := Fence.wide) (n := 5) rfl (by omega) (gf := 62) (lb := #[.pointer (some ⟨w2.heap.size, 0, none⟩)]) rfl trivial (enters_of Try.func62 (by kernel_rfl) rfl)
    (all_stops Fence.wide (5 - 1) trivial rfl (by omega) w2.heap.size W0.heap.size A2 m cap2 L H.out.hn W0 hsW (Nat.le_refl _) hcell hR0) belowK_t (belowK_b (Nat.le_refl _)) (Below.refl _ _) (fun _ => rfl)
    (fun pre W => (((∀ k ∈ pre, hitB nm i (L.getD k default) = false) ∧ Boxed W w.heap.size 9 (.string nm)) ∧ (Boxed W (w.heap.size + 1) 3 (.int .i64 i) ∧ (Boxed W (w.heap.size + 1 + 1) 30 (.int .u64 0) ∧ Boxed W (w.heap.size + 1 + 1 + 1) 4 (.bool false)))) ∧ (Below w.heap.size w W ∧ W0.heap.size ≤ W.heap.size))
    (fun c pre W => ((c = .ret ∧ ∃ ini k, pre = ini ++ [k] ∧ (∀ k ∈ ini, hitB nm i (L.getD k default) = false) ∧ hitB nm i (L.getD k default) = true ∧ Boxed W (w.heap.size + 1 + 1) 30 (.int .u64 ((L.getD k default).addr + 8 * i)) ∧ Boxed W (w.heap.size + 1 + 1 + 1) 4 (.bool true))) ∧ Below w.heap.size w W)
    (OwnFrom.and (OwnFrom.and (OwnFrom.and (ownFrom_pure _ _) (Own.from (boxed_own _ _ _) _)) (OwnFrom.and (Own.from (boxed_own _ _ _) _) (OwnFrom.and (Own.from (boxed_own _ _ _) _) (Own.from (boxed_own _ _ _) _)))) (OwnFrom.and (ownFrom_below (Nat.le_refl _) hB0.size) (fun s X Y row hs hg hr => Nat.le_trans hs hg.size)))
    (fun c => OwnFrom.and (fun s X Y row hs hg hr => by
      obtain ⟨hc, ini, k, e1, e2, e3, e4, e5⟩ := hs
      exact ⟨hc, ini, k, e1, e2, e3, boxed_own _ 30 (fun (_ : Unit) => Value.int .u64 ((L.getD k default).addr + 8 * i)) () X Y row e4 hg (fun r e => (hr r e).2), boxed_own _ 4 (fun (_ : Unit) => Value.bool true) () X Y row e5 hg (fun r e => (hr r e).2)⟩) (ownFrom_below (Nat.le_refl _) hB0.size))
    ⟨⟨⟨by simp, g0⟩, g1, g2, g3⟩, hB0, Nat.le_refl _⟩
    (fun x a' W => ∃ Bx, w.heap.size + 1 + 1 + 1 < Bx ∧ W.heap[Bx]? = some (boxReg (L.getD x default)) ∧ a' = { tmps := #[.pointer (some ⟨p, 0, none⟩), .string nm, .int .i64 i, undef, .pointer (some ⟨w.heap.size, 0, none⟩), .pointer (some ⟨w.heap.size + 1, 0, none⟩), .pointer (some ⟨w.heap.size + 1 + 1, 0, none⟩), .pointer (some ⟨w.heap.size + 1 + 1 + 1, 0, none⟩), undef, .pointer (some ⟨Bx, 0, none⟩),
      .pointer (some ⟨p, 0, none⟩), .slice A2 m cap2, .func (.func 62) #[] #[.pointer (some ⟨w2.heap.size, 0, none⟩)], .int .i64 (x : Int), (L.getD x default).val, undef, undef, undef, undef, undef, undef, undef, undef, undef, undef, undef, undef, undef, undef, undef, undef, undef, undef, undef, undef], defers := [] })
    (fun x a' _ X Y row hs hg hr => by
      obtain ⟨Bx, h1, h2, h3⟩ := hs
      refine ⟨Bx, h1, ?_, h3⟩
      exact (hg.block Bx (blk_lt h2) (fun e => by
        obtain ⟨_, o, ho, hc⟩ := hr Bx e.symm
        rw [h2] at ho
        cases ho
        cases hc)).trans h2)
    ?assign ?body ?done ?stop
  case assign =>
    rintro l pre x W K ⟨⟨⟨u0, u1⟩, u2, u3, u4⟩, u5, u6⟩ hK
    have u0' := Lib.hid u0
    clear u0
    dsimp only [Reg.val]
    gi_wp2
    exact hK _ _ ((KeepsOthers.alloc _ _).from _) ((Below.refl _ W).alloc u6 _) ⟨⟨⟨u0'.out, u1.alloc _⟩, u2.alloc _, u3.alloc _, u4.alloc _⟩, u5.alloc u5.size _, by simp; omega⟩ ⟨W.heap.size, u4.lt, heap_alloc_new W _, rfl⟩
  case body =>
    rintro l pre x a' W hl ⟨lr, hlr⟩ ⟨⟨⟨u0, u1⟩, u2, u3, u4⟩, u5, u6⟩ ⟨Bx, hBx, bX, rfl⟩ hlt
    obtain ⟨bd1, bd2, bd3, bd4⟩ := hbd x
    have u0' := Lib.hid u0
    clear u0
    have hini : ∀ (b : Bool), hitB nm i (L.getD x default) = b → b = false → ∀ k ∈ pre ++ [x], hitB nm i (L.getD k default) = false := by
      intro b h1 h2 k hk
      rcases List.mem_append.1 hk with hk | hk
      · exact u0'.out k hk
      · simp at hk; subst hk; rw [h1, h2]
    have hini' := Lib.hid hini
    have hix := Lib.hid (show ∀ r, L.getD x default = r → ∀ W', Boxed W' (w.heap.size + 1 + 1) 30 (.int .u64 (r.addr + 8 * i)) → Boxed W' (w.heap.size + 1 + 1) 30 (.int .u64 ((L.getD x default).addr + 8 * i)) from fun r h W' hb => by rw [h]; exact hb)
    obtain ⟨r, hr⟩ : ∃ r, L.getD x default = r := ⟨_, rfl⟩
    have hix' := Lib.hid (hix.out r hr)
    rw [hr] at bX bd1 bd2 bd3 bd4 ⊢
    have hini2 := Lib.hid (show ∀ (b : Bool), hitB nm i r = b → b = false → ∀ k ∈ pre ++ [x], hitB nm i (L.getD k default) = false from fun b h1 h2 => hini'.out b (by rw [hr]; exact h1) h2)
    have hyes := Lib.hid (show hitB nm i r = true → hitB nm i (L.getD x default) = true from fun h => by rw [hr]; exact h)
    obtain ⟨x0, x1, x2, x3⟩ := box4_of (r := r) bX
    have y1 := u1.cell
    have y2 := u2.cell
    have y3 := u3.cell
    have y4 := u4.cell
    have z3 := u3.frozen
    have z4 := u4.frozen
    have u1' := Lib.hid u1
    have u2' := Lib.hid u2
    have u3' := Lib.hid u3
    have u4' := Lib.hid u4
    have u5' := Lib.hid u5
    have hbd' := Lib.hid hbd
    have hR0' := Lib.hid hR0
    clear u1 u2 u3 u4 u5 hbd hini hix hr bX hlr hR0 hcell g0 g1 g2 g3 hB0
    dsimp only [Reg.val]
    cases hnm : (r.name.toList == nm.toList)
    · gi_wp2
      exact ⟨KeepsFrom.refl _ _, Below.refl _ _, ⟨⟨hini2.out _ rfl (by unfold hitB; rw [hnm]; rfl), u1'.out⟩, u2'.out, u3'.out, u4'.out⟩, u5'.out, u6⟩
    · by_cases hi0 : 0 ≤ i
      · by_cases hi1 : i < r.size
        · have d1 : decide (0 ≤ i) = true := by simpa using hi0
          have d2 : decide (i < r.size) = true := by simpa using hi1
          gi_wp2
          have hlo : w.heap.size + 1 + 1 ≠ w.heap.size + 1 + 1 + 1 := by omega
          exact ⟨((KeepsOthers.setCell _ _ _).trans (KeepsOthers.setCell _ _ _)).from _, ⟨rfl, pre, x, rfl, u0'.out, hyes.out (by unfold hitB; rw [hnm, d1, d2]; rfl), hix'.out _ ((u3'.out.set _).other hlo _), (u4'.out.other (Ne.symm hlo) _).set _⟩,
            (u5'.out.setCell (p := ⟨w.heap.size + 1 + 1, 0, none⟩) (by simp; omega) _).setCell (p := ⟨w.heap.size + 1 + 1 + 1, 0, none⟩) (by simp; omega) _⟩
        · have d1 : decide (0 ≤ i) = true := by simpa using hi0
          have d2 : decide (i < r.size) = false := by simpa using hi1
          gi_wp2
          exact ⟨KeepsFrom.refl _ _, Below.refl _ _, ⟨⟨hini2.out _ rfl (by unfold hitB; rw [hnm, d1, d2]; rfl), u1'.out⟩, u2'.out, u3'.out, u4'.out⟩, u5'.out, u6⟩
      · have d1 : decide (0 ≤ i) = false := by simpa using hi0
        gi_wp2
        exact ⟨KeepsFrom.refl _ _, Below.refl _ _, ⟨⟨hini2.out _ rfl (by unfold hitB; rw [hnm, d1]; rfl), u1'.out⟩, u2'.out, u3'.out, u4'.out⟩, u5'.out, u6⟩
  case done =>
    rintro D ys W hD rfl ⟨⟨⟨u0, u1⟩, u2, u3, u4⟩, u5, u6⟩ hK
    have y3 := u3.cell
    have y4 := u4.cell
    have z3 := u3.frozen
    have z4 := u4.frozen
    have u0' := Lib.hid u0
    have u5' := Lib.hid u5
    have u3' := Lib.hid u3
    have u4' := Lib.hid u4
    clear u0 u1 u2 u3 u4 u5 hbd hR0 hcell g0 g1 g2 g3 hB0
    gi_wp2
    have hlo : w.heap.size + 1 + 1 ≠ w.heap.size + 1 + 1 + 1 := by omega
    have hlt0 : w.heap.size + 1 + 1 + 1 < W0.heap.size := by omega
    have hK' := ((KeepsOthers.setCell W ⟨w.heap.size + 1 + 1, 0, none⟩ (.int .u64 0)).trans (KeepsOthers.setCell _ ⟨w.heap.size + 1 + 1 + 1, 0, none⟩ (.bool false))).same D _ hK rfl
    refine ⟨by simp, .inl ⟨_, _, rfl, run_takeDeferred hK', ?_⟩⟩
    have hc3 := (((u3'.out.set (.int .u64 0)).other hlo (.bool false)).kept (grownBy_putObj' _ D (.deferred none)) (fun e => by cases e; omega)).cell
    have hc4 := (((u4'.out.other (Ne.symm hlo) (.int .u64 0)).set (.bool false)).kept (grownBy_putObj' _ D (.deferred none)) (fun e => by cases e; omega)).cell
    refine ⟨.tuple #[.int .u64 0, .bool false], by simp [results, Try.f16, go_sem, hc3, hc4], ?_⟩
    rw [addrI_none (H.out.hr.1) u0'.out]
    exact ⟨rfl, ((u5'.out.setCell (p := ⟨w.heap.size + 1 + 1, 0, none⟩) (by simp; omega) _).setCell (p := ⟨w.heap.size + 1 + 1 + 1, 0, none⟩) (by simp; omega) _).grown (grownBy_putObj' _ D _) (by have := u5'.out.size; simp; omega) (fun k e => by cases e; omega)⟩
  case stop =>
    rintro D c pre W hD ⟨k, hk, rfl⟩ ⟨⟨rfl, ini, last, e1, e2, e3, e4, e5⟩, u5⟩ hK
    have e1' := Lib.hid e1
    have e2' := Lib.hid e2
    have e3' := Lib.hid e3
    have e4' := Lib.hid e4
    have e5' := Lib.hid e5
    have u5' := Lib.hid u5
    clear e1 e2 e3 e4 e5 u5 hbd hR0 hcell g0 g1 g2 g3 hB0
    gi_wp2
    have hlt0 : w.heap.size + 1 + 1 + 1 < W0.heap.size := by omega
    refine ⟨by simp, .inl ⟨_, _, rfl, run_takeDeferred hK, ?_⟩⟩
    have hc3 := (e4'.out.kept (grownBy_putObj' _ D (.deferred none)) (fun e => by cases e; omega)).cell
    have hc4 := (e5'.out.kept (grownBy_putObj' _ D (.deferred none)) (fun e => by cases e; omega)).cell
    refine ⟨.tuple #[.int .u64 ((L.getD last default).addr + 8 * i), .bool true], by simp [results, Try.f16, go_sem, hc3, hc4], ?_⟩
    rw [addrI_some (H.out.hr.1) hk e1'.out e2'.out e3'.out]
    exact ⟨rfl, u5'.out.grown (grownBy_putObj' _ D _) u5'.out.size (fun k e => by cases e; omega)⟩

theorem address_any {p q : Nat} {A : Option Addr} {m cap : Nat} {L : List Reg} {f : Nat → Int} (nm : ByteArray) (i : Int) (w : World) (h : Mem_ w p q A m cap L f) (hc : m ≤ cap) (hm : ∀ r ∈ L, mayB r = true) :
    Calls Try.prog 16 #[.pointer (some ⟨p, 0, none⟩), .string nm, .int .i64 i] w (AddrPost (addrI L nm i) w) := callsIn_wide.1 (address_in nm i w h hc hm)
end Go.Proofs.Ytageahpgcjnkpaa
