/- scan: a text's tokens are told, one by one. -/
import Derived.Test.YtmkfoknhjjgipaaDoorH
import Derived.RangeFuncNested
import Derived.RangeFuncBound
import Derived.RangeFuncCalls
import Derived.RangeFuncLeaves
import Derived.Shelf.Abstract
import Derived.Shelf.RegionOpen
import Derived.OwnWalkIn
import Derived.TacticsInMore
import Derived.LoopNIn
import Derived.LoopIn
import Derived.ControlIn
import Derived.Sort.LoopGhostIn
set_option linter.unusedSimpArgs false
set_option linter.unusedVariables false
namespace Go.Proofs.YtmkfoknhjjgipaaDoor
open Go.RowKit Go.Lib Go.Shelf

/-- what is left of the tokens from a place on -/
def scanR (s : ByteArray) (a : Nat) : List Tp × Option (Int × Nat) := scanF s.size (s.data.toList.drop a) a (lcF (1, 1) (s.data.toList.take a))
theorem scanR_zero (s : ByteArray) : scanR s 0 = scanA s := rfl
theorem drop_cons {s : ByteArray} {a : Nat} (h : a < s.size) : s.data.toList.drop a = s[a]'h :: s.data.toList.drop (a + 1) := by
  have hl : a < s.data.toList.length := by rw [size_list]; exact h
  rw [List.drop_eq_getElem_cons hl]
  congr 1
theorem take_lc {s : ByteArray} {a k : Nat} : lcF (1, 1) (s.data.toList.take (a + k)) = lcF (lcF (1, 1) (s.data.toList.take a)) ((s.data.toList.drop a).take k) := by
  rw [List.take_add, lcF_app]
theorem scanR_end {s : ByteArray} {a : Nat} (h : s.size ≤ a) : scanR s a = ([], none) := by
  unfold scanR
  rw [List.drop_eq_nil_iff.2 (by rw [size_list]; exact h), scanF_nil]
theorem scanR_up {s : ByteArray} {a : Nat} (h : a < s.size) : ∃ n, s.size = n + 1 := ⟨s.size - 1, by omega⟩
theorem scanR_blank {s : ByteArray} {a : Nat} (h : a < s.size) (hb : blankB (s[a]'h) = true) (hn : (s[a]'h).toNat ≠ 35) : scanR s a = scanR s (a + 1) := by
  obtain ⟨n, hz⟩ := scanR_up h
  unfold scanR
  rw [take_lc, drop_cons h, hz, scanF_blank hb hn]
  rfl
theorem scanR_note_end {s : ByteArray} {a : Nat} (h : a < s.size) (hb : (s[a]'h).toNat = 35) (hk : a + spanN noteB (s.data.toList.drop a) = s.size) : scanR s a = ([], none) := by
  unfold scanR
  have hl : (s.data.toList.drop a).length = s.size - a := by rw [List.length_drop, size_list]
  rw [drop_cons h] at hk hl ⊢
  exact scanF_note_end hb (by omega) _ _ _
theorem scanR_note {s : ByteArray} {a : Nat} (h : a < s.size) (hb : (s[a]'h).toNat = 35) (hk : a + spanN noteB (s.data.toList.drop a) < s.size) : scanR s a = scanR s (a + spanN noteB (s.data.toList.drop a) + 1) := by
  obtain ⟨n, hz⟩ := scanR_up h
  have hl : (s.data.toList.drop a).length = s.size - a := by rw [List.length_drop, size_list]
  unfold scanR
  rw [Nat.add_assoc, take_lc, hz, ← List.drop_drop]
  rw [drop_cons h] at hk hl ⊢
  rw [scanF_note hb (by omega)]
theorem scanR_tok {s : ByteArray} {a : Nat} (h : a < s.size) (h1 : (s[a]'h).toNat ≠ 35) (h2 : blankB (s[a]'h) = false) {x : Tk} (ho : oneR (s.data.toList.drop a) = .ok x) :
    scanR s a = (⟨a, x, (lcF (1, 1) (s.data.toList.take a)).1, (lcF (1, 1) (s.data.toList.take a)).2⟩ :: (scanR s (a + x.t.length)).1, (scanR s (a + x.t.length)).2) := by
  obtain ⟨n, hz⟩ := scanR_up h
  obtain ⟨k, hk, hkl, hxt, hxl⟩ := oneR_text (by rw [drop_cons h]; simp) ho
  have hl : (s.data.toList.drop a).length = s.size - a := by rw [List.length_drop, size_list]
  unfold scanR
  rw [take_lc, ← List.drop_drop, hxl, ← hxt, hz]
  have hf : scanF n ((s.data.toList.drop a).drop k) (a + k) (lcF (lcF (1, 1) (s.data.toList.take a)) x.t) = scanF (n + 1) ((s.data.toList.drop a).drop k) (a + k) (lcF (lcF (1, 1) (s.data.toList.take a)) x.t) :=
    scanF_fuel _ _ _ _ _ (by rw [List.length_drop, hl]; omega) (by rw [List.length_drop, hl]; omega)
  rw [drop_cons h] at ho hf ⊢
  rw [scanF_tok h1 h2 ho, hxl, hf]
theorem scanR_err {s : ByteArray} {a : Nat} (h : a < s.size) (h1 : (s[a]'h).toNat ≠ 35) (h2 : blankB (s[a]'h) = false) {e : Int} (ho : oneR (s.data.toList.drop a) = .error e) : scanR s a = ([], some (e, a)) := by
  obtain ⟨n, hz⟩ := scanR_up h
  unfold scanR
  rw [drop_cons h] at ho ⊢
  rw [hz, scanF_err h1 h2 ho]

/-- what was there and is not of a set stays -/
structure Else (Z : Nat → Prop) (W W' : World) : Prop where
  os : W'.os = W.os
  tape : W'.tape = W.tape
  output : W'.output = W.output
  size : W.heap.size ≤ W'.heap.size
  block : ∀ k, k < W.heap.size → ¬ Z k → W'.heap[k]? = W.heap[k]?
def Grow (Z : Nat → Prop) (W W' : World) : Nat → Prop := fun k => Z k ∨ (W.heap.size ≤ k ∧ k < W'.heap.size)
theorem Else.of_below {Z : Nat → Prop} {W W' : World} (h : Below W.heap.size W W') : Else Z W W' := ⟨h.os, h.tape, h.output, h.size, fun k hk _ => h.block k hk⟩
theorem Else.trans {Z : Nat → Prop} {A B C : World} (h : Else Z A B) (k : Else (Grow Z A B) B C) : Else Z A C :=
  ⟨k.os.trans h.os, k.tape.trans h.tape, k.output.trans h.output, Nat.le_trans h.size k.size, fun i hi hz => (k.block i (Nat.lt_of_lt_of_le hi h.size) (fun hg => hg.elim hz (fun hg => absurd hg.1 (by omega)))).trans (h.block i hi hz)⟩
/-- what tell keeps: its own memory lies apart from the set -/
structure TellOk (J : (Nat → Prop) → List Tp → World → Prop) : Prop where
  grow : ∀ {Z pre W W'}, J Z pre W → Else Z W W' → J (Grow Z W W') pre W'
  env : ∀ {Z pre W}, J Z pre W → Env W
def TellPost (J : (Nat → Prop) → List Tp → World → Prop) (Jx : List Tp → World → Prop) (Z : Nat → Prop) (l : List Tp) (W : World) (e : Ending) (W' : World) : Prop :=
  (e = .returned (.bool true) ∧ J Z l W' ∧ ∀ k, Z k → k < W.heap.size → W'.heap[k]? = W.heap[k]?) ∨ (e = .returned (.bool false) ∧ Jx l W')
def ScanPost (s : ByteArray) (J : (Nat → Prop) → List Tp → World → Prop) (Jx : List Tp → World → Prop) (e : Ending) (W' : World) : Prop :=
  (s.size ≤ 65536 ∧ (scanA s).2 = none ∧ e = .returned .nilIface ∧ ∃ Z, J Z (scanA s).1 W') ∨
  (s.size ≤ 65536 ∧ ∃ er a p Z, (scanA s).2 = some (er, a) ∧ e = .returned (.iface 51 (.pointer (some ⟨p, 0, none⟩))) ∧ FaultAt W' p er a ∧ Z p ∧ J Z (scanA s).1 W') ∨
  (s.size ≤ 65536 ∧ ∃ pre rest, pre ≠ [] ∧ pre ++ rest = (scanA s).1 ∧ e = .returned .nilIface ∧ Jx pre W') ∨
  (65536 < s.size ∧ e = .returned (.iface 28 (.int .i64 3)) ∧ ∃ Z, J Z [] W')
theorem set5_3 {W : World} {b : Nat} {v0 v1 v2 v3 v4 v : Value} {t : TypeId} (h : W.heap[b]? = some (.cells #[v0, v1, v2, v3, v4] t (0, 0))) : (W.setCell ⟨b, 3, none⟩ v).heap[b]? = some (.cells #[v0, v1, v2, v, v4] t (0, 0)) := by
  simp [World.setCell, Array.getElem?_modify, h]
theorem set5_4 {W : World} {b : Nat} {v0 v1 v2 v3 v4 v : Value} {t : TypeId} (h : W.heap[b]? = some (.cells #[v0, v1, v2, v3, v4] t (0, 0))) : (W.setCell ⟨b, 4, none⟩ v).heap[b]? = some (.cells #[v0, v1, v2, v3, v] t (0, 0)) := by
  simp [World.setCell, Array.getElem?_modify, h]
theorem stepR_scope {P : Program} {b : Frame} {a : Act} {k : List Item} {cs : List Frame} {w : World} {c : Code} : step P (lone (b.atR a (.code (.scope c) :: k)) cs w) = .next (lone (b.atR a (.code c :: .inScope c :: k)) cs w) :=
  step_lone_go (by simp [stepG, stepG.exec, Frame.atR])
theorem stepR_inScope {P : Program} {b : Frame} {a : Act} {k : List Item} {cs : List Frame} {w : World} {c : Code} : step P (lone (b.atR a (.inScope c :: k)) cs w) = .next (lone (b.atR a k) cs w) :=
  step_lone_go (by simp [stepG, stepG.exec, Frame.atR])
theorem wpIn_scope_straight {F : Fence} {n : Nat} {P : Program} {Q : Exit → Act → World → Prop} {a : Act} {w : World} {c : Code} (h : c.wpIn F n P (Exit.noGoto Q) a w) : (Code.scope c).wpIn F n P Q a w := by
  intro b k cs hro hb hr
  have h0 : (lone (b.atR a (.code (.scope c) :: k)) cs w).fenced P F := fenced_calm hb hr rfl
  obtain ⟨e, a₁, w₁, hq, harr⟩ := h b (.inScope c :: k) cs hro hb hr
  cases e with
  | normal => exact ⟨.normal, a₁, w₁, hq, .head h0 stepR_scope (StepsIn.trans harr (.one (fenced_calm hb hr rfl) stepR_inScope))⟩
  | exit id' =>
    have hx : exitTo id' (.inScope c :: k) = exitTo id' k := by simp [exitTo]
    exact ⟨.exit id', a₁, w₁, hq, fun k' hk => .head h0 stepR_scope (harr.1 k' (by rw [hx]; exact hk)),
      fun hr' hk => let ⟨k₁, h1, h2⟩ := harr.2 hr' (by rw [hx]; exact hk); ⟨k₁, h1, .head h0 stepR_scope h2⟩⟩
  | goto l => exact hq.elim
  | ret => exact ⟨_, a₁, w₁, hq, .of_steps (.one h0 stepR_scope) harr⟩
  | panic ch => exact ⟨_, a₁, w₁, hq, .of_steps (.one h0 stepR_scope) harr⟩
  | outgrown => exact ⟨_, a₁, w₁, hq, .of_steps (.one h0 stepR_scope) harr⟩
set_option maxRecDepth 100000 in
set_option maxHeartbeats 8000000 in
theorem scan_in (n : Nat) (hn : 1 ≤ n) (l : Nat) (s : ByteArray) (hs0 : s.size ≤ 2000000) (J : (Nat → Prop) → List Tp → World → Prop) (Jx : List Tp → World → Prop) (hJ : TellOk J) (w : World)
    (hY : ∀ Z pre t rest W1, J Z pre W1 → pre ++ t :: rest = (scanA s).1 → YieldAt Fence.wide (n - 1) Tryd.prog l #[.int .i64 t.a, tpV t] W1 (TellPost J Jx Z (pre ++ [t]) W1))
    (Z0 : Nat → Prop) (hJ0 : J Z0 [] w) :
    CallsIn Fence.wide n Tryd.prog 15 #[.string s, .func (.yield l) #[] #[]] w (ScanPost s J Jx) := by
  have hE := hJ.env hJ0
  by_cases hbig : 65536 < s.size
  · have e0 : (65536 : Int) < (s.size : Int) := by omega
    have hJ0 := Lib.hid hJ0
    refine callsIn_of_wp Tryd.func15 rfl trivial ?_ rfl
    simp only [Tryd.ntmps15, List.size_toArray, List.length_cons, List.length_nil, Nat.reduceAdd, Nat.reduceSub, Array.replicate_succ, Array.replicate_zero, List.push_toArray, List.append_toArray, List.nil_append, List.cons_append]
    gi_wp2_with fail
    refine wpIn_scope_straight ?_
    gi_wp2
    rw [Exit.noGoto_ret]
    go_ret
    exact .inr (.inr (.inr ⟨hbig, rfl, Z0, hJ0.out⟩))
  · have e0 : ¬ (65536 : Int) < (s.size : Int) := by omega
    have hsg := Lib.hid (signs_any w hE)
    have hJ0 := Lib.hid hJ0
    have hEh := Lib.hid hE
    clear hE
    refine callsIn_of_wp Tryd.func15 rfl trivial ?_ rfl
    simp only [Tryd.ntmps15, List.size_toArray, List.length_cons, List.length_nil, Nat.reduceAdd, Nat.reduceSub, Array.replicate_succ, Array.replicate_zero, List.push_toArray, List.append_toArray, List.nil_append, List.cons_append]
    gi_wp2_with fail
    refine wpIn_scope_straight ?_
    gi_wp2_with fail
    refine ⟨trivial, ?_⟩
    refine (callsIn_wide.2 hsg.out).mono ?_
    rintro e w1 ⟨b, rfl, hbw, hSg, hB1⟩
    have hJ1 := hJ.grow hJ0.out (Else.of_below hB1)
    have hbl : w.heap.size ≤ b ∧ b < w1.heap.size := by
      obtain ⟨ck, hck⟩ := hSg
      exact ⟨hbw, blk_lt hck⟩
    obtain ⟨W0, hW0⟩ : ∃ W0, w1.alloc (lineB 0 1 1) = W0 := ⟨_, rfl⟩
    have hz0 : W0.heap.size = w1.heap.size + 1 := by rw [← hW0]; simp
    have hB2 : Below w1.heap.size w1 W0 := by rw [← hW0]; exact (Below.refl _ w1).alloc (Nat.le_refl _) _
    have hJ2 := hJ.grow hJ1 (Else.of_below hB2)
    have hSg2 := hSg.below hB2
    have hL2 : W0.heap[w1.heap.size]? = some (lineB 0 1 1) := by rw [← hW0]; exact heap_alloc_new _ _
    have hZb : Grow (Grow Z0 w w1) w1 W0 b := .inl (.inr hbl)
    have hZc : Grow (Grow Z0 w w1) w1 W0 w1.heap.size := .inr ⟨Nat.le_refl _, by omega⟩
    obtain ⟨c, hc⟩ : ∃ c, w1.heap.size = c := ⟨_, rfl⟩
    rw [hc] at hL2 hZc
    have hbc : b ≠ c := by omega
    generalize Grow (Grow Z0 w w1) w1 W0 = Z2 at hJ2 hZb hZc
    have hrel0 := Lib.hid (show ∃ a a0 pre Z, s.size - a = s.size ∧ Value.int .i64 0 = .int .i64 ((a : Nat) : Int) ∧ a ≤ s.size ∧ a0 ≤ a ∧ (scanA s).1 = pre ++ (scanR s a).1 ∧ (scanA s).2 = (scanR s a).2 ∧ J Z pre W0 ∧ SignAt W0 b ∧ Z b ∧ Z c ∧ W0.heap[c]? = some (lineB a0 (lcF (1, 1) (s.data.toList.take a0)).1 (lcF (1, 1) (s.data.toList.take a0)).2) from
      ⟨0, 0, [], Z2, by omega, rfl, Nat.zero_le _, Nat.le_refl _, rfl, rfl, hJ2, hSg2, hZb, hZc, hL2⟩)
    have hW0' := Lib.hid hW0
    have hc' := Lib.hid hc
    clear hJ1 hbl hz0 hB2 hJ2 hSg2 hL2 hZb hZc hW0 hc hSg hB1
    gi_wp2_with fail
    refine wpIn_label ?_
    gi_wp2_with fail
    have hW0'' : w1.alloc (.cells #[.int .i64 0, .int .i64 1, .int .i64 1] 45) = W0 := hW0'.out
    rw [hW0'', hc'.out]
    clear hW0''
    gi_loopg [7] s.size (fun g s7 wr => ∃ a a0 pre Z, s.size - a = g ∧ s7 = .int .i64 ((a : Nat) : Int) ∧ a ≤ s.size ∧ a0 ≤ a ∧ (scanA s).1 = pre ++ (scanR s a).1 ∧ (scanA s).2 = (scanR s a).2 ∧ J Z pre wr ∧ SignAt wr b ∧ Z b ∧ Z c ∧ wr.heap[c]? = some (lineB a0 (lcF (1, 1) (s.data.toList.take a0)).1 (lcF (1, 1) (s.data.toList.take a0)).2))
    case atStart => exact hrel0.out
    case round =>
      obtain ⟨a, a0, pre, Z, hg, rfl, ha, ha0, hs1, hs2, hJr, hSr, hZb, hZc, hLr⟩ := hrel
      clear hrel0
      have hs1 := Lib.hid hs1
      have hs2 := Lib.hid hs2
      have hJr := Lib.hid hJr
      have hSr := Lib.hid hSr
      have hLr := Lib.hid hLr
      rcases Nat.lt_or_ge a s.size with hlt | hge
      · have e1 : ((a : Nat) : Int) < (s.size : Int) := by omega
        by_cases h35 : (s[a]'hlt).toNat = 35
        · have e35 : ((s[a]'hlt).toNat : Int) = 35 := by omega
          have hwh := while_any 27 noteB note_pred s a wr hs0 (by omega)
          obtain ⟨k, hk⟩ : ∃ k, spanN noteB (s.data.toList.drop a) = k := ⟨_, rfl⟩
          rw [hk] at hwh
          have hwh := Lib.hid hwh
          have hk' := Lib.hid hk
          have hkl : a + k ≤ s.size := by
            have := span_le noteB (s.data.toList.drop a)
            rw [List.length_drop, size_list] at this
            omega
          have w1 : IntKind.i64.wrap ((a : Int) + (k : Int)) = ((a + k : Nat) : Int) := by rw [IntKind.wrap_i64]; omega
          clear hk
          rcases Nat.lt_or_ge (a + k) s.size with hlk | hgk
          · have e2 : ¬ (a : Int) + (k : Int) = (s.size : Int) := by omega
            have hnx := Lib.hid (show scanR s a = scanR s (a + k + 1) by have := scanR_note hlt h35 (by rw [hk'.out]; exact hlk); rwa [hk'.out] at this)
            have w3 : IntKind.i64.wrap ((a : Int) + (k : Int) + 1) = ((a + k + 1 : Nat) : Int) := by rw [IntKind.wrap_i64]; omega
            gi_wp2_with fail
            refine ⟨trivial, ?_⟩
            refine (callsIn_wide.2 hwh.out).mono ?_
            rintro e w2 ⟨rfl, rfl⟩
            gi_wp2
            gi_roundg (s.size - (a + k + 1))
            case measure => omega
            case rel => exact ⟨a + k + 1, a0, pre, Z, rfl, by go_num, by omega, by omega, by rw [hs1.out, hnx.out], by rw [hs2.out, hnx.out], hJr.out, hSr.out, hZb, hZc, hLr.out⟩
          · have e2 : (a : Int) + (k : Int) = (s.size : Int) := by omega
            have hfin := Lib.hid (show (scanA s).2 = none ∧ (scanA s).1 = pre by rw [hs1.out, hs2.out, scanR_note_end hlt h35 (by rw [hk'.out]; omega)]; simp)
            gi_wp2_with fail
            refine ⟨trivial, ?_⟩
            refine (callsIn_wide.2 hwh.out).mono ?_
            rintro e w2 ⟨rfl, rfl⟩
            gi_wp2
            rw [Exit.noGoto_ret]
            go_ret
            exact .inl ⟨by omega, hfin.out.1, rfl, Z, by rw [hfin.out.2]; exact hJr.out⟩
        · by_cases hbk : (s[a]'hlt).toNat = 32 ∨ (s[a]'hlt).toNat = 9 ∨ (s[a]'hlt).toNat = 10 ∨ (s[a]'hlt).toNat = 13
          · have e35 : ¬ ((s[a]'hlt).toNat : Int) = 35 := by omega
            rcases hbk with hbk | hbk | hbk | hbk
            all_goals
              first | have ebk : ((s[a]'hlt).toNat : Int) = 32 := by omega | have ebk : ((s[a]'hlt).toNat : Int) = 9 := by omega | have ebk : ((s[a]'hlt).toNat : Int) = 10 := by omega | have ebk : ((s[a]'hlt).toNat : Int) = 13 := by omega
              have hnx := Lib.hid (scanR_blank hlt (by unfold blankB; rw [hbk]; rfl) h35)
              have w1 : IntKind.i64.wrap ((a : Int) + 1) = ((a + 1 : Nat) : Int) := by rw [IntKind.wrap_i64]; omega
              gi_wp2
              gi_roundg (s.size - (a + 1))
              case measure => omega
              case rel => exact ⟨a + 1, a0, pre, Z, rfl, by go_num, by omega, by omega, by rw [hs1.out, hnx.out], by rw [hs2.out, hnx.out], hJr.out, hSr.out, hZb, hZc, hLr.out⟩
          · have e35 : ¬ ((s[a]'hlt).toNat : Int) = 35 := by omega
            have e32 : ¬ ((s[a]'hlt).toNat : Int) = 32 := by omega
            have e9 : ¬ ((s[a]'hlt).toNat : Int) = 9 := by omega
            have e10 : ¬ ((s[a]'hlt).toNat : Int) = 10 := by omega
            have e13 : ¬ ((s[a]'hlt).toNat : Int) = 13 := by omega
            have hnb : blankB (s[a]'hlt) = false := by
              unfold blankB
              simp only [Bool.or_eq_false_iff, beq_eq_false_iff_ne]
              omega
            have hnb := Lib.hid hnb
            have hone := Lib.hid (one_any s a b wr (hJ.env hJr.out) hs0 hlt hSr.out)
            clear hbk
            gi_wp2_with fail
            refine ⟨trivial, ?_⟩
            refine (callsIn_wide.2 hone.out).mono ?_
            rintro e w2 ⟨hok, hno, hB2⟩
            have hJ2 := hJ.grow hJr.out (Else.of_below (Z := Z) hB2)
            have hSr2 := hSr.out.below hB2
            have hLr2 := (hB2.block c (blk_lt hLr.out)).trans hLr.out
            have hZb2 : Grow Z wr w2 b := .inl hZb
            have hZc2 : Grow Z wr w2 c := .inl hZc
            rcases hx : oneR (s.data.toList.drop a) with er | x
            · obtain ⟨x, p, rfl, hpw, hF⟩ := hno er hx
              have hpz : Grow Z wr w2 p := by
                exact .inr ⟨hpw, blk_lt hF⟩
              have hfin := Lib.hid (show (scanA s).2 = some (er, a) ∧ (scanA s).1 = pre by rw [hs1.out, hs2.out, scanR_err hlt h35 hnb.out hx]; simp)
              have hJ2 := Lib.hid hJ2
              have hF := Lib.hid hF
              have hpz := Lib.hid hpz
              have hgr := Lib.hid fun (o : Obj) => hJ.grow hJ2.out (Else.of_below ((Below.refl w2.heap.size w2).alloc (Nat.le_refl _) o))
              have hF2 := Lib.hid fun (o : Obj) => (heap_alloc_old w2 o (blk_lt hF.out)).trans hF.out
              clear hok hno hB2 hSr2 hLr2 hZb2 hZc2 hx
              unfold tkV
              gi_wp2
              rw [Exit.noGoto_ret]
              go_ret
              exact .inr (.inl ⟨by omega, er, a, p, _, hfin.out.1, rfl, hF2.out _, Or.inl hpz.out, by rw [hfin.out.2]; exact hgr.out _⟩)
            · obtain rfl := hok x hx
              have htok := Lib.hid (scanR_tok hlt h35 hnb.out hx)
              have hxt := Lib.hid (oneR_text (by rw [drop_cons hlt]; simp) hx)
              generalize Grow Z wr w2 = Z2 at hJ2 hZb2 hZc2
              have hJ2 := Lib.hid hJ2
              have hSr2 := Lib.hid hSr2
              have hLr2 := Lib.hid hLr2
              have hcw2 : c < w2.heap.size := blk_lt hLr2.out
              clear hok hno hB2 hx
              obtain ⟨q, hq⟩ : ∃ q, mkB x.t = q := ⟨_, rfl⟩
              obtain ⟨W3, hW3⟩ : ∃ W3, w2.alloc (.cells #[.int .i64 x.k, .string q, .int .u64 x.u, .int .i64 0, .int .i64 0] 41) = W3 := ⟨_, rfl⟩
              obtain ⟨tb, htb⟩ : ∃ tb, w2.heap.size = tb := ⟨_, rfl⟩
              have hB3 : Below w2.heap.size w2 W3 := by rw [← hW3]; exact (Below.refl _ w2).alloc (Nat.le_refl _) _
              have hJ3 := hJ.grow hJ2.out (Else.of_below (Z := Z2) hB3)
              have hSr3 := hSr2.out.below hB3
              have hLr3 := (hB3.block c hcw2).trans hLr2.out
              have hT3 : W3.heap[tb]? = some (.cells #[.int .i64 x.k, .string q, .int .u64 x.u, .int .i64 0, .int .i64 0] 41 (0, 0)) := by rw [← hW3, ← htb]; exact heap_alloc_new _ _
              have hZt3 : Grow Z2 w2 W3 tb := .inr ⟨by omega, by rw [← hW3, ← htb]; simp⟩
              have hZb3 : Grow Z2 w2 W3 b := .inl hZb2
              have hZc3 : Grow Z2 w2 W3 c := .inl hZc2
              have hct : c ≠ tb := by omega
              have hbt : b ≠ tb := by
                obtain ⟨ck, hck⟩ := hSr2.out
                have := blk_lt hck
                omega
              generalize Grow Z2 w2 W3 = Z3 at hJ3 hZt3 hZb3 hZc3
              have hlc := lcF_le (s.data.toList.take a0) (1, 1)
              have hlt0 : (s.data.toList.take a0).length ≤ a0 := by rw [List.length_take]; omega
              have hon := on_any s hs0 c a0 (a - a0) (lcF (1, 1) (s.data.toList.take a0)).1 (lcF (1, 1) (s.data.toList.take a0)).2 a W3 (.inl (by omega)) (by omega) (by omega) (by omega) hLr3
              rw [show ((lcF (1, 1) (s.data.toList.take a0)).1, (lcF (1, 1) (s.data.toList.take a0)).2) = lcF (1, 1) (s.data.toList.take a0) from rfl, ← take_lc, show a0 + (a - a0) = a by omega] at hon
              obtain ⟨L, hL⟩ : ∃ L, lcF (1, 1) (s.data.toList.take a) = L := ⟨_, rfl⟩
              rw [hL] at hon
              obtain ⟨L1, L2⟩ := L
              have hon := Lib.hid hon
              have hJ3 := Lib.hid hJ3
              have hSr3 := Lib.hid hSr3
              have hT3 := Lib.hid hT3
              have hW3h := Lib.hid hW3
              have htbh := Lib.hid htb
              have hLh := Lib.hid hL
              have hqh := Lib.hid hq
              clear hB3 hLr3 hlc hlt0 hW3 htb hL
              unfold tkV
              rw [hq]
              clear hq
              gi_wp2_with fail
              rw [htbh.out, hW3h.out]
              refine ⟨trivial, ?_⟩
              refine (callsIn_wide.2 hon.out).mono ?_
              rintro e W4 ⟨rfl, hO4, hL4⟩
              have hT4 := (hO4.block tb (Ne.symm hct)).trans hT3.out
              have hJ4 := hJ.grow hJ3.out (⟨hO4.os, hO4.tape, hO4.output, Nat.le_of_eq hO4.size.symm, fun k _ hk => hO4.block k (fun e => hk (e ▸ hZc3))⟩ : Else Z3 W3 W4)
              have hSr4 : SignAt W4 b := by
                obtain ⟨ck, hck⟩ := hSr3.out
                exact ⟨ck, (hO4.block b hbc).trans hck⟩
              have hZt4 : Grow Z3 W3 W4 tb := .inl hZt3
              have hZb4 : Grow Z3 W3 W4 b := .inl hZb3
              have hZc4 : Grow Z3 W3 W4 c := .inl hZc3
              generalize Grow Z3 W3 W4 = Z4 at hJ4 hZt4 hZb4 hZc4
              obtain ⟨l0, l1, l2, lf⟩ := box3 hL4
              obtain ⟨t0, t1, t2, t3, t4, tf⟩ := box5 hT4
              have hL4 := Lib.hid hL4
              have hT4 := Lib.hid hT4
              have hJ4 := Lib.hid hJ4
              have hSr4 := Lib.hid hSr4
              clear hO4
              gi_wp2_with fail
              gi_region
              obtain ⟨W5, hW5⟩ : ∃ W5, ((W4.setCell ⟨tb, 3, none⟩ (.int .i64 L1)).setCell ⟨tb, 4, none⟩ (.int .i64 L2)).drew = W5 := ⟨_, rfl⟩
              have hO5 : Only tb W4 W5 := by
                rw [← hW5]
                have h := ((Only.refl tb W4).set 3 (.int .i64 L1)).set 4 (.int .i64 L2)
                exact ⟨h.os, h.tape, h.output, h.size, h.block⟩
              have hT5 : W5.heap[tb]? = some (.cells #[.int .i64 x.k, .string q, .int .u64 x.u, .int .i64 L1, .int .i64 L2] 41 (0, 0)) := by
                rw [← hW5]
                exact set5_4 (set5_3 hT4.out)
              have hJ5 := hJ.grow hJ4.out (⟨hO5.os, hO5.tape, hO5.output, Nat.le_of_eq hO5.size.symm, fun k _ hk => hO5.block k (fun e => hk (e ▸ hZt4))⟩ : Else Z4 W4 W5)
              have hSr5 : SignAt W5 b := by
                obtain ⟨ck, hck⟩ := hSr4.out
                exact ⟨ck, (hO5.block b hbt).trans hck⟩
              have hL5 := (hO5.block c hct).trans hL4.out
              have hZt5 : Grow Z4 W4 W5 tb := .inl hZt4
              have hZb5 : Grow Z4 W4 W5 b := .inl hZb4
              have hZc5 : Grow Z4 W4 W5 c := .inl hZc4
              generalize Grow Z4 W4 W5 = Z5 at hJ5 hZt5 hZb5 hZc5
              have htok' : scanR s a = (⟨a, x, L1, L2⟩ :: (scanR s (a + x.t.length)).1, (scanR s (a + x.t.length)).2) := by rw [htok.out, hLh.out]
              have hn1 : (scanA s).1 = pre ++ ⟨a, x, L1, L2⟩ :: (scanR s (a + x.t.length)).1 := by rw [hs1.out, htok']
              have hn2 : (scanA s).2 = (scanR s (a + x.t.length)).2 := by rw [hs2.out, htok']
              have hYc := hY Z5 pre ⟨a, x, L1, L2⟩ _ W5 hJ5 hn1.symm
              have e5 : tpV ⟨a, x, L1, L2⟩ = .agg #[.int .i64 x.k, .string q, .int .u64 x.u, .int .i64 L1, .int .i64 L2] := by unfold tpV tkV; rw [hqh.out]
              rw [e5] at hYc
              dsimp only at hYc
              obtain ⟨fn, tmps, assign, body, hy, hRo⟩ := hYc
              obtain ⟨t0, t1, t2, t3, t4, tf⟩ := box5 hT5
              have hRo := Lib.hid hRo
              have hW5h := Lib.hid hW5
              have hn1 := Lib.hid hn1
              have hn2 := Lib.hid hn2
              have hSr5 := Lib.hid hSr5
              have hL5 := Lib.hid hL5
              have hT5 := Lib.hid hT5
              obtain ⟨m, hm⟩ : ∃ m, x.t.length = m := ⟨_, rfl⟩
              have hqs : q.size = m := by rw [← hqh.out, ← size_list, mkB_list, hm]
              rw [hm] at hn1 hn2
              have hmp : 0 < m ∧ a + m ≤ s.size := by
                obtain ⟨k, hk, hkl, _, hkx⟩ := hxt.out
                rw [List.length_drop, size_list] at hkl
                omega
              have hm := Lib.hid hm
              have hm1 := hmp.1
              have hm2 := hmp.2
              have w1 : IntKind.i64.wrap ((a : Int) + (m : Int)) = ((a + m : Nat) : Int) := by rw [IntKind.wrap_i64]; omega
              clear hW5 hO5 htok' e5 hJ5 hmp
              rw [hW5h.out]
              gi_wp2_with fail
              refine hRo.out.mono ?_
              rintro e W6 (⟨rfl, hJ6, hk6⟩ | ⟨rfl, hJx6⟩)
              · have hT6 := (hk6 tb hZt5 (blk_lt hT5.out)).trans hT5.out
                have hSr6 : SignAt W6 b := by
                  obtain ⟨ck, hck⟩ := hSr5.out
                  exact ⟨ck, (hk6 b hZb5 (blk_lt hck)).trans hck⟩
                have hL6 := (hk6 c hZc5 (blk_lt hL5.out)).trans hL5.out
                obtain ⟨z0, z1, z2, z3, z4, zf⟩ := box5 hT6
                have hJ6 := Lib.hid hJ6
                have hSr6 := Lib.hid hSr6
                have hL6 := Lib.hid hL6
                clear hk6 hT6
                gi_wp2
                gi_roundg (s.size - (a + m))
                case measure => omega
                case rel =>
                  refine ⟨a + m, a, pre ++ [⟨a, x, L1, L2⟩], Z5, rfl, by go_num, by omega, by omega, ?_, hn2.out, hJ6.out, hSr6.out, hZb5, hZc5, ?_⟩
                  · rw [hn1.out, List.append_assoc]; rfl
                  · rw [hLh.out]; exact hL6.out
              · have hJx6 := Lib.hid hJx6
                gi_wp2
                rw [Exit.noGoto_ret]
                go_ret
                refine .inr (.inr (.inl ⟨by omega, pre ++ [⟨a, x, L1, L2⟩], (scanR s (a + m)).1, by simp, ?_, rfl, hJx6.out⟩))
                rw [hn1.out, List.append_assoc]; rfl
      · have e1 : ¬ ((a : Nat) : Int) < (s.size : Int) := by omega
        have hend := scanR_end hge
        have hfin := Lib.hid (show (scanA s).2 = none ∧ (scanA s).1 = pre by rw [hs1.out, hs2.out, hend]; simp)
        clear hend
        gi_wp2
        try rw [Exit.noGoto_ret]
        go_ret
        exact .inl ⟨by omega, hfin.out.1, rfl, Z, by rw [hfin.out.2]; exact hJr.out⟩
set_option maxRecDepth 100000 in
set_option maxHeartbeats 8000000 in
theorem scan_fn (n : Nat) (hn : 1 ≤ n) (B : Nat) (s : ByteArray) (hs0 : s.size ≤ 2000000) (J : (Nat → Prop) → List Tp → World → Prop) (Jx : List Tp → World → Prop) (hJ : TellOk J) (w : World)
    (hY : ∀ Z pre t rest W1, J Z pre W1 → pre ++ t :: rest = (scanA s).1 → CallsIn Fence.wide (n - 1) Tryd.prog 16 #[.int .i64 t.a, tpV t, .pointer (some ⟨B, 0, none⟩)] W1 (TellPost J Jx Z (pre ++ [t]) W1))
    (Z0 : Nat → Prop) (hJ0 : J Z0 [] w) :
    CallsIn Fence.wide n Tryd.prog 15 #[.string s, .func (.func 16) #[] #[.pointer (some ⟨B, 0, none⟩)]] w (ScanPost s J Jx) := by
  have hE := hJ.env hJ0
  by_cases hbig : 65536 < s.size
  · have e0 : (65536 : Int) < (s.size : Int) := by omega
    have hJ0 := Lib.hid hJ0
    refine callsIn_of_wp Tryd.func15 rfl trivial ?_ rfl
    simp only [Tryd.ntmps15, List.size_toArray, List.length_cons, List.length_nil, Nat.reduceAdd, Nat.reduceSub, Array.replicate_succ, Array.replicate_zero, List.push_toArray, List.append_toArray, List.nil_append, List.cons_append]
    gi_wp2_with fail
    refine wpIn_scope_straight ?_
    gi_wp2
    rw [Exit.noGoto_ret]
    go_ret
    exact .inr (.inr (.inr ⟨hbig, rfl, Z0, hJ0.out⟩))
  · have e0 : ¬ (65536 : Int) < (s.size : Int) := by omega
    have hsg := Lib.hid (signs_any w hE)
    have hJ0 := Lib.hid hJ0
    have hEh := Lib.hid hE
    clear hE
    refine callsIn_of_wp Tryd.func15 rfl trivial ?_ rfl
    simp only [Tryd.ntmps15, List.size_toArray, List.length_cons, List.length_nil, Nat.reduceAdd, Nat.reduceSub, Array.replicate_succ, Array.replicate_zero, List.push_toArray, List.append_toArray, List.nil_append, List.cons_append]
    gi_wp2_with fail
    refine wpIn_scope_straight ?_
    gi_wp2_with fail
    refine ⟨trivial, ?_⟩
    refine (callsIn_wide.2 hsg.out).mono ?_
    rintro e w1 ⟨b, rfl, hbw, hSg, hB1⟩
    have hJ1 := hJ.grow hJ0.out (Else.of_below hB1)
    have hbl : w.heap.size ≤ b ∧ b < w1.heap.size := by
      obtain ⟨ck, hck⟩ := hSg
      exact ⟨hbw, blk_lt hck⟩
    obtain ⟨W0, hW0⟩ : ∃ W0, w1.alloc (lineB 0 1 1) = W0 := ⟨_, rfl⟩
    have hz0 : W0.heap.size = w1.heap.size + 1 := by rw [← hW0]; simp
    have hB2 : Below w1.heap.size w1 W0 := by rw [← hW0]; exact (Below.refl _ w1).alloc (Nat.le_refl _) _
    have hJ2 := hJ.grow hJ1 (Else.of_below hB2)
    have hSg2 := hSg.below hB2
    have hL2 : W0.heap[w1.heap.size]? = some (lineB 0 1 1) := by rw [← hW0]; exact heap_alloc_new _ _
    have hZb : Grow (Grow Z0 w w1) w1 W0 b := .inl (.inr hbl)
    have hZc : Grow (Grow Z0 w w1) w1 W0 w1.heap.size := .inr ⟨Nat.le_refl _, by omega⟩
    obtain ⟨c, hc⟩ : ∃ c, w1.heap.size = c := ⟨_, rfl⟩
    rw [hc] at hL2 hZc
    have hbc : b ≠ c := by omega
    generalize Grow (Grow Z0 w w1) w1 W0 = Z2 at hJ2 hZb hZc
    have hrel0 := Lib.hid (show ∃ a a0 pre Z, s.size - a = s.size ∧ Value.int .i64 0 = .int .i64 ((a : Nat) : Int) ∧ a ≤ s.size ∧ a0 ≤ a ∧ (scanA s).1 = pre ++ (scanR s a).1 ∧ (scanA s).2 = (scanR s a).2 ∧ J Z pre W0 ∧ SignAt W0 b ∧ Z b ∧ Z c ∧ W0.heap[c]? = some (lineB a0 (lcF (1, 1) (s.data.toList.take a0)).1 (lcF (1, 1) (s.data.toList.take a0)).2) from
      ⟨0, 0, [], Z2, by omega, rfl, Nat.zero_le _, Nat.le_refl _, rfl, rfl, hJ2, hSg2, hZb, hZc, hL2⟩)
    have hW0' := Lib.hid hW0
    have hc' := Lib.hid hc
    clear hJ1 hbl hz0 hB2 hJ2 hSg2 hL2 hZb hZc hW0 hc hSg hB1
    gi_wp2_with fail
    refine wpIn_label ?_
    gi_wp2_with fail
    have hW0'' : w1.alloc (.cells #[.int .i64 0, .int .i64 1, .int .i64 1] 45) = W0 := hW0'.out
    rw [hW0'', hc'.out]
    clear hW0''
    gi_loopg [7] s.size (fun g s7 wr => ∃ a a0 pre Z, s.size - a = g ∧ s7 = .int .i64 ((a : Nat) : Int) ∧ a ≤ s.size ∧ a0 ≤ a ∧ (scanA s).1 = pre ++ (scanR s a).1 ∧ (scanA s).2 = (scanR s a).2 ∧ J Z pre wr ∧ SignAt wr b ∧ Z b ∧ Z c ∧ wr.heap[c]? = some (lineB a0 (lcF (1, 1) (s.data.toList.take a0)).1 (lcF (1, 1) (s.data.toList.take a0)).2))
    case atStart => exact hrel0.out
    case round =>
      obtain ⟨a, a0, pre, Z, hg, rfl, ha, ha0, hs1, hs2, hJr, hSr, hZb, hZc, hLr⟩ := hrel
      clear hrel0
      have hs1 := Lib.hid hs1
      have hs2 := Lib.hid hs2
      have hJr := Lib.hid hJr
      have hSr := Lib.hid hSr
      have hLr := Lib.hid hLr
      rcases Nat.lt_or_ge a s.size with hlt | hge
      · have e1 : ((a : Nat) : Int) < (s.size : Int) := by omega
        by_cases h35 : (s[a]'hlt).toNat = 35
        · have e35 : ((s[a]'hlt).toNat : Int) = 35 := by omega
          have hwh := while_any 27 noteB note_pred s a wr hs0 (by omega)
          obtain ⟨k, hk⟩ : ∃ k, spanN noteB (s.data.toList.drop a) = k := ⟨_, rfl⟩
          rw [hk] at hwh
          have hwh := Lib.hid hwh
          have hk' := Lib.hid hk
          have hkl : a + k ≤ s.size := by
            have := span_le noteB (s.data.toList.drop a)
            rw [List.length_drop, size_list] at this
            omega
          have w1 : IntKind.i64.wrap ((a : Int) + (k : Int)) = ((a + k : Nat) : Int) := by rw [IntKind.wrap_i64]; omega
          clear hk
          rcases Nat.lt_or_ge (a + k) s.size with hlk | hgk
          · have e2 : ¬ (a : Int) + (k : Int) = (s.size : Int) := by omega
            have hnx := Lib.hid (show scanR s a = scanR s (a + k + 1) by have := scanR_note hlt h35 (by rw [hk'.out]; exact hlk); rwa [hk'.out] at this)
            have w3 : IntKind.i64.wrap ((a : Int) + (k : Int) + 1) = ((a + k + 1 : Nat) : Int) := by rw [IntKind.wrap_i64]; omega
            gi_wp2_with fail
            refine ⟨trivial, ?_⟩
            refine (callsIn_wide.2 hwh.out).mono ?_
            rintro e w2 ⟨rfl, rfl⟩
            gi_wp2
            gi_roundg (s.size - (a + k + 1))
            case measure => omega
            case rel => exact ⟨a + k + 1, a0, pre, Z, rfl, by go_num, by omega, by omega, by rw [hs1.out, hnx.out], by rw [hs2.out, hnx.out], hJr.out, hSr.out, hZb, hZc, hLr.out⟩
          · have e2 : (a : Int) + (k : Int) = (s.size : Int) := by omega
            have hfin := Lib.hid (show (scanA s).2 = none ∧ (scanA s).1 = pre by rw [hs1.out, hs2.out, scanR_note_end hlt h35 (by rw [hk'.out]; omega)]; simp)
            gi_wp2_with fail
            refine ⟨trivial, ?_⟩
            refine (callsIn_wide.2 hwh.out).mono ?_
            rintro e w2 ⟨rfl, rfl⟩
            gi_wp2
            rw [Exit.noGoto_ret]
            go_ret
            exact .inl ⟨by omega, hfin.out.1, rfl, Z, by rw [hfin.out.2]; exact hJr.out⟩
        · by_cases hbk : (s[a]'hlt).toNat = 32 ∨ (s[a]'hlt).toNat = 9 ∨ (s[a]'hlt).toNat = 10 ∨ (s[a]'hlt).toNat = 13
          · have e35 : ¬ ((s[a]'hlt).toNat : Int) = 35 := by omega
            rcases hbk with hbk | hbk | hbk | hbk
            all_goals
              first | have ebk : ((s[a]'hlt).toNat : Int) = 32 := by omega | have ebk : ((s[a]'hlt).toNat : Int) = 9 := by omega | have ebk : ((s[a]'hlt).toNat : Int) = 10 := by omega | have ebk : ((s[a]'hlt).toNat : Int) = 13 := by omega
              have hnx := Lib.hid (scanR_blank hlt (by unfold blankB; rw [hbk]; rfl) h35)
              have w1 : IntKind.i64.wrap ((a : Int) + 1) = ((a + 1 : Nat) : Int) := by rw [IntKind.wrap_i64]; omega
              gi_wp2
              gi_roundg (s.size - (a + 1))
              case measure => omega
              case rel => exact ⟨a + 1, a0, pre, Z, rfl, by go_num, by omega, by omega, by rw [hs1.out, hnx.out], by rw [hs2.out, hnx.out], hJr.out, hSr.out, hZb, hZc, hLr.out⟩
          · have e35 : ¬ ((s[a]'hlt).toNat : Int) = 35 := by omega
            have e32 : ¬ ((s[a]'hlt).toNat : Int) = 32 := by omega
            have e9 : ¬ ((s[a]'hlt).toNat : Int) = 9 := by omega
            have e10 : ¬ ((s[a]'hlt).toNat : Int) = 10 := by omega
            have e13 : ¬ ((s[a]'hlt).toNat : Int) = 13 := by omega
            have hnb : blankB (s[a]'hlt) = false := by
              unfold blankB
              simp only [Bool.or_eq_false_iff, beq_eq_false_iff_ne]
              omega
            have hnb := Lib.hid hnb
            have hone := Lib.hid (one_any s a b wr (hJ.env hJr.out) hs0 hlt hSr.out)
            clear hbk
            gi_wp2_with fail
            refine ⟨trivial, ?_⟩
            refine (callsIn_wide.2 hone.out).mono ?_
            rintro e w2 ⟨hok, hno, hB2⟩
            have hJ2 := hJ.grow hJr.out (Else.of_below (Z := Z) hB2)
            have hSr2 := hSr.out.below hB2
            have hLr2 := (hB2.block c (blk_lt hLr.out)).trans hLr.out
            have hZb2 : Grow Z wr w2 b := .inl hZb
            have hZc2 : Grow Z wr w2 c := .inl hZc
            rcases hx : oneR (s.data.toList.drop a) with er | x
            · obtain ⟨x, p, rfl, hpw, hF⟩ := hno er hx
              have hpz : Grow Z wr w2 p := by
                exact .inr ⟨hpw, blk_lt hF⟩
              have hfin := Lib.hid (show (scanA s).2 = some (er, a) ∧ (scanA s).1 = pre by rw [hs1.out, hs2.out, scanR_err hlt h35 hnb.out hx]; simp)
              have hJ2 := Lib.hid hJ2
              have hF := Lib.hid hF
              have hpz := Lib.hid hpz
              have hgr := Lib.hid fun (o : Obj) => hJ.grow hJ2.out (Else.of_below ((Below.refl w2.heap.size w2).alloc (Nat.le_refl _) o))
              have hF2 := Lib.hid fun (o : Obj) => (heap_alloc_old w2 o (blk_lt hF.out)).trans hF.out
              clear hok hno hB2 hSr2 hLr2 hZb2 hZc2 hx
              unfold tkV
              gi_wp2
              rw [Exit.noGoto_ret]
              go_ret
              exact .inr (.inl ⟨by omega, er, a, p, _, hfin.out.1, rfl, hF2.out _, Or.inl hpz.out, by rw [hfin.out.2]; exact hgr.out _⟩)
            · obtain rfl := hok x hx
              have htok := Lib.hid (scanR_tok hlt h35 hnb.out hx)
              have hxt := Lib.hid (oneR_text (by rw [drop_cons hlt]; simp) hx)
              generalize Grow Z wr w2 = Z2 at hJ2 hZb2 hZc2
              have hJ2 := Lib.hid hJ2
              have hSr2 := Lib.hid hSr2
              have hLr2 := Lib.hid hLr2
              have hcw2 : c < w2.heap.size := blk_lt hLr2.out
              clear hok hno hB2 hx
              obtain ⟨q, hq⟩ : ∃ q, mkB x.t = q := ⟨_, rfl⟩
              obtain ⟨W3, hW3⟩ : ∃ W3, w2.alloc (.cells #[.int .i64 x.k, .string q, .int .u64 x.u, .int .i64 0, .int .i64 0] 41) = W3 := ⟨_, rfl⟩
              obtain ⟨tb, htb⟩ : ∃ tb, w2.heap.size = tb := ⟨_, rfl⟩
              have hB3 : Below w2.heap.size w2 W3 := by rw [← hW3]; exact (Below.refl _ w2).alloc (Nat.le_refl _) _
              have hJ3 := hJ.grow hJ2.out (Else.of_below (Z := Z2) hB3)
              have hSr3 := hSr2.out.below hB3
              have hLr3 := (hB3.block c hcw2).trans hLr2.out
              have hT3 : W3.heap[tb]? = some (.cells #[.int .i64 x.k, .string q, .int .u64 x.u, .int .i64 0, .int .i64 0] 41 (0, 0)) := by rw [← hW3, ← htb]; exact heap_alloc_new _ _
              have hZt3 : Grow Z2 w2 W3 tb := .inr ⟨by omega, by rw [← hW3, ← htb]; simp⟩
              have hZb3 : Grow Z2 w2 W3 b := .inl hZb2
              have hZc3 : Grow Z2 w2 W3 c := .inl hZc2
              have hct : c ≠ tb := by omega
              have hbt : b ≠ tb := by
                obtain ⟨ck, hck⟩ := hSr2.out
                have := blk_lt hck
                omega
              generalize Grow Z2 w2 W3 = Z3 at hJ3 hZt3 hZb3 hZc3
              have hlc := lcF_le (s.data.toList.take a0) (1, 1)
              have hlt0 : (s.data.toList.take a0).length ≤ a0 := by rw [List.length_take]; omega
              have hon := on_any s hs0 c a0 (a - a0) (lcF (1, 1) (s.data.toList.take a0)).1 (lcF (1, 1) (s.data.toList.take a0)).2 a W3 (.inl (by omega)) (by omega) (by omega) (by omega) hLr3
              rw [show ((lcF (1, 1) (s.data.toList.take a0)).1, (lcF (1, 1) (s.data.toList.take a0)).2) = lcF (1, 1) (s.data.toList.take a0) from rfl, ← take_lc, show a0 + (a - a0) = a by omega] at hon
              obtain ⟨L, hL⟩ : ∃ L, lcF (1, 1) (s.data.toList.take a) = L := ⟨_, rfl⟩
              rw [hL] at hon
              obtain ⟨L1, L2⟩ := L
              have hon := Lib.hid hon
              have hJ3 := Lib.hid hJ3
              have hSr3 := Lib.hid hSr3
              have hT3 := Lib.hid hT3
              have hW3h := Lib.hid hW3
              have htbh := Lib.hid htb
              have hLh := Lib.hid hL
              have hqh := Lib.hid hq
              clear hB3 hLr3 hlc hlt0 hW3 htb hL
              unfold tkV
              rw [hq]
              clear hq
              gi_wp2_with fail
              rw [htbh.out, hW3h.out]
              refine ⟨trivial, ?_⟩
              refine (callsIn_wide.2 hon.out).mono ?_
              rintro e W4 ⟨rfl, hO4, hL4⟩
              have hT4 := (hO4.block tb (Ne.symm hct)).trans hT3.out
              have hJ4 := hJ.grow hJ3.out (⟨hO4.os, hO4.tape, hO4.output, Nat.le_of_eq hO4.size.symm, fun k _ hk => hO4.block k (fun e => hk (e ▸ hZc3))⟩ : Else Z3 W3 W4)
              have hSr4 : SignAt W4 b := by
                obtain ⟨ck, hck⟩ := hSr3.out
                exact ⟨ck, (hO4.block b hbc).trans hck⟩
              have hZt4 : Grow Z3 W3 W4 tb := .inl hZt3
              have hZb4 : Grow Z3 W3 W4 b := .inl hZb3
              have hZc4 : Grow Z3 W3 W4 c := .inl hZc3
              generalize Grow Z3 W3 W4 = Z4 at hJ4 hZt4 hZb4 hZc4
              obtain ⟨l0, l1, l2, lf⟩ := box3 hL4
              obtain ⟨t0, t1, t2, t3, t4, tf⟩ := box5 hT4
              have hL4 := Lib.hid hL4
              have hT4 := Lib.hid hT4
              have hJ4 := Lib.hid hJ4
              have hSr4 := Lib.hid hSr4
              clear hO4
              gi_wp2_with fail
              gi_region
              obtain ⟨W5, hW5⟩ : ∃ W5, ((W4.setCell ⟨tb, 3, none⟩ (.int .i64 L1)).setCell ⟨tb, 4, none⟩ (.int .i64 L2)).drew = W5 := ⟨_, rfl⟩
              have hO5 : Only tb W4 W5 := by
                rw [← hW5]
                have h := ((Only.refl tb W4).set 3 (.int .i64 L1)).set 4 (.int .i64 L2)
                exact ⟨h.os, h.tape, h.output, h.size, h.block⟩
              have hT5 : W5.heap[tb]? = some (.cells #[.int .i64 x.k, .string q, .int .u64 x.u, .int .i64 L1, .int .i64 L2] 41 (0, 0)) := by
                rw [← hW5]
                exact set5_4 (set5_3 hT4.out)
              have hJ5 := hJ.grow hJ4.out (⟨hO5.os, hO5.tape, hO5.output, Nat.le_of_eq hO5.size.symm, fun k _ hk => hO5.block k (fun e => hk (e ▸ hZt4))⟩ : Else Z4 W4 W5)
              have hSr5 : SignAt W5 b := by
                obtain ⟨ck, hck⟩ := hSr4.out
                exact ⟨ck, (hO5.block b hbt).trans hck⟩
              have hL5 := (hO5.block c hct).trans hL4.out
              have hZt5 : Grow Z4 W4 W5 tb := .inl hZt4
              have hZb5 : Grow Z4 W4 W5 b := .inl hZb4
              have hZc5 : Grow Z4 W4 W5 c := .inl hZc4
              generalize Grow Z4 W4 W5 = Z5 at hJ5 hZt5 hZb5 hZc5
              have htok' : scanR s a = (⟨a, x, L1, L2⟩ :: (scanR s (a + x.t.length)).1, (scanR s (a + x.t.length)).2) := by rw [htok.out, hLh.out]
              have hn1 : (scanA s).1 = pre ++ ⟨a, x, L1, L2⟩ :: (scanR s (a + x.t.length)).1 := by rw [hs1.out, htok']
              have hn2 : (scanA s).2 = (scanR s (a + x.t.length)).2 := by rw [hs2.out, htok']
              have hYc := hY Z5 pre ⟨a, x, L1, L2⟩ _ W5 hJ5 hn1.symm
              have e5 : tpV ⟨a, x, L1, L2⟩ = .agg #[.int .i64 x.k, .string q, .int .u64 x.u, .int .i64 L1, .int .i64 L2] := by unfold tpV tkV; rw [hqh.out]
              rw [e5] at hYc
              dsimp only at hYc
              have hRo := hYc
              obtain ⟨t0, t1, t2, t3, t4, tf⟩ := box5 hT5
              have hRo := Lib.hid hRo
              have hW5h := Lib.hid hW5
              have hn1 := Lib.hid hn1
              have hn2 := Lib.hid hn2
              have hSr5 := Lib.hid hSr5
              have hL5 := Lib.hid hL5
              have hT5 := Lib.hid hT5
              obtain ⟨m, hm⟩ : ∃ m, x.t.length = m := ⟨_, rfl⟩
              have hqs : q.size = m := by rw [← hqh.out, ← size_list, mkB_list, hm]
              rw [hm] at hn1 hn2
              have hmp : 0 < m ∧ a + m ≤ s.size := by
                obtain ⟨k, hk, hkl, _, hkx⟩ := hxt.out
                rw [List.length_drop, size_list] at hkl
                omega
              have hm := Lib.hid hm
              have hm1 := hmp.1
              have hm2 := hmp.2
              have w1 : IntKind.i64.wrap ((a : Int) + (m : Int)) = ((a + m : Nat) : Int) := by rw [IntKind.wrap_i64]; omega
              clear hW5 hO5 htok' e5 hJ5 hmp
              rw [hW5h.out]
              gi_wp2_with fail
              refine ⟨trivial, ?_⟩
              refine hRo.out.mono ?_
              rintro e W6 (⟨rfl, hJ6, hk6⟩ | ⟨rfl, hJx6⟩)
              · have hT6 := (hk6 tb hZt5 (blk_lt hT5.out)).trans hT5.out
                have hSr6 : SignAt W6 b := by
                  obtain ⟨ck, hck⟩ := hSr5.out
                  exact ⟨ck, (hk6 b hZb5 (blk_lt hck)).trans hck⟩
                have hL6 := (hk6 c hZc5 (blk_lt hL5.out)).trans hL5.out
                obtain ⟨z0, z1, z2, z3, z4, zf⟩ := box5 hT6
                have hJ6 := Lib.hid hJ6
                have hSr6 := Lib.hid hSr6
                have hL6 := Lib.hid hL6
                clear hk6 hT6
                gi_wp2
                gi_roundg (s.size - (a + m))
                case measure => omega
                case rel =>
                  refine ⟨a + m, a, pre ++ [⟨a, x, L1, L2⟩], Z5, rfl, by go_num, by omega, by omega, ?_, hn2.out, hJ6.out, hSr6.out, hZb5, hZc5, ?_⟩
                  · rw [hn1.out, List.append_assoc]; rfl
                  · rw [hLh.out]; exact hL6.out
              · have hJx6 := Lib.hid hJx6
                gi_wp2
                rw [Exit.noGoto_ret]
                go_ret
                refine .inr (.inr (.inl ⟨by omega, pre ++ [⟨a, x, L1, L2⟩], (scanR s (a + m)).1, by simp, ?_, rfl, hJx6.out⟩))
                rw [hn1.out, List.append_assoc]; rfl
      · have e1 : ¬ ((a : Nat) : Int) < (s.size : Int) := by omega
        have hend := scanR_end hge
        have hfin := Lib.hid (show (scanA s).2 = none ∧ (scanA s).1 = pre by rw [hs1.out, hs2.out, hend]; simp)
        clear hend
        gi_wp2
        try rw [Exit.noGoto_ret]
        go_ret
        exact .inl ⟨by omega, hfin.out.1, rfl, Z, by rw [hfin.out.2]; exact hJr.out⟩
end Go.Proofs.YtmkfoknhjjgipaaDoor
