/- The kind of a line: Unline. -/
import Derived.Test.YtkbmckmlnphpmaaGreatDoorU
set_option linter.unusedSimpArgs false
set_option linter.unusedVariables false
namespace Go.Proofs.YtkbmckmlnphpmaaGreatDoor
open Go.RowKit Go.Lib Go.Shelf Go.MapKept
open Go.ChangeMaps (setBlock heap_setBlock_same heap_setBlock_other)

def zAsk : Array Value := #[.int .i64 0, .slice none 0 0, .slice none 0 0, .int .u64 0, .int .i64 0]
def kindM (p : ByteArray) : Option Int := if p = srcW then some 1 else if p = macW then some 2 else if p = leakW then some 3 else none
/-- the kind, stack and fuel that a line tells -/
def unlineM (s : ByteArray) : Option (Int × Int × Int) :=
  match unwM s with
  | none => none
  | some (p, l) =>
    match kindM p with
    | none => none
    | some k => if mayV k 0 0 (readV k l).1 (readV k l).2 true = true ∧ askedT k (readV k l).1 (readV k l).2 = s then some (k, (readV k l).1, (readV k l).2) else none
def UnlPost (s : ByteArray) (w : World) (e : Ending) (w' : World) : Prop :=
  (unlineM s = none → e = .returned (.tuple #[.agg zAsk, .int .i64 15])) ∧ (∀ k st fu, unlineM s = some (k, st, fu) → e = .returned (.tuple #[.agg #[.int .i64 k, .slice none 0 0, .slice none 0 0, .int .u64 st, .int .i64 fu], .int .i64 0])) ∧ Below w.heap.size w w'

theorem str_ne {a b : ByteArray} (h : a ≠ b) : (a == b) = false := by
  have e : (a == b) = (a.data == b.data) := rfl
  rw [e]
  have : a.data ≠ b.data := fun e => h (by cases a; cases b; simp at e; rw [e])
  simpa using this
theorem find_no (p : ByteArray) (h : kindM p = none) (p2 p3 : Nat) : Instr.findNow .string (.string p) (readEs p2 p3).toList 0 = some none := by
  have h1 : p ≠ srcW := fun e => by subst e; simp [kindM] at h
  have h2 : p ≠ macW := fun e => by subst e; revert h; unfold kindM; rw [if_neg (by decide)]; simp
  have h3 : p ≠ leakW := fun e => by subst e; revert h; unfold kindM; rw [if_neg (by decide), if_neg (by decide)]; simp
  have t1 : (p == srcW) = false := str_ne h1
  have t2 : (p == macW) = false := str_ne h2
  have t3 : (p == leakW) = false := str_ne h3
  simp [readEs, Instr.findNow, Instr.sameNow, t1, t2, t3]
theorem box5 {W : World} {b : Nat} {v0 v1 v2 v3 v4 : Value} {t : TypeId} (h : W.heap[b]? = some (.cells #[v0, v1, v2, v3, v4] t (0, 0))) :
    W.cell? ⟨b, 0, none⟩ = some v0 ∧ W.cell? ⟨b, 1, none⟩ = some v1 ∧ W.cell? ⟨b, 2, none⟩ = some v2 ∧ W.cell? ⟨b, 3, none⟩ = some v3 ∧ W.cell? ⟨b, 4, none⟩ = some v4 ∧ ∀ k, W.frozen? ⟨b, k, none⟩ = false :=
  ⟨by rw [blk_cell h]; rfl, by rw [blk_cell h]; rfl, by rw [blk_cell h]; rfl, by rw [blk_cell h]; rfl, by rw [blk_cell h]; rfl, fun k => by simp [World.frozen?, h]⟩
theorem run_func_nil (k : Nat) (cs : Array Value) (w : World) : (binOp BinOp.eql 94 (.func (.func k) #[] cs) .nilFunc).run Tryz.prog w = .ok (.bool false) w := by kernel_rfl
theorem run_nil_nil (w : World) : (binOp BinOp.eql 94 .nilFunc .nilFunc).run Tryz.prog w = .ok (.bool true) w := by kernel_rfl
theorem zero94 (w : World) : (zeroValue 94).run Tryz.prog w = .ok .nilFunc w := by kernel_rfl
theorem box_kept (w : World) (Z : Array Value) {W : World} (hb : Below (w.alloc (.cells Z 42)).heap.size (w.alloc (.cells Z 42)) W) : W.heap[w.heap.size]? = some (.cells Z 42 (0, 0)) :=
  (hb.block _ (by simp)).trans (heap_alloc_new w _)

set_option maxRecDepth 100000 in
set_option maxHeartbeats 2000000 in
theorem unline_none1 (s : ByteArray) (w : World) (hE : Env w) (hs : s.size ≤ 1000000) (hu : unwM s = none) : Calls Tryz.prog 21 #[.string s] w (UnlPost s w) := by
  have hm := Lib.hid (show unlineM s = none by unfold unlineM; rw [hu])
  have hb0 := Lib.hid ((Below.refl w.heap.size w).alloc (Nat.le_refl _) (.cells zAsk 42))
  have hk := Lib.hid ((unwords_any s (w.alloc (.cells zAsk 42)) (hE.below hb0.out) hs).mono fun e w' h => (show e = .returned (.tuple #[.string ⟨#[]⟩, .slice none 0 0, .int .i64 15]) ∧ Below (w.alloc (.cells zAsk 42)).heap.size (w.alloc (.cells zAsk 42)) w' from ⟨h.1 hu, h.2.2⟩))
  clear hE hu
  unfold zAsk at hb0 hk
  go_enter Tryz.func21, Tryz.ntmps21
  go_wp2_with fail
  refine hk.out.mono ?_
  rintro e w1 ⟨rfl, hb1⟩
  have hb1' := Lib.hid hb1
  clear hb1
  go_wp2_with fail
  refine (readings_any _).mono ?_
  rintro e w2 ⟨b, p2, p3, rfl, hbm⟩
  have hlk := run_lookup_none Tryz.underlying95 Tryz.underlying9 hbm.1 ⟨#[]⟩ _ (zero94 w2) (find_no ⟨#[]⟩ (by decide) p2 p3)
  have hb2 := Below.next hb1'.out hbm.2.1
  have hb2' := Lib.hid hb2
  obtain ⟨g0, g1, g2, g3, g4, gf⟩ := box5 (box_kept w _ hb2)
  have hsz := hb2.size
  have hsz2 : w.heap.size < w2.heap.size := by simp at hsz; omega
  have hfin := Lib.hid (hb0.out.trans (hb2.mono hb0.out.size))
  clear hb2 hbm hsz
  go_wp2_with fail
  refine bodyPost_ret (v := .tuple #[.agg zAsk, .int .i64 15]) (by simp [results, Tryz.results21, go_sem, zAsk, g0, g1, g2, g3, g4]) rfl ⟨fun _ => rfl, fun k st fu h => ?_, ?_⟩
  · rw [hm.out] at h; cases h
  · exact ((((hfin.out.setCell (by simp) _).setCell (by simp) _).setCell (by simp) _).setCell (by simp) _).setCell (by simp) _

set_option maxRecDepth 100000 in
set_option maxHeartbeats 2000000 in
theorem unline_none2 (s p : ByteArray) (l : List Int) (w : World) (hE : Env w) (hs : s.size ≤ 1000000) (hu : unwM s = some (p, l)) (hp : kindM p = none) : Calls Tryz.prog 21 #[.string s] w (UnlPost s w) := by
  have hm := Lib.hid (show unlineM s = none by unfold unlineM; rw [hu]; dsimp only; rw [hp])
  have hb0 := Lib.hid ((Below.refl w.heap.size w).alloc (Nat.le_refl _) (.cells zAsk 42))
  have hk := Lib.hid ((unwords_any s (w.alloc (.cells zAsk 42)) (hE.below hb0.out) hs).mono fun e w' h => (show ∃ A c, e = .returned (.tuple #[.string p, .slice A l.length c, .int .i64 0]) ∧ Below (w.alloc (.cells zAsk 42)).heap.size (w.alloc (.cells zAsk 42)) w' from by
    obtain ⟨A, c, h1, _⟩ := h.2.1 p l hu
    exact ⟨A, c, h1, h.2.2⟩))
  have hfn := Lib.hid (find_no p hp)
  clear hE hu hp
  unfold zAsk at hb0 hk
  go_enter Tryz.func21, Tryz.ntmps21
  go_wp2_with fail
  refine hk.out.mono ?_
  rintro e w1 ⟨A, c, rfl, hb1⟩
  have hb1' := Lib.hid hb1
  clear hb1
  go_wp2_with fail
  refine (readings_any _).mono ?_
  rintro e w2 ⟨b, p2, p3, rfl, hbm⟩
  have hlk := run_lookup_none Tryz.underlying95 Tryz.underlying9 hbm.1 p _ (zero94 w2) (hfn.out p2 p3)
  have hb2 := Below.next hb1'.out hbm.2.1
  obtain ⟨g0, g1, g2, g3, g4, gf⟩ := box5 (box_kept w _ hb2)
  have hsz := hb2.size
  have hsz2 : w.heap.size < w2.heap.size := by simp at hsz; omega
  have hnn := run_nil_nil
  have hfin := Lib.hid (hb0.out.trans (hb2.mono hb0.out.size))
  clear hb2 hbm hsz
  go_wp2_with fail
  refine bodyPost_ret (v := .tuple #[.agg zAsk, .int .i64 15]) (by simp [results, Tryz.results21, go_sem, zAsk, g0, g1, g2, g3, g4]) rfl ⟨fun _ => rfl, fun k st fu h => ?_, ?_⟩
  · rw [hm.out] at h; cases h
  · exact ((((hfin.out.setCell (by simp) _).setCell (by simp) _).setCell (by simp) _).setCell (by simp) _).setCell (by simp) _

set_option maxRecDepth 100000 in
set_option maxHeartbeats 4000000 in
theorem unline_some (s p : ByteArray) (l : List Int) (k : Int) (f : Nat) (caps : Nat → Nat → Array Value) (w : World) (hE : Env w) (hs : s.size ≤ 1000000) (hu : unwM s = some (p, l)) (hp : kindM p = some k)
    (hfound : ∀ p2 p3, ∃ i, Instr.findNow .string (.string p) (readEs p2 p3).toList 0 = some (some (i, .func (.func f) #[] (caps p2 p3))))
    (hread : ∀ (W : World) (A : Option Addr) (c p2 p3 : Nat), WAt W A l → W.cell? ⟨p2, 0, none⟩ = some (.int .i64 2) → W.cell? ⟨p3, 0, none⟩ = some (.int .i64 3) → Calls Tryz.prog f (#[.slice A l.length c] ++ caps p2 p3) W (ReadPost k (readV k l).1 (readV k l).2 W))
    (hr1 : 0 ≤ (readV k l).1 ∧ (readV k l).1 ≤ 18446744073709551615)
    (hent : ∀ (args : Array Value) (w2 : World), (callFunc f args).run Tryz.prog w2 = .ok (.enter f args) w2) : Calls Tryz.prog 21 #[.string s] w (UnlPost s w) := by
  obtain ⟨st, hst⟩ : ∃ st, (readV k l).1 = st := ⟨_, rfl⟩
  obtain ⟨fu, hfu⟩ : ∃ fu, (readV k l).2 = fu := ⟨_, rfl⟩
  have hm := Lib.hid (show unlineM s = if mayV k 0 0 st fu true = true ∧ askedT k st fu = s then some (k, st, fu) else none by unfold unlineM; rw [hu]; dsimp only; rw [hp]; dsimp only; rw [hst, hfu])
  rw [hst, hfu] at hread
  rw [hst] at hr1
  have hb0 := Lib.hid ((Below.refl w.heap.size w).alloc (Nat.le_refl _) (.cells zAsk 42))
  have hk := Lib.hid ((unwords_any s (w.alloc (.cells zAsk 42)) (hE.below hb0.out) hs).mono fun e w' h => (show ∃ A c, e = .returned (.tuple #[.string p, .slice A l.length c, .int .i64 0]) ∧ WAt w' A l ∧ Below (w.alloc (.cells zAsk 42)).heap.size (w.alloc (.cells zAsk 42)) w' from by
    obtain ⟨A, c, h1, h2⟩ := h.2.1 p l hu
    exact ⟨A, c, h1, h2.wat, h.2.2⟩))
  have hT := Lib.hid hE.tab
  have hr1' := Lib.hid hr1
  clear hE hu hp hst hfu hr1
  unfold zAsk at hb0 hk
  go_enter Tryz.func21, Tryz.ntmps21
  go_wp2_with fail
  refine hk.out.mono ?_
  rintro e w1 ⟨A, c, rfl, hwa, hb1⟩
  have hb1' := Lib.hid hb1
  clear hb1
  go_wp2_with fail
  refine (readings_any _).mono ?_
  rintro e w2 ⟨b, p2, p3, rfl, hbm⟩
  have hnf := run_func_nil
  obtain ⟨i, hfi⟩ := hfound p2 p3
  have hlk := run_lookup_lit Tryz.underlying95 Tryz.underlying9 hbm.1 p _ i hfi
  have hb2 := Below.next hb1'.out hbm.2.1
  have hcs := hbm.2.2.2
  have hc2 : w2.cell? ⟨p2, 0, none⟩ = some (.int .i64 2) := by
    obtain ⟨⟨t, ht⟩, _, _⟩ := hcs (p2, .int .i64 2) (by simp)
    rw [blk_cell ht]; rfl
  have hc3 : w2.cell? ⟨p3, 0, none⟩ = some (.int .i64 3) := by
    obtain ⟨⟨t, ht⟩, _, _⟩ := hcs (p3, .int .i64 3) (by simp)
    rw [blk_cell ht]; rfl
  have hrd := Lib.hid (hread w2 A c p2 p3 (hwa.below hbm.2.1) hc2 hc3)
  have hb2' := Lib.hid hb2
  clear hb2 hbm hfi hfound hread hwa hcs hc2 hc3
  go_wp2_with fail
  refine hrd.out.mono ?_
  rintro e w3 ⟨rfl, hb3⟩
  have hb3' := Lib.hid (Below.next hb2'.out hb3)
  clear hb3 hent hlk hnf hrd
  have hfr : Below w.heap.size w w3 := hb0.out.trans (hb3'.out.mono hb0.out.size)
  have hfr' := Lib.hid hfr
  have hsz3 := hb3'.out.size
  have hsz3' : w.heap.size < w3.heap.size := by simp at hsz3; omega
  clear hfr hsz3
  obtain ⟨mb, hmb⟩ : ∃ mb, mayV k 0 0 st fu true = mb := ⟨_, rfl⟩
  have hmay := Lib.hid fun W => may_any k none none 0 0 0 0 [] st fu W rfl (fun h => absurd h (by decide)) (by omega) (by omega)
  have hsb : shortB [] = true := rfl
  rw [hsb, hmb] at hmay
  have hal := Lib.hid (heap_alloc_new w3 (.cells #[.int .i64 k, .slice none 0 0, .slice none 0 0, .int .u64 st, .int .i64 fu] 42))
  have hbz := box_kept w _ hb3'.out
  cases mb
  · have hm := Lib.hid (show unlineM s = none by rw [hm.out, hmb]; simp)
    clear hmb hsb
    go_wp2_with fail
    refine (hmay.out _).mono ?_
    rintro e w4 ⟨rfl, hb4⟩
    obtain ⟨g0, g1, g2, g3, g4, gf⟩ := box5 ((hb4.block _ (by simp; omega)).trans ((heap_alloc_old w3 _ hsz3').trans hbz))
    have hsz4 := hb4.size
    have hsz4' : w.heap.size < w4.heap.size := by simp at hsz4; omega
    have hfin := Lib.hid (show Below w.heap.size w w4 from (hfr'.out.alloc hfr'.out.size _).trans (hb4.mono (by simp; omega)))
    clear hb4 hsz4 hbz
    go_wp2_with fail
    refine bodyPost_ret (v := .tuple #[.agg zAsk, .int .i64 15]) (by simp [results, Tryz.results21, go_sem, zAsk, g0, g1, g2, g3, g4]) rfl ⟨fun _ => rfl, fun k st fu h => ?_, ?_⟩
    · rw [hm.out] at h; cases h
    · exact ((((hfin.out.setCell (by simp) _).setCell (by simp) _).setCell (by simp) _).setCell (by simp) _).setCell (by simp) _
  · have hmb' := Lib.hid hmb
    have hf01 : 0 ≤ fu ∧ fu ≤ 1000000 := by
      unfold mayV at hmb
      simp only [Bool.and_eq_true, decide_eq_true_eq] at hmb
      omega
    have hask := Lib.hid fun W hW => asked_any k none none 0 0 0 0 st fu W hW hr1'.out.1 hr1'.out.2 hf01.1 hf01.2
    clear hmb hsb hf01
    obtain ⟨t, ht⟩ : ∃ t, askedT k st fu = t := ⟨_, rfl⟩
    rw [ht] at hask hm
    clear ht
    go_wp2_with fail
    refine (hmay.out _).mono ?_
    rintro e w4 ⟨rfl, hb4⟩
    have hbq : w4.heap[w3.heap.size]? = _ := (hb4.block _ (by simp)).trans hal.out
    obtain ⟨q0, q1, q2, q3, q4, qf⟩ := box5 hbq
    have hsz4 := hb4.size
    have hsz4' : w3.heap.size < w4.heap.size := by simp at hsz4; omega
    have hbz4 := Lib.hid ((hb4.block w.heap.size (by simp; omega)).trans ((heap_alloc_old w3 _ hsz3').trans hbz))
    have hfr4 := Lib.hid (show Below w.heap.size w w4 from (hfr'.out.alloc hfr'.out.size _).trans (hb4.mono (by simp; omega)))
    have hbq' := Lib.hid hbq
    clear hb4 hsz4 hbz hbq
    go_wp2_with fail
    refine (hask.out w4 (hT.out.below hfr4.out)).mono ?_
    rintro e w5 ⟨rfl, hb5⟩
    obtain ⟨g0, g1, g2, g3, g4, gf⟩ := box5 ((hb5.block _ (by omega)).trans hbz4.out)
    obtain ⟨q0, q1, q2, q3, q4, qf⟩ := box5 ((hb5.block _ hsz4').trans hbq'.out)
    have hsz5 := hb5.size
    have hsz5' : w.heap.size < w5.heap.size := by omega
    have hfin := Lib.hid (Below.next hfr4.out hb5)
    clear hb5
    by_cases hts : t = s
    · subst hts
      have hcmp : (t.toList == t.toList) = true := by simp
      have hmX := Lib.hid (show unlineM t = some (k, st, fu) from by rw [hm.out, if_pos ⟨hmb'.out, rfl⟩])
      go_wp2_with fail
      refine bodyPost_ret (v := .tuple #[.agg #[.int .i64 k, .slice none 0 0, .slice none 0 0, .int .u64 st, .int .i64 fu], .int .i64 0]) (by simp [results, Tryz.results21, go_sem, g0, g1, g2, g3, g4]) rfl ⟨fun h => ?_, fun k' st' fu' h => ?_, ?_⟩
      · rw [hmX.out] at h; cases h
      · rw [hmX.out] at h; cases h; rfl
      · exact ((((hfin.out.setCell (by simp) _).setCell (by simp) _).setCell (by simp) _).setCell (by simp) _).setCell (by simp) _
    · have hcmp : (t.toList == s.toList) = false := by rw [ByteArray.toList_eq, ByteArray.toList_eq]; simpa using fun e => hts (ext_bytes e)
      have hm := Lib.hid (show unlineM s = none by rw [hm.out, if_neg (fun h => hts h.2)])
      clear hts
      go_wp2_with fail
      refine bodyPost_ret (v := .tuple #[.agg zAsk, .int .i64 15]) (by simp [results, Tryz.results21, go_sem, zAsk, g0, g1, g2, g3, g4]) rfl ⟨fun _ => rfl, fun k st fu h => ?_, ?_⟩
      · rw [hm.out] at h; cases h
      · exact ((((hfin.out.setCell (by simp) _).setCell (by simp) _).setCell (by simp) _).setCell (by simp) _).setCell (by simp) _

theorem readV_fst {k : Int} {l : List Int} (h : ∀ x ∈ l, 0 ≤ x ∧ x ≤ 18446744073709551615) : 0 ≤ (readV k l).1 ∧ (readV k l).1 ≤ 18446744073709551615 := by
  unfold readV
  split
  · match l with
    | [] => exact ⟨Int.le_refl 0, by show (0 : Int) ≤ _; omega⟩
    | [_] => exact ⟨Int.le_refl 0, by show (0 : Int) ≤ _; omega⟩
    | _ :: _ :: _ => exact ⟨Int.le_refl 0, by show (0 : Int) ≤ _; omega⟩
  · match l, h with
    | [], _ => exact ⟨Int.le_refl 0, by show (0 : Int) ≤ _; omega⟩
    | [_], _ => exact ⟨Int.le_refl 0, by show (0 : Int) ≤ _; omega⟩
    | [a, b], h => exact h a (by simp)
    | _ :: _ :: _ :: _, _ => exact ⟨Int.le_refl 0, by show (0 : Int) ≤ _; omega⟩
theorem unw_range {s p : ByteArray} {l : List Int} (h : unwM s = some (p, l)) : ∀ x ∈ l, 0 ≤ x ∧ x ≤ 18446744073709551615 := by
  unfold unwM at h
  split at h
  · cases hm : numsM (partsB s).tail with
    | none => rw [hm] at h; cases h
    | some l' => rw [hm] at h; cases h; exact numsM_range _ _ hm
  · cases h
theorem unline_any (s : ByteArray) (w : World) (hE : Env w) (hs : s.size ≤ 1000000) : Calls Tryz.prog 21 #[.string s] w (UnlPost s w) := by
  cases hu : unwM s with
  | none => exact unline_none1 s w hE hs hu
  | some pl =>
    obtain ⟨p, l⟩ := pl
    cases hp : kindM p with
    | none => exact unline_none2 s p l w hE hs hu hp
    | some k =>
      have hr := readV_fst (k := k) (unw_range hu)
      by_cases h1 : p = srcW
      · subst h1
        have : k = 1 := by unfold kindM at hp; rw [if_pos rfl] at hp; cases hp; rfl
        subst this
        exact unline_some s srcW l 1 88 (fun _ _ => #[]) w hE hs hu hp (fun _ _ => ⟨0, rfl⟩) (fun W A c _ _ hw _ _ => readSrc_any A l.length c l W rfl hw) hr (fun args w2 => enters_of Tryz.func88 (by kernel_rfl) rfl args w2)
      · by_cases h2 : p = macW
        · subst h2
          have : k = 2 := by unfold kindM at hp; rw [if_neg h1, if_pos rfl] at hp; cases hp; rfl
          subst this
          exact unline_some s macW l 2 87 (fun p2 _ => #[.pointer (some ⟨p2, 0, none⟩)]) w hE hs hu hp (fun _ _ => ⟨1, rfl⟩) (fun W A c p2 _ hw hc _ => readTwo_any 2 (by decide) p2 A l.length c l W rfl hw hc) hr (fun args w2 => enters_of Tryz.func87 (by kernel_rfl) rfl args w2)
        · by_cases h3 : p = leakW
          · subst h3
            have : k = 3 := by unfold kindM at hp; rw [if_neg h1, if_neg h2, if_pos rfl] at hp; cases hp; rfl
            subst this
            exact unline_some s leakW l 3 87 (fun _ p3 => #[.pointer (some ⟨p3, 0, none⟩)]) w hE hs hu hp (fun _ _ => ⟨2, rfl⟩) (fun W A c _ p3 hw _ hc => readTwo_any 3 (by decide) p3 A l.length c l W rfl hw hc) hr (fun args w2 => enters_of Tryz.func87 (by kernel_rfl) rfl args w2)
          · unfold kindM at hp
            rw [if_neg h1, if_neg h2, if_neg h3] at hp
            cases hp
end Go.Proofs.YtkbmckmlnphpmaaGreatDoor
