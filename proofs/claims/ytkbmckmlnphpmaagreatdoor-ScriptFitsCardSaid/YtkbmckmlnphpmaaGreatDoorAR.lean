/- A text's lines, taken one behind the other: plain. Askings compared: the reference's Same. -/
import Derived.Test.YtkbmckmlnphpmaaGreatDoorAP3
set_option linter.unusedSimpArgs false
set_option linter.unusedVariables false
namespace Go.Proofs.YtkbmckmlnphpmaaGreatDoor
open Go.RowKit Go.Lib Go.Shelf

/-- the lines that have a byte 10 behind them, and what is behind the last one -/
def linesF : List UInt8 → List (List UInt8) × List UInt8
  | [] => ([], [])
  | b :: l => if b = 10 then ([] :: (linesF l).1, (linesF l).2) else match linesF l with | ([], r) => ([], b :: r) | (p :: ps, r) => ((b :: p) :: ps, r)
theorem lines_nl (l : List UInt8) : linesF (10 :: l) = ([] :: (linesF l).1, (linesF l).2) := by
  conv => lhs; rw [linesF]
  rw [if_pos rfl]
theorem lines_other {b : UInt8} (h : ¬ b = 10) (l : List UInt8) : linesF (b :: l) = match linesF l with | ([], r) => ([], b :: r) | (p :: ps, r) => ((b :: p) :: ps, r) := by
  conv => lhs; rw [linesF]
  rw [if_neg h]
theorem lines_cut_none : ∀ l : List UInt8, cutM 10 l = none → linesF l = ([], l)
  | [], _ => rfl
  | b :: l, h => by
    unfold cutM at h
    split at h
    · cases h
    · rename_i hb
      have h2 : cutM 10 l = none := by
        cases hc : cutM 10 l with
        | none => rfl
        | some x => rw [hc] at h; cases h
      unfold linesF
      rw [if_neg hb, lines_cut_none l h2]
theorem lines_cut : ∀ l a b : List UInt8, cutM 10 l = some (a, b) → linesF l = (a :: (linesF b).1, (linesF b).2)
  | [], _, _, h => by cases h
  | c :: l, a, b, h => by
    unfold cutM at h
    split at h
    · rename_i hb
      cases h
      conv => lhs; unfold linesF
      rw [if_pos hb]
    · rename_i hb
      cases hc : cutM 10 l with
      | none => rw [hc] at h; cases h
      | some x =>
        rw [hc] at h
        cases h
        conv => lhs; unfold linesF
        rw [if_neg hb, lines_cut l x.1 x.2 hc]
/-- lines taken -/
def runL : RSt → List ByteArray → Option RSt
  | r, [] => some r
  | r, s :: ss => match takeM r s with | none => none | some r' => runL r' ss
def goL : RSt → Nat → List ByteArray → List UInt8 → Nat × Option RSt
  | r, n, [], rest => if rest = [] then (n, some r) else (n, none)
  | r, n, p :: ps, rest => match takeM r p with | none => (n, none) | some r' => goL r' (n + 1) ps rest
theorem goL_nil (r : RSt) (n : Nat) (rest : List UInt8) : goL r n [] rest = if rest = [] then (n, some r) else (n, none) := rfl
theorem goL_cons (r : RSt) (n : Nat) (p : ByteArray) (ps : List ByteArray) (rest : List UInt8) : goL r n (p :: ps) rest = match takeM r p with | none => (n, none) | some r' => goL r' (n + 1) ps rest := rfl
theorem runL_cons (r : RSt) (s : ByteArray) (ss : List ByteArray) : runL r (s :: ss) = match takeM r s with | none => none | some r' => runL r' ss := rfl
def linesB (l : List UInt8) : List ByteArray := (linesF l).1.map fun p => ⟨p.toArray⟩
theorem run_goL : ∀ (f : Nat) (l : List UInt8) (r : RSt) (n : Nat), l.length < f → runM f l r n = goL r n (linesB l) (linesF l).2
  | 0, _, _, _, h => absurd h (by omega)
  | f + 1, l, r, n, h => by
    unfold runM
    by_cases h0 : l = []
    · rw [if_pos h0]
      subst h0
      rfl
    · rw [if_neg h0]
      cases hc : cutM 10 l with
      | none =>
        unfold linesB
        rw [lines_cut_none l hc]
        rw [List.map_nil, goL_nil, if_neg h0]
      | some x =>
        obtain ⟨a, b⟩ := x
        have hl := cutM_len 10 l a b hc
        unfold linesB
        rw [lines_cut l a b hc]
        rw [List.map_cons, goL_cons]
        dsimp only
        cases ht : takeM r ⟨a.toArray⟩ with
        | none => rfl
        | some r' =>
          dsimp only
          rw [run_goL f b r' (n + 1) (by omega)]
          rfl
theorem goL_ok : ∀ (ls : List ByteArray) (r r' : RSt) (n : Nat) (rest : List UInt8), runL r ls = some r' → goL r n ls rest = if rest = [] then (n + ls.length, some r') else (n + ls.length, none)
  | [], r, r', n, rest, h => by cases h; rfl
  | s :: ss, r, r', n, rest, h => by
    unfold runL at h
    unfold goL
    cases ht : takeM r s with
    | none => rw [ht] at h; cases h
    | some r2 =>
      rw [ht] at h
      dsimp only at h ⊢
      rw [goL_ok ss r2 r' (n + 1) rest h]
      simp only [List.length_cons, Nat.add_assoc, Nat.add_comm 1]
theorem goL_bad : ∀ (ls : List ByteArray) (i : Nat) (r r' : RSt) (s : ByteArray) (n : Nat) (rest : List UInt8), runL r (ls.take i) = some r' → ls[i]? = some s → takeM r' s = none → goL r n ls rest = (n + i, none)
  | [], i, r, r', s, n, rest, _, h, _ => by cases h
  | x :: ss, 0, r, r', s, n, rest, h1, h2, h3 => by
    have h1 : some r = some r' := h1
    cases h1
    cases h2
    unfold goL
    rw [h3]
    rfl
  | x :: ss, i + 1, r, r', s, n, rest, h1, h2, h3 => by
    rw [List.take_succ_cons] at h1
    unfold runL at h1
    unfold goL
    cases ht : takeM r x with
    | none => rw [ht] at h1; cases h1
    | some r2 =>
      rw [ht] at h1
      dsimp only at h1 ⊢
      rw [goL_bad ss i r2 r' s (n + 1) rest h1 (by simpa using h2) h3]
      simp only [Nat.add_assoc, Nat.add_comm 1]
theorem runL_app : ∀ (a b : List ByteArray) (r : RSt), runL r (a ++ b) = (runL r a).bind fun r' => runL r' b
  | [], b, r => rfl
  | s :: ss, b, r => by
    rw [List.cons_append, runL_cons, runL_cons]
    cases takeM r s with
    | none => rfl
    | some r2 => exact runL_app ss b r2
theorem runL_snoc {a : List ByteArray} {s : ByteArray} {r r1 r2 : RSt} (h1 : runL r a = some r1) (h2 : takeM r1 s = some r2) : runL r (a ++ [s]) = some r2 := by
  rw [runL_app, h1]
  show runL r1 [s] = _
  unfold runL
  rw [h2]
  rfl
/-- what a text is, by its lines -/
theorem parse_bad {text : ByteArray} {i : Nat} {r' : RSt} {s : ByteArray} (hs : text.size ≤ 1048576) (h1 : runL zeroR ((linesB text.data.toList).take i) = some r') (h2 : (linesB text.data.toList)[i]? = some s) (h3 : takeM r' s = none) : parseM text = ([], i, 15) := by
  unfold parseM
  rw [if_neg (by omega), run_goL _ _ _ _ (by rw [size_list]; omega), goL_bad _ _ _ _ _ _ _ h1 h2 h3, Nat.zero_add]
  rfl
theorem parse_rest {text : ByteArray} {r' : RSt} (hs : text.size ≤ 1048576) (h1 : runL zeroR (linesB text.data.toList) = some r') (h2 : (linesF text.data.toList).2 ≠ []) : parseM text = ([], (linesB text.data.toList).length, 15) := by
  unfold parseM
  rw [if_neg (by omega), run_goL _ _ _ _ (by rw [size_list]; omega), goL_ok _ _ _ _ _ h1, if_neg h2, Nat.zero_add]
  rfl
theorem parse_whole {text : ByteArray} {r' : RSt} (hs : text.size ≤ 1048576) (h1 : runL zeroR (linesB text.data.toList) = some r') (h2 : (linesF text.data.toList).2 = []) : parseM text = if r'.on = true then ([], (linesB text.data.toList).length, 15) else if 64 < r'.l.length then ([], 0, 3) else (r'.l, 0, 0) := by
  unfold parseM
  rw [if_neg (by omega), run_goL _ _ _ _ (by rw [size_list]; omega), goL_ok _ _ _ _ _ h1, if_pos h2, Nat.zero_add]
  rfl
theorem lines_snoc (b : UInt8) : ∀ (l : List UInt8) (P : List (List UInt8)) (q : List UInt8), linesF l = (P, q) → linesF (l ++ [b]) = if b = 10 then (P ++ [q], []) else (P, q ++ [b])
  | [], P, q, h => by
    cases h
    show linesF [b] = _
    unfold linesF
    split <;> rfl
  | c :: l, P, q, h => by
    obtain ⟨⟨P', q'⟩, h'⟩ : ∃ x, linesF l = x := ⟨_, rfl⟩
    have ih := lines_snoc b l P' q' h'
    rw [List.cons_append]
    by_cases hc : c = 10
    · subst hc
      have e1 := lines_nl l
      have e2 := lines_nl (l ++ [b])
      rw [e1, h'] at h
      cases h
      rw [e2, ih]
      split <;> rfl
    · have e1 := lines_other hc l
      have e2 := lines_other hc (l ++ [b])
      rw [e1, h'] at h
      rw [e2, ih]
      by_cases hb : b = 10
      · rw [if_pos hb, if_pos hb]
        cases P' <;> (cases h; rfl)
      · rw [if_neg hb, if_neg hb]
        cases P' <;> (cases h; rfl)
end Go.Proofs.YtkbmckmlnphpmaaGreatDoor
namespace Go.Proofs.YtkbmckmlnphpmaaGreatDoor
open Go.RowKit Go.Lib Go.Shelf

def askVal (a : Ask) (A1 : Option Addr) (c1 : Nat) (A2 : Option Addr) (c2 : Nat) : Value := .agg #[.int .i64 a.k, .slice A1 a.args.length c1, .slice A2 a.regs.length c2, .int .u64 a.st, .int .i64 a.fu]
theorem below_two (w : World) (o o' : Obj) : Below w.heap.size w ((w.alloc o).alloc o') := ((Below.refl w.heap.size w).alloc (Nat.le_refl _) o).alloc (by simp) o'

set_option maxRecDepth 100000 in
set_option maxHeartbeats 4000000 in
theorem refSame_walk (k k' st st' fu fu' : Int) (A1 A2 B1 B2 : Option Addr) (n1 c1 n2 c2 m1 d1 m2 d2 : Nat) (t1 t2 : Bool) (w : World)
    (h1 : ∀ W, Below w.heap.size w W → Calls Tryz.prog 20 #[.slice A1 n1 c1, .slice B1 m1 d1] W (BoolPost t1 W))
    (h2 : ∀ W, Below w.heap.size w W → Calls Tryz.prog 56 #[.slice A2 n2 c2, .slice B2 m2 d2] W (BoolPost t2 W)) :
    Calls Tryz.prog 23 #[.agg #[.int .i64 k, .slice A1 n1 c1, .slice A2 n2 c2, .int .u64 st, .int .i64 fu], .agg #[.int .i64 k', .slice B1 m1 d1, .slice B2 m2 d2, .int .u64 st', .int .i64 fu']] w
      (BoolPost (decide (k = k' ∧ st = st' ∧ fu = fu') && (t1 && t2)) w) := by
  have hb0 := Lib.hid (below_two w (.cells #[.int .i64 k, .slice A1 n1 c1, .slice A2 n2 c2, .int .u64 st, .int .i64 fu] 42) (.cells #[.int .i64 k', .slice B1 m1 d1, .slice B2 m2 d2, .int .u64 st', .int .i64 fu'] 42))
  have q1 := Lib.hid (h1 _ hb0.out)
  have q2 := Lib.hid h2
  clear h1 h2
  by_cases e1 : k = k'
  · subst e1
    by_cases e2 : st = st'
    · subst e2
      by_cases e3 : fu = fu'
      · subst e3
        have hl := Lib.hid (heap_alloc_old (w.alloc (.cells #[.int .i64 k, .slice A1 n1 c1, .slice A2 n2 c2, .int .u64 st, .int .i64 fu] 42)) (.cells #[.int .i64 k, .slice B1 m1 d1, .slice B2 m2 d2, .int .u64 st, .int .i64 fu] 42) (r := w.heap.size) (by simp))
        have hl2 := Lib.hid (heap_alloc_new w (.cells #[.int .i64 k, .slice A1 n1 c1, .slice A2 n2 c2, .int .u64 st, .int .i64 fu] 42))
        have hl3 := Lib.hid (show ((w.alloc (.cells #[.int .i64 k, .slice A1 n1 c1, .slice A2 n2 c2, .int .u64 st, .int .i64 fu] 42)).alloc (.cells #[.int .i64 k, .slice B1 m1 d1, .slice B2 m2 d2, .int .u64 st, .int .i64 fu] 42)).heap[w.heap.size + 1]? = some (.cells #[.int .i64 k, .slice B1 m1 d1, .slice B2 m2 d2, .int .u64 st, .int .i64 fu] 42 (0, 0)) from by
          have := heap_alloc_new (w.alloc (.cells #[.int .i64 k, .slice A1 n1 c1, .slice A2 n2 c2, .int .u64 st, .int .i64 fu] 42)) (.cells #[.int .i64 k, .slice B1 m1 d1, .slice B2 m2 d2, .int .u64 st, .int .i64 fu] 42)
          simpa using this)
        cases t1
        · go_enter Tryz.func23, Tryz.ntmps23
          go_wp2_with fail
          refine q1.out.mono ?_
          rintro e w1 ⟨rfl, hb1⟩
          have b1 := Lib.hid (hb0.out.trans (hb1.mono hb0.out.size))
          clear hb1
          go_wp2_with fail
          go_ret
          exact ⟨by simp, b1.out⟩
        · go_enter Tryz.func23, Tryz.ntmps23
          go_wp2_with fail
          refine q1.out.mono ?_
          rintro e w1 ⟨rfl, hb1⟩
          have b1 := Lib.hid (hb0.out.trans (hb1.mono hb0.out.size))
          obtain ⟨g0, g1, g2, g3, g4, gf⟩ := box5 (((hb1.block w.heap.size (by simp; omega)).trans hl.out).trans hl2.out)
          obtain ⟨y0, y1, y2, y3, y4, yf⟩ := box5 ((hb1.block (w.heap.size + 1) (by simp)).trans hl3.out)
          clear hb1
          go_wp2_with fail
          refine (q2.out _ b1.out).mono ?_
          rintro e w2 ⟨rfl, hb2⟩
          have b2 := Lib.hid (Below.next b1.out hb2)
          clear hb2
          cases t2
          all_goals
            go_wp2_with fail
            go_ret
            exact ⟨by simp, b2.out⟩
      · have d3 : (fu == fu') = false := by simpa using e3
        have e3' := Lib.hid e3
        clear e3
        go_enter Tryz.func23, Tryz.ntmps23
        go_wp2_with fail
        go_ret
        exact ⟨by simp [e3'.out], hb0.out⟩
    · have d2 : (st == st') = false := by simpa using e2
      have e2' := Lib.hid e2
      clear e2
      go_enter Tryz.func23, Tryz.ntmps23
      go_wp2_with fail
      go_ret
      exact ⟨by simp [e2'.out], hb0.out⟩
  · have d1 : (k == k') = false := by simpa using e1
    have e1' := Lib.hid e1
    clear e1
    go_enter Tryz.func23, Tryz.ntmps23
    go_wp2_with fail
    go_ret
    exact ⟨by simp [e1'.out], hb0.out⟩
def AskOK (w : World) (a : Ask) (A1 A2 : Option Addr) : Prop := WAt w A1 a.args ∧ WsAt w A2 a.regs ∧ a.args.length ≤ 4000000 ∧ a.regs.length ≤ 4000000
theorem AskOK.below {w w' : World} {a : Ask} {A1 A2 : Option Addr} (h : AskOK w a A1 A2) (hb : Below w.heap.size w w') : AskOK w' a A1 A2 := ⟨h.1.below hb, h.2.1.below hb, h.2.2⟩
theorem refSame_any (a b : Ask) (A1 A2 B1 B2 : Option Addr) (c1 c2 d1 d2 : Nat) (w : World) (ha : AskOK w a A1 A2) (hb : AskOK w b B1 B2) :
    Calls Tryz.prog 23 #[askVal a A1 c1 A2 c2, askVal b B1 d1 B2 d2] w (BoolPost (decide (a = b)) w) := by
  have h := refSame_walk a.k b.k a.st b.st a.fu b.fu A1 A2 B1 B2 a.args.length c1 a.regs.length c2 b.args.length d1 b.regs.length d2 (decide (a.args = b.args)) (decide (a.regs = b.regs)) w
    (fun W hW => sameList_any A1 B1 a.args.length c1 b.args.length d1 a.args b.args W rfl rfl (ha.1.below hW) (hb.1.below hW) ha.2.2.1 hb.2.2.1)
    (fun W hW => sameWords_any A2 B2 a.regs.length c2 b.regs.length d2 a.regs b.regs W rfl rfl (ha.2.1.below hW) (hb.2.1.below hW) (by have := ha.2.2.2; omega) (by have := hb.2.2.2; omega))
  have e : (decide (a.k = b.k ∧ a.st = b.st ∧ a.fu = b.fu) && (decide (a.args = b.args) && decide (a.regs = b.regs))) = decide (a = b) := by
    rw [← Bool.decide_and, ← Bool.decide_and]
    apply decide_eq_decide.2
    cases a; cases b
    simp only [Ask.mk.injEq]
    constructor
    · rintro ⟨⟨h1, h2, h3⟩, h4, h5⟩; exact ⟨h1, h4, h5, h2, h3⟩
    · rintro ⟨h1, h4, h5, h2, h3⟩; exact ⟨⟨h1, h2, h3⟩, h4, h5⟩
  rw [e] at h
  exact h
end Go.Proofs.YtkbmckmlnphpmaaGreatDoor
