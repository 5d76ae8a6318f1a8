/- A text of askings told and read: plain. A text that is built: copyCheck, WriteString (walked over this program, whose copyCheck ends in a place that no run comes to). May all askings be: all, at askings. All askings' text: Text. The reference's Text. Askings of more than is gone through: many. -/
import Derived.Test.YtkbmckmlnphpmaaGreatDoorAR
import Derived.Test.YtkbmckmlnphpmaaGreatDoorBI
import Derived.Test.YtkbmckmlnphpmaaGreatDoorI
import Derived.Shelf.RegionOpenPlain
import Derived.Lib.UnsafeStr
import Derived.Test.YtkbmckmlnphpmaaGreatDoorV
import Derived.Test.YtkbmckmlnphpmaaGreatDoorAF
set_option linter.unusedSimpArgs false
set_option linter.unusedVariables false
namespace Go.Proofs.YtkbmckmlnphpmaaGreatDoor
open Go.RowKit Go.Lib Go.Shelf

def nlL (s : ByteArray) : List UInt8 := s.data.toList ++ [10]
/-- lines, each with a byte 10 behind it -/
def textL (ls : List ByteArray) : List UInt8 := (ls.map nlL).flatten
/-- the lines of askings -/
def linesAll (L : List Ask) : List ByteArray := (L.map linesA).flatten
def scrT (L : List Ask) : ByteArray := ⟨(textL (linesAll L)).toArray⟩
/-- what Text answers -/
def textM (L : List Ask) : ByteArray × Int := if L.all mayA then (if 64 < L.length then (⟨#[]⟩, 3) else if 1048576 < (scrT L).size then (⟨#[]⟩, 3) else (scrT L, 0)) else (⟨#[]⟩, 2)
theorem textL_app (a b : List ByteArray) : textL (a ++ b) = textL a ++ textL b := by simp [textL]
theorem linesAll_app (a b : List Ask) : linesAll (a ++ b) = linesAll a ++ linesAll b := by simp [linesAll]
theorem linesAll_one (a : Ask) : linesAll [a] = linesA a := by simp [linesAll]

/-! lines and text -/
theorem lines_join : ∀ (l : List UInt8) (P : List (List UInt8)) (q : List UInt8), linesF l = (P, q) → (P.map (· ++ [10])).flatten ++ q = l
  | [], P, q, h => by cases h; rfl
  | c :: l, P, q, h => by
    obtain ⟨⟨P', q'⟩, h'⟩ : ∃ x, linesF l = x := ⟨_, rfl⟩
    have ih := lines_join l P' q' h'
    by_cases hc : c = 10
    · subst hc
      have e1 := lines_nl l
      rw [e1, h'] at h
      cases h
      rw [List.map_cons, List.flatten_cons, List.nil_append, List.append_assoc, ih]
      rfl
    · have e1 := lines_other hc l
      rw [e1, h'] at h
      cases P' with
      | nil => cases h; rw [← ih]; rfl
      | cons p ps => cases h; rw [← ih]; rfl
theorem text_lines {t : ByteArray} (h : (linesF t.data.toList).2 = []) : textL (linesB t.data.toList) = t.data.toList := by
  obtain ⟨⟨P, q⟩, h'⟩ : ∃ x, linesF t.data.toList = x := ⟨_, rfl⟩
  rw [h'] at h
  have := lines_join _ P q h'
  unfold linesB textL
  rw [h', List.map_map]
  subst h
  rw [List.append_nil] at this
  rw [← this]
  rfl
theorem lines_of : ∀ (s : List UInt8) (l : List UInt8), (∀ b ∈ s, b ≠ 10) → linesF (s ++ 10 :: l) = (s :: (linesF l).1, (linesF l).2)
  | [], l, _ => lines_nl l
  | b :: s, l, h => by
    have ih := lines_of s l fun x hx => h x (by simp [hx])
    rw [List.cons_append, lines_other (h b (by simp)), ih]
theorem lines_text : ∀ ls : List ByteArray, (∀ s ∈ ls, ∀ b ∈ s.data.toList, b ≠ 10) → linesF (textL ls) = (ls.map (·.data.toList), [])
  | [], _ => rfl
  | s :: ls, h => by
    have ih := lines_text ls fun x hx => h x (by simp [hx])
    have e : textL (s :: ls) = s.data.toList ++ 10 :: textL ls := by simp [textL, nlL]
    rw [e, lines_of _ _ (h s (by simp)), ih]
    rfl
theorem linesB_text {ls : List ByteArray} (h : ∀ s ∈ ls, ∀ b ∈ s.data.toList, b ≠ 10) : linesB (textL ls) = ls := by
  unfold linesB
  rw [lines_text ls h, List.map_map]
  exact List.map_id' ls
/-! what was read is told -/
def pend (r : RSt) : List ByteArray := if r.on then lineT inW r.args :: r.regs.map (lineT withW) else []
def goodR (r : RSt) : Prop := (∀ a ∈ r.l, mayA a = true) ∧ (r.on = true → r.args.length ≤ 64 ∧ r.regs.length ≤ 16 ∧ shortB r.regs = true)
theorem unline_asked {s : ByteArray} {k st fu : Int} (h : unlineM s = some (k, st, fu)) : askedT k st fu = s ∧ mayV k 0 0 st fu true = true := by
  unfold unlineM at h
  split at h
  · cases h
  · split at h
    · cases h
    · split at h
      · rename_i hh
        cases h
        exact ⟨hh.2, hh.1⟩
      · cases h
theorem may_of {k st fu : Int} {n1 n2 : Nat} {b : Bool} (h : mayV k 0 0 st fu true = true) (h1 : n1 ≤ 64) (h2 : n2 ≤ 16) (hb : b = true) : mayV k n1 n2 st fu b = true := by
  subst hb
  simp only [mayV, Bool.and_eq_true, decide_eq_true_eq] at h ⊢
  simp only [h, h1, h2, and_self]
theorem take_text {r r' : RSt} {s : ByteArray} (h : takeM r s = some r') : linesAll r'.l ++ pend r' = linesAll r.l ++ pend r ++ [s] := by
  obtain ⟨l, args, regs, on⟩ := r
  unfold takeM at h
  cases on with
  | false =>
    dsimp only at h
    cases hu : unwM s with
    | none => rw [hu] at h; cases h
    | some pl =>
      obtain ⟨p, ws⟩ := pl
      rw [hu] at h
      dsimp only at h
      split at h
      · rename_i hp
        obtain ⟨rfl, hp⟩ := hp
        cases h
        have := unw_text hu
        simp [pend, this]
      · cases h
  | true =>
    dsimp only at h
    cases hu : unwM s with
    | none => rw [hu] at h; cases h
    | some pl =>
      obtain ⟨p, ws⟩ := pl
      rw [hu] at h
      dsimp only at h
      split at h
      · rename_i hp
        subst hp
        split at h
        · cases h
          have := unw_text hu
          simp [pend, this]
        · cases h
      · cases hl : unlineM s with
        | none => rw [hl] at h; cases h
        | some x =>
          obtain ⟨k, st, fu⟩ := x
          rw [hl] at h
          cases h
          have := (unline_asked hl).1
          simp [pend, linesAll_app, linesAll_one, linesA, this]
theorem take_good {r r' : RSt} {s : ByteArray} (h : takeM r s = some r') (hg : goodR r) : goodR r' := by
  obtain ⟨l, args, regs, on⟩ := r
  obtain ⟨h1, h2⟩ := hg
  dsimp only at h1 h2
  unfold takeM at h
  cases on with
  | false =>
    dsimp only at h
    cases hu : unwM s with
    | none => rw [hu] at h; cases h
    | some pl =>
      obtain ⟨p, ws⟩ := pl
      rw [hu] at h
      dsimp only at h
      split at h
      · rename_i hp
        cases h
        exact ⟨h1, fun _ => ⟨hp.2, Nat.zero_le _, rfl⟩⟩
      · cases h
  | true =>
    obtain ⟨g1, g2, g3⟩ := h2 rfl
    dsimp only at h
    cases hu : unwM s with
    | none => rw [hu] at h; cases h
    | some pl =>
      obtain ⟨p, ws⟩ := pl
      rw [hu] at h
      dsimp only at h
      split at h
      · split at h
        · rename_i hp
          cases h
          refine ⟨h1, fun _ => ⟨g1, ?_, ?_⟩⟩
          · have := hp.2
            simp; omega
          · have g4 : shortB (regs ++ [ws]) = (shortB regs && decide (ws.length ≤ 512)) := by simp [shortB]
            show shortB (regs ++ [ws]) = true
            rw [g4, g3]
            simpa using hp.1
        · cases h
      · cases hl : unlineM s with
        | none => rw [hl] at h; cases h
        | some x =>
          obtain ⟨k, st, fu⟩ := x
          rw [hl] at h
          cases h
          refine ⟨fun a ha => ?_, fun h => by cases h⟩
          rcases List.mem_append.1 ha with ha | ha
          · exact h1 a ha
          · rw [List.mem_singleton] at ha
            subst ha
            exact may_of (unline_asked hl).2 g1 g2 g3
theorem run_text : ∀ (ls : List ByteArray) (r r' : RSt), runL r ls = some r' → goodR r → linesAll r'.l ++ pend r' = linesAll r.l ++ pend r ++ ls ∧ goodR r'
  | [], r, r', h, hg => by cases h; exact ⟨by simp, hg⟩
  | s :: ls, r, r', h, hg => by
    rw [runL_cons] at h
    cases ht : takeM r s with
    | none => rw [ht] at h; cases h
    | some r2 =>
      rw [ht] at h
      have h1 := take_text ht
      obtain ⟨h2, h3⟩ := run_text ls r2 r' h (take_good ht hg)
      refine ⟨?_, h3⟩
      rw [h2, h1]
      simp
theorem goL_inv : ∀ (ls : List ByteArray) (r r' : RSt) (n m : Nat) (rest : List UInt8), goL r n ls rest = (m, some r') → runL r ls = some r' ∧ rest = []
  | [], r, r', n, m, rest, h => by
    rw [goL_nil] at h
    split at h
    · rename_i h0; cases h; exact ⟨rfl, h0⟩
    · cases h
  | s :: ls, r, r', n, m, rest, h => by
    rw [goL_cons] at h
    rw [runL_cons]
    cases ht : takeM r s with
    | none => rw [ht] at h; cases h
    | some r2 =>
      rw [ht] at h
      dsimp only at h ⊢
      exact goL_inv ls r2 r' (n + 1) m rest h
/-- what a text is read as has that text -/
theorem parse_text {t : ByteArray} {L : List Ask} {n : Nat} (h : parseM t = (L, n, 0)) : textM L = (t, 0) := by
  unfold parseM at h
  split at h
  · cases h
  · rename_i hs
    rw [run_goL _ _ _ _ (by rw [size_list]; omega)] at h
    obtain ⟨⟨m, o⟩, hg⟩ : ∃ x, goL zeroR 0 (linesB t.data.toList) (linesF t.data.toList).2 = x := ⟨_, rfl⟩
    rw [hg] at h
    cases o with
    | none => cases h
    | some r =>
      have h : (if r.on = true then (([] : List Ask), m, (15 : Int)) else if 64 < r.l.length then ([], 0, 3) else (r.l, 0, 0)) = (L, n, 0) := h
      by_cases hon : r.on = true
      · rw [if_pos hon] at h; cases h
      · rw [if_neg hon] at h
        by_cases hl : 64 < r.l.length
        · rw [if_pos hl] at h; cases h
        · rw [if_neg hl] at h
          · have eL : r.l = L := by cases h; rfl
            subst eL
            obtain ⟨h1, h2⟩ := goL_inv _ _ _ _ _ _ hg
            obtain ⟨h3, h4, _⟩ := run_text _ _ _ h1 ⟨(fun a ha => by cases ha), (fun h => by cases h)⟩
            have e1 : linesAll r.l = linesB t.data.toList := by
              have e2 : pend r = [] := by unfold pend; rw [if_neg hon]
              have e3 : linesAll zeroR.l ++ pend zeroR = [] := rfl
              rw [e2, e3] at h3
              simpa using h3
            have e4 : scrT r.l = t := by
              apply ext_bytes
              show (textL (linesAll r.l)).toArray.toList = _
              rw [List.toList_toArray, e1]
              exact text_lines h2
            unfold textM
            rw [if_pos (List.all_eq_true.2 h4), if_neg hl, e4, if_neg hs]
/-! what was told is read -/
structure AskW (a : Ask) : Prop where
  args : ∀ x ∈ a.args, 0 ≤ x ∧ x ≤ 18446744073709551615
  regs : ∀ ws ∈ a.regs, ∀ x ∈ ws, 0 ≤ x ∧ x ≤ 18446744073709551615
  st : 0 ≤ a.st ∧ a.st ≤ 18446744073709551615
theorem may_parts {k st fu : Int} {n1 n2 : Nat} {b : Bool} (h : mayV k n1 n2 st fu b = true) : (k = 1 ∧ st = 0 ∨ k = 2 ∨ k = 3) ∧ n1 ≤ 64 ∧ n2 ≤ 16 ∧ 0 ≤ fu ∧ fu ≤ 1000000 ∧ b = true := by
  simp [mayV] at h
  obtain ⟨⟨⟨⟨⟨⟨⟨h1, h2⟩, h3⟩, h4⟩, h5⟩, h6⟩, h7⟩, h8⟩ := h
  refine ⟨?_, h4, h5, h6, h7, h8⟩
  by_cases hk : k = 1
  · left; exact ⟨hk, by omega⟩
  · right; omega
theorem unw_asked {k st fu : Int} (hk : k = 1 ∨ k = 2 ∨ k = 3) (hs : 0 ≤ st ∧ st ≤ 18446744073709551615) (hf : 0 ≤ fu ∧ fu ≤ 1000000) :
    unwM (askedT k st fu) = some (if k = 1 then (srcW, [fu]) else if k = 2 then (macW, [st, fu]) else (leakW, [st, fu])) := by
  rcases hk with rfl | rfl | rfl
  · exact unw_line srcW [fu] (by decide) (by simp; omega)
  · exact unw_line macW [st, fu] (by decide) (by simp; omega)
  · exact unw_line leakW [st, fu] (by decide) (by simp; omega)
theorem asked_read {k st fu : Int} {n1 n2 : Nat} {b : Bool} (h : mayV k n1 n2 st fu b = true) (hs : 0 ≤ st ∧ st ≤ 18446744073709551615) : unlineM (askedT k st fu) = some (k, st, fu) := by
  obtain ⟨hk, _, _, h1, h2, _⟩ := may_parts h
  have hu := unw_asked (k := k) (st := st) (fu := fu) (by omega) hs ⟨h1, h2⟩
  rw [unlineM_eq]
  unfold refUnlM
  rw [hu]
  rcases hk with ⟨rfl, rfl⟩ | rfl | rfl
  · have e1 : ¬ (1000000 : Int) < fu := by omega
    simp [e1]
  · have e1 : ¬ (1000000 : Int) < fu := by omega
    have e2 : ¬ (macW = srcW) := by decide
    simp [e1, e2]
  · have e1 : ¬ (1000000 : Int) < fu := by omega
    have e2 : ¬ (leakW = srcW) := by decide
    have e3 : ¬ (leakW = macW) := by decide
    simp [e1, e2, e3]
theorem take_in0 (l : List Ask) (x : List Int) (y : List (List Int)) (args : List Int) (h : args.length ≤ 64) (hw : ∀ x ∈ args, 0 ≤ x ∧ x ≤ 18446744073709551615) : takeM ⟨l, x, y, false⟩ (lineT inW args) = some ⟨l, args, [], true⟩ := by
  unfold takeM
  rw [unw_line inW args (by decide) hw]
  dsimp only
  rw [if_pos ⟨rfl, h⟩]
theorem take_with0 (l : List Ask) (args : List Int) (regs : List (List Int)) (ws : List Int) (h : ws.length ≤ 512) (hr : regs.length < 16) (hw : ∀ x ∈ ws, 0 ≤ x ∧ x ≤ 18446744073709551615) : takeM ⟨l, args, regs, true⟩ (lineT withW ws) = some ⟨l, args, regs ++ [ws], true⟩ := by
  unfold takeM
  rw [unw_line withW ws (by decide) hw]
  dsimp only
  rw [if_pos rfl, if_pos ⟨h, hr⟩]
theorem take_ask0 (l : List Ask) (args : List Int) (regs : List (List Int)) {k st fu : Int} {n1 n2 : Nat} {b : Bool} (h : mayV k n1 n2 st fu b = true) (hs : 0 ≤ st ∧ st ≤ 18446744073709551615) :
    takeM ⟨l, args, regs, true⟩ (askedT k st fu) = some ⟨l ++ [⟨k, args, regs, st, fu⟩], args, regs, false⟩ := by
  have hl := asked_read h hs
  obtain ⟨hk, _, _, h1, h2, _⟩ := may_parts h
  have hu := unw_asked (k := k) (st := st) (fu := fu) (by omega) hs ⟨h1, h2⟩
  unfold takeM
  rw [hu, hl]
  dsimp only
  rw [if_neg]
  rcases hk with ⟨rfl, rfl⟩ | rfl | rfl
  · show ¬ (srcW = withW); decide
  · show ¬ (macW = withW); decide
  · show ¬ (leakW = withW); decide
theorem run_regs (l : List Ask) (args : List Int) : ∀ (R regs : List (List Int)), (∀ ws ∈ R, ws.length ≤ 512 ∧ ∀ x ∈ ws, 0 ≤ x ∧ x ≤ 18446744073709551615) → regs.length + R.length ≤ 16 →
    runL ⟨l, args, regs, true⟩ (R.map (lineT withW)) = some ⟨l, args, regs ++ R, true⟩
  | [], regs, _, _ => by rw [List.append_nil]; rfl
  | ws :: R, regs, h, hl => by
    rw [List.length_cons] at hl
    obtain ⟨h1, h2⟩ := h ws (by simp)
    rw [List.map_cons, runL_cons, take_with0 l args regs ws h1 (by omega) h2]
    dsimp only
    rw [run_regs l args R (regs ++ [ws]) (fun v hv => h v (by simp [hv])) (by simp; omega)]
    simp
theorem shortB_len {R : List (List Int)} (h : shortB R = true) : ∀ ws ∈ R, ws.length ≤ 512 := fun ws hw => by
  unfold shortB at h
  rw [List.all_eq_true] at h
  simpa using h ws hw
theorem run_ask (l : List Ask) (x : List Int) (y : List (List Int)) (a : Ask) (h : mayA a = true) (hw : AskW a) : runL ⟨l, x, y, false⟩ (linesA a) = some ⟨l ++ [a], a.args, a.regs, false⟩ := by
  obtain ⟨_, h1, h2, _, _, h5⟩ := may_parts h
  unfold linesA
  rw [runL_cons, take_in0 l x y a.args h1 hw.args]
  dsimp only
  rw [runL_app, run_regs l a.args a.regs [] (fun ws hws => ⟨shortB_len h5 ws hws, hw.regs ws hws⟩) (by simpa using h2)]
  show runL ⟨l, a.args, a.regs, true⟩ [askedT a.k a.st a.fu] = _
  rw [runL_cons, take_ask0 l a.args a.regs h hw.st]
  rfl
theorem run_all : ∀ (L l : List Ask) (x : List Int) (y : List (List Int)), (∀ a ∈ L, mayA a = true ∧ AskW a) → ∃ x' y', runL ⟨l, x, y, false⟩ (linesAll L) = some ⟨l ++ L, x', y', false⟩
  | [], l, x, y, _ => ⟨x, y, by rw [List.append_nil]; rfl⟩
  | a :: L, l, x, y, h => by
    obtain ⟨h1, h2⟩ := h a (by simp)
    obtain ⟨x', y', e⟩ := run_all L (l ++ [a]) a.args a.regs fun b hb => h b (by simp [hb])
    refine ⟨x', y', ?_⟩
    have : linesAll (a :: L) = linesA a ++ linesAll L := rfl
    rw [this, runL_app, run_ask l x y a h1 h2]
    show runL _ _ = _
    rw [e]
    simp
theorem tail_no10 (l : List Int) : ∀ b ∈ tailL l, b ≠ 10 := by
  intro b hb
  unfold tailL at hb
  obtain ⟨q, hq, hb⟩ := List.mem_flatten.1 hb
  obtain ⟨x, _, rfl⟩ := List.mem_map.1 hq
  rcases List.mem_cons.1 hb with rfl | hb
  · decide
  · exact dec_no _ 10 (by decide) b hb
theorem line_no10 (p : ByteArray) (l : List Int) (hp : ∀ b ∈ p.data.toList, b ≠ 10) : ∀ b ∈ (lineT p l).data.toList, b ≠ 10 := by
  intro b hb
  rw [lineT_list] at hb
  rcases List.mem_append.1 hb with hb | hb
  · exact hp b hb
  · exact tail_no10 l b hb
theorem asked_no10 (k st fu : Int) : ∀ b ∈ (askedT k st fu).data.toList, b ≠ 10 := by
  unfold askedT
  split
  · exact line_no10 srcW _ (by decide)
  · split
    · exact line_no10 macW _ (by decide)
    · exact line_no10 leakW _ (by decide)
theorem linesA_no10 (a : Ask) : ∀ s ∈ linesA a, ∀ b ∈ s.data.toList, b ≠ 10 := by
  intro s hs
  unfold linesA at hs
  rcases List.mem_cons.1 hs with rfl | hs
  · exact line_no10 inW _ (by decide)
  · rcases List.mem_append.1 hs with hs | hs
    · obtain ⟨ws, _, rfl⟩ := List.mem_map.1 hs
      exact line_no10 withW _ (by decide)
    · rw [List.mem_singleton] at hs
      subst hs
      exact asked_no10 _ _ _
theorem linesAll_no10 (L : List Ask) : ∀ s ∈ linesAll L, ∀ b ∈ s.data.toList, b ≠ 10 := by
  intro s hs
  obtain ⟨q, hq, hs⟩ := List.mem_flatten.1 hs
  obtain ⟨a, _, rfl⟩ := List.mem_map.1 hq
  exact linesA_no10 a s hs
/-- a text of askings is read as them -/
theorem text_parse {t : ByteArray} {L : List Ask} (h : textM L = (t, 0)) (hw : ∀ a ∈ L, AskW a) : parseM t = (L, 0, 0) := by
  unfold textM at h
  split at h
  · rename_i hm
    split at h
    · cases h
    · rename_i hl
      split at h
      · cases h
      · rename_i hs
        have e : scrT L = t := by cases h; rfl
        have hs : ¬ 1048576 < t.size := by rw [← e]; exact hs
        have e1 : t.data.toList = textL (linesAll L) := by
          rw [← e]
          show (textL (linesAll L)).toArray.toList = _
          rw [List.toList_toArray]
        obtain ⟨x', y', hr⟩ := run_all L [] [] [] fun a ha => ⟨List.all_eq_true.1 hm a ha, hw a ha⟩
        rw [List.nil_append] at hr
        have h1 : runL zeroR (linesB t.data.toList) = some ⟨L, x', y', false⟩ := by rw [e1, linesB_text (linesAll_no10 L)]; exact hr
        have h2 : (linesF t.data.toList).2 = [] := by rw [e1, lines_text _ (linesAll_no10 L)]
        rw [parse_whole (by omega) h1 h2]
        dsimp only
        rw [if_neg (by simp), if_neg hl]
  · cases h
/-! sizes -/
theorem tail_len : ∀ (l : List Int), (∀ x ∈ l, 0 ≤ x ∧ x ≤ 18446744073709551615) → (tailL l).length ≤ 21 * l.length
  | [], _ => Nat.zero_le _
  | x :: l, h => by
    have ih := tail_len l fun y hy => h y (by simp [hy])
    have h1 := h x (by simp)
    have h2 : (decDigits x.toNat).length ≤ 20 := by
      have := numT_len x.toNat (by omega)
      rwa [show (numT x.toNat).data.toList = decDigits x.toNat from by show (decDigits x.toNat).toArray.toList = _; rw [List.toList_toArray]] at this
    have e : tailL (x :: l) = 32 :: decDigits x.toNat ++ tailL l := rfl
    rw [e]
    simp only [List.length_append, List.length_cons]
    omega
theorem lineT_len (p : ByteArray) (l : List Int) (h : ∀ x ∈ l, 0 ≤ x ∧ x ≤ 18446744073709551615) : (lineT p l).size ≤ p.size + 21 * l.length := by
  rw [← size_list, lineT_list, List.length_append, size_list]
  have := tail_len l h
  omega
theorem linesA_len {a : Ask} (hm : mayA a = true) (hw : AskW a) : (linesA a).length ≤ 18 ∧ ∀ s ∈ linesA a, s.size ≤ 11000 := by
  obtain ⟨hk, h1, h2, h3, h4, h5⟩ := may_parts hm
  refine ⟨by simp [linesA]; omega, fun s hs => ?_⟩
  unfold linesA at hs
  rcases List.mem_cons.1 hs with rfl | hs
  · have := lineT_len inW a.args hw.args
    have e : inW.size = 2 := rfl
    omega
  · rcases List.mem_append.1 hs with hs | hs
    · obtain ⟨ws, hws, rfl⟩ := List.mem_map.1 hs
      have := lineT_len withW ws (hw.regs ws hws)
      have := shortB_len h5 ws hws
      have e : withW.size = 4 := rfl
      omega
    · rw [List.mem_singleton] at hs
      subst hs
      have hst := hw.st
      unfold askedT
      split
      · have := lineT_len srcW [a.fu] (by simp; omega)
        have e : srcW.size = 6 := rfl
        simp at this
        omega
      · split
        · have := lineT_len macW [a.st, a.fu] (by simp; omega)
          have e : macW.size = 7 := rfl
          simp at this
          omega
        · have := lineT_len leakW [a.st, a.fu] (by simp; omega)
          have e : leakW.size = 4 := rfl
          simp at this
          omega
theorem textL_len (M : Nat) : ∀ (ls : List ByteArray), (∀ s ∈ ls, s.size ≤ M) → (textL ls).length ≤ ls.length * (M + 1)
  | [], _ => Nat.zero_le _
  | s :: ls, h => by
    have ih := textL_len M ls fun x hx => h x (by simp [hx])
    have h1 := h s (by simp)
    have e : textL (s :: ls) = nlL s ++ textL ls := rfl
    have e2 : (nlL s).length = s.size + 1 := by unfold nlL; rw [List.length_append, size_list]; rfl
    rw [e, List.length_append, e2, List.length_cons, Nat.succ_mul]
    omega
theorem linesAll_len : ∀ (L : List Ask), (∀ a ∈ L, mayA a = true ∧ AskW a) → (linesAll L).length ≤ 18 * L.length ∧ ∀ s ∈ linesAll L, s.size ≤ 11000
  | [], _ => ⟨Nat.zero_le _, fun s hs => by cases hs⟩
  | a :: L, h => by
    obtain ⟨h1, h2⟩ := linesAll_len L fun b hb => h b (by simp [hb])
    obtain ⟨m, w⟩ := h a (by simp)
    obtain ⟨h3, h4⟩ := linesA_len m w
    have e : linesAll (a :: L) = linesA a ++ linesAll L := rfl
    rw [e]
    refine ⟨by rw [List.length_append, List.length_cons]; omega, fun s hs => ?_⟩
    rcases List.mem_append.1 hs with hs | hs
    · exact h4 s hs
    · exact h2 s hs
/-- a text that has been told so far is not too long -/
theorem text_part {L : List Ask} {i : Nat} {a : Ask} (hL : L.length ≤ 100) (h : ∀ a ∈ L, mayA a = true ∧ AskW a) (hi : L[i]? = some a) (k : Nat) : (textL (linesAll (L.take i) ++ (linesA a).take k)).length ≤ 20000000 := by
  have hlt := (List.getElem?_eq_some_iff.1 hi).1
  obtain ⟨h1, h2⟩ := linesAll_len (L.take i) fun b hb => h b (List.mem_of_mem_take hb)
  obtain ⟨m, w⟩ := h a (List.mem_of_getElem? hi)
  obtain ⟨h3, h4⟩ := linesA_len m w
  have := textL_len 11000 (linesAll (L.take i) ++ (linesA a).take k) (fun s hs => by
    rcases List.mem_append.1 hs with hs | hs
    · exact h2 s hs
    · exact h4 s (List.mem_of_mem_take hs))
  rw [List.length_take] at h1
  have h5 : (linesAll (L.take i) ++ (linesA a).take k).length ≤ 18 * 100 + 18 := by
    rw [List.length_append, List.length_take]
    omega
  omega
theorem text_whole {L : List Ask} (hL : L.length ≤ 100) (h : ∀ a ∈ L, mayA a = true ∧ AskW a) : (scrT L).size ≤ 20000000 := by
  obtain ⟨h1, h2⟩ := linesAll_len L h
  have := textL_len 11000 (linesAll L) h2
  have e : (scrT L).size = (textL (linesAll L)).length := by show (textL (linesAll L)).toArray.size = _; simp
  omega
end Go.Proofs.YtkbmckmlnphpmaaGreatDoor
namespace Go.Proofs.YtkbmckmlnphpmaaGreatDoor
open Go.RowKit Go.Lib Go.Shelf

theorem und112 : Tryz.prog.underlying 112 = some (.pointer 114) := by kernel_rfl
theorem und157 : Tryz.prog.underlying 157 = some .unsafePointer := by kernel_rfl
theorem und73 : Tryz.prog.underlying 73 = some (.slice 5) := by kernel_rfl
theorem und9 : Tryz.prog.underlying 9 = some .string := by kernel_rfl
theorem size114 : (Tryz.prog.info? 114).map (·.size) = some 2 := by kernel_rfl
theorem byte5 : (Tryz.prog.info? 5).map (fun i => (i.zero, i.size, i.bytes)) = some (some (.int .u8 0), 1, 1) := by kernel_rfl

/-- what does not lie in block b, and is no row of bytes, stays -/
def Hold (b : Nat) (w w' : World) : Prop := w.heap.size ≤ w'.heap.size ∧ ∀ k o, k ≠ b → w.heap[k]? = some o → (∀ cs fr, o ≠ .cells cs 5 fr) → w'.heap[k]? = some o
theorem Hold.refl (b : Nat) (w : World) : Hold b w w := ⟨Nat.le_refl _, fun _ _ _ h _ => h⟩
theorem Hold.trans {b : Nat} {w w1 w2 : World} (h : Hold b w w1) (k : Hold b w1 w2) : Hold b w w2 := ⟨Nat.le_trans h.1 k.1, fun i o hi ho hn => k.2 i o hi (h.2 i o hi ho hn) hn⟩
theorem Hold.set (b o : Nat) (w : World) (v : Value) : Hold b w (w.setCell ⟨b, o, none⟩ v) := ⟨by simp [World.setCell], fun k _ hk ho _ => (Below.heap_setCell _ _ _ _ (fun e => hk e)).trans ho⟩
theorem Hold.grown {b B n : Nat} {w w' : World} {v : Value} {xs : List Value} (hown : w.ownsRow B 5 1 v n xs) (hg : w.grownBy w' v.ownBlock) : Hold b w w' := by
  refine ⟨hg.size, fun k o _ ho hn => (hg.block k (blk_lt ho) fun e => ?_).trans ho⟩
  rcases hown.2 with ⟨rfl, _⟩ | ⟨g, cap, cur, rfl, _, hh, _⟩
  · simp [Value.ownBlock] at e
  · simp only [Value.ownBlock, Option.some.injEq] at e
    subst e
    rw [hh] at ho
    cases ho
    exact hn _ _ rfl

set_option maxHeartbeats 1000000 in
set_option maxRecDepth 100000 in
theorem copyCheck_used (b : Nat) (w : World) (h0 : w.cell? ⟨b, 0, none⟩ = some (.pointer (some ⟨b, 0, none⟩))) :
    Calls Tryz.prog 99 #[.pointer (some ⟨b, 0, none⟩)] w fun e w' => e = .returned (.tuple #[]) ∧ w' = w := by
  obtain ⟨j, hj, _⟩ := Option.map_eq_some_iff.1 size114
  go_enter Tryz.func99, Tryz.ntmps99
  go_wp2
  rw [Lib.run_neq_ptr_same w _ und112 hj]
  go_wp2
  go_end0
  exact ⟨rfl, rfl⟩

set_option maxHeartbeats 1000000 in
set_option maxRecDepth 100000 in
theorem copyCheck_fresh (b : Nat) (w : World) (h0 : w.cell? ⟨b, 0, none⟩ = some (.pointer none)) (hsh : w.shape? b = some (114, 2)) (hfz : w.frozen? ⟨b, 0, none⟩ = false) :
    Calls Tryz.prog 99 #[.pointer (some ⟨b, 0, none⟩)] w fun e w' => e = .returned (.tuple #[]) ∧ w' = w.setCell ⟨b, 0, none⟩ (.pointer (some ⟨b, 0, none⟩)) := by
  obtain ⟨j, hj, hjs⟩ := Option.map_eq_some_iff.1 size114
  go_enter Tryz.func99, Tryz.ntmps99
  go_wp2
  rw [Lib.run_to_unsafe w ⟨b, 0, none⟩ und112 und157 hj (by rw [hjs]; decide) hsh (Nat.zero_lt_succ 1)]
  simp only [Result.andThen]
  rw [Oper.upon_value]
  go_wp2
  rw [run_callFunc_extern Tryz.func119 (by kernel_rfl) (by kernel_rfl) (by kernel_rfl) (e := Extern.AbiNoEscape.same) (by kernel_rfl)]
  rw [Lib.run_noEscape]
  simp only [Result.andThen]
  rw [Oper.upon_value]
  go_wp2
  rw [Lib.run_from_unsafe w ⟨b, 0, none⟩ und157 und112 hj hsh (by kernel_rfl)]
  simp only [Result.andThen]
  rw [Oper.upon_value]
  go_wp2
  go_end0
  exact ⟨rfl, rfl⟩

theorem copyCheck_any (B b : Nat) (bs : List Value) (w : World) (h : Lib.IsBuilder 114 5 B b bs w) :
    Calls Tryz.prog 99 #[.pointer (some ⟨b, 0, none⟩)] w fun e w' => e = .returned (.tuple #[]) ∧ (Lib.BuilderAt 114 5 B b (.pointer (some ⟨b, 0, none⟩)) bs w' ∧ Below B w w') ∧ Hold b w w' := by
  rcases h with h | h
  · refine (copyCheck_fresh b w h.cell0 h.shape h.frozen0).mono ?_
    rintro e w' ⟨rfl, rfl⟩
    exact ⟨rfl, ⟨h.used _, (Below.refl B w).setCell (p := ⟨b, 0, none⟩) h.1 _⟩, Hold.set b 0 w _⟩
  · refine (copyCheck_used b w h.cell0).mono ?_
    rintro e w' ⟨rfl, rfl⟩
    exact ⟨rfl, ⟨h, Below.refl B _⟩, Hold.refl b _⟩

set_option maxHeartbeats 2000000 in
set_option maxRecDepth 100000 in
theorem writeString_any (B b : Nat) (bs : List Value) (s : ByteArray) (w : World) (h : Lib.IsBuilder 114 5 B b bs w) (hlen : bs.length + s.size ≤ 140737488355328) (hBw : B ≤ w.heap.size) :
    Calls Tryz.prog 70 #[.pointer (some ⟨b, 0, none⟩), .string s] w fun e w' => e = .returned (.tuple #[.int .i64 s.size, .nilIface]) ∧ (Lib.BuilderAt 114 5 B b (.pointer (some ⟨b, 0, none⟩)) (bs ++ Lib.strCells s) w' ∧ Below B w w' ∧ Hold b w w') := by
  obtain ⟨i0, hi, hz0, hz1, hz2⟩ := info_parts byte5
  go_enter Tryz.func70, Tryz.ntmps70
  go_wp2_with (go_at_call 99; refine (copyCheck_any B b bs _ h).mono ?_)
  rintro e w1 ⟨rfl, ⟨h1, hb1⟩, hh1⟩
  obtain ⟨hB, v, hbk, hown, hne⟩ := h1
  have c0 : w1.cell? ⟨b, 0, none⟩ = some (.pointer (some ⟨b, 0, none⟩)) := by rw [Lib.cell_of_heap hbk]; rfl
  have c1 : w1.cell? ⟨b, 1, none⟩ = some v := by rw [Lib.cell_of_heap hbk]; rfl
  go_wp2_with (at_builtin; refine Lib.wpList_append_own_string _ rfl _ _ 73 9 rfl B 5 i0 und73 und9 hi hz0 hz1 hz2 _ _ _ rfl hown s rfl ?c3 ?c4 ?c5 ?_)
  case c3 => unfold maxLen; omega
  case c4 => omega
  case c5 => have := hb1.size; omega
  intro v' w2 hown' hgrow _
  have hlt : b < w1.heap.size := blk_lt hbk
  have hb2 : w2.heap[b]? = some (.cells #[.pointer (some ⟨b, 0, none⟩), v] 114 (0, 0)) := by
    rw [hgrow.block b hlt (fun e => hne e.symm)]
    exact hbk
  have d0 : w2.cell? ⟨b, 0, none⟩ = some (.pointer (some ⟨b, 0, none⟩)) := by rw [Lib.cell_of_heap hb2]; rfl
  have d1 : w2.cell? ⟨b, 1, none⟩ = some v := by rw [Lib.cell_of_heap hb2]; rfl
  have f1 : w2.frozen? ⟨b, 1, none⟩ = false := Lib.frozen_of_heap hb2 1
  obtain ⟨ao, n', cap, rfl⟩ : ∃ ao n' cap, v' = .slice ao n' cap := by
    rcases hown'.2 with ⟨hv, _⟩ | ⟨g, cap, cur, hv, _⟩
    · exact ⟨_, _, _, hv⟩
    · exact ⟨_, _, _, hv⟩
  go_wp2
  go_ret2
  refine ⟨rfl, ?_, ?_, ?_⟩
  · exact Lib.BuilderAt.put (T := 114) (e := 5) hB hb2 (bs' := bs ++ Lib.strCells s) (by simpa [Lib.strCells_length] using hown') (by decide)
  · exact (hb1.grown hgrow (by have := hb1.size; omega) (fun k hk => (hown.lt k hk).1)).setCell (p := ⟨b, 1, none⟩) hB _
  · exact (hh1.trans (Hold.grown hown hgrow)).trans (Hold.set b 1 _ _)

theorem und139 : Tryz.prog.underlying 139 = some (.pointer 5) := by kernel_rfl
theorem cells5 : Tryz.prog.cellsOf 5 = 1 := by kernel_rfl
theorem Hold.drew {b : Nat} {w w' : World} (h : Hold b w w') : Hold b w w'.drew := h
theorem Hold.alloc {b : Nat} {w w' : World} (h : Hold b w w') (o : Obj) : Hold b w (w'.alloc o) := ⟨by have := h.1; simp; omega, fun k x hk hx hn => (Lib.alloc_old w' o k (blk_lt (h.2 k x hk hx hn))).trans (h.2 k x hk hx hn)⟩
theorem Hold.freeze {b g : Nat} {cur : Array Value} {fr : Nat × Nat} (w : World) (hg : w.heap[g]? = some (.cells cur 5 fr)) (n : Nat) : Hold b w (w.freeze ⟨g, 0, none⟩ n) := by
  unfold World.freeze
  split
  · exact Hold.refl _ _
  · refine ⟨by simp, fun k o hk ho hn => ?_⟩
    have hne : k ≠ g := by
      rintro rfl
      rw [hg] at ho
      cases ho
      exact hn _ _ rfl
    simp only [Array.getElem?_modify]
    rw [if_neg (fun e => hne e.symm)]
    exact ho

set_option maxHeartbeats 1000000 in
set_option maxRecDepth 100000 in
theorem string_some (B b : Nat) (l : List UInt8) (w : World) (h : Lib.IsBuilder 114 5 B b (Lib.byteCells l) w) (h0 : l ≠ []) :
    Calls Tryz.prog 72 #[.pointer (some ⟨b, 0, none⟩)] w fun e w' => e = .returned (.string ⟨l.toArray⟩) ∧ Below B w w' ∧ Hold b w w' := by
  obtain ⟨p, hB, v, hbk, hown, hne⟩ : ∃ p, Lib.BuilderAt 114 5 B b p (Lib.byteCells l) w := by
    rcases h with h | h
    · exact ⟨_, h⟩
    · exact ⟨_, h⟩
  have hl0 : l.length ≠ 0 := by simpa using h0
  rw [Lib.byteCells_length] at hown
  obtain ⟨g, cap, cur, rfl, hbg, hg, hnc, hcm, hcs, htake⟩ : ∃ g cap cur, v = .slice (some ⟨g, 0, none⟩) l.length cap ∧ B ≤ g ∧ w.heap[g]? = some (.cells cur 5 (0, 0)) ∧ l.length ≤ cap ∧ cap ≤ maxLen ∧ cur.size = cap * 1 ∧ cur.toList.take (l.length * 1) = Lib.byteCells l := by
    rcases hown.2 with ⟨_, hz⟩ | ⟨g, cap, cur, hv, r⟩
    · exact absurd hz hl0
    · exact ⟨g, cap, cur, hv, r⟩
  have c1 : w.drew.cell? ⟨b, 1, none⟩ = some (.slice (some ⟨g, 0, none⟩) l.length cap) := by
    have : w.drew.heap[b]? = some (.cells #[p, .slice (some ⟨g, 0, none⟩) l.length cap] 114 (0, 0)) := hbk
    rw [Lib.cell_of_heap this]; rfl
  have hg' : w.drew.heap[g]? = some (.cells cur 5 (0, 0)) := hg
  have hSD : (Builtin.unsafeSliceData_ #[73] 139 #[.slice (some ⟨g, 0, none⟩) l.length cap]).run Tryz.prog w.drew = .ok (.pointer (some ⟨g, 0, none⟩)) w.drew :=
    Lib.run_unsafeSliceData_row _ _ _ _ _ _ (by omega)
  have hUS : (Builtin.unsafeString_ #[139, 3] 9 #[.pointer (some ⟨g, 0, none⟩), .int .i64 l.length]).run Tryz.prog w.drew = .ok (.string ⟨l.toArray⟩) (w.drew.freeze ⟨g, 0, none⟩ l.length) := by
    refine Lib.run_unsafeString_row w.drew 139 3 9 5 und139 cells5 g cur.size (by simp [World.shape?, hg']) l h0 (by omega) (by unfold maxLen at hcm; omega) ?_
    intro j x hx
    have := hown.cells (g := g) rfl j (.int .u8 x.toNat) (by simp [Lib.byteCells, hx])
    exact this
  have hfin : Below B w (w.drew.freeze ⟨g, 0, none⟩ l.length) ∧ Hold b w (w.drew.freeze ⟨g, 0, none⟩ l.length) := ⟨Lib.below_freeze (Below.drew (Below.refl B w)) (p := ⟨g, 0, none⟩) hbg _, (Hold.drew (Hold.refl b w)).trans (Hold.freeze w.drew hg' l.length)⟩
  have hfin := Lib.hid hfin
  clear hg' hown h htake
  have mixed : Tryz.prog.follows Departure.mixedOrders = true := by kernel_rfl
  go_enter Tryz.func72, Tryz.ntmps72
  go_wp2
  go_region_o
  all_goals (go_wp2; go_ret; exact ⟨rfl, hfin.out⟩)

theorem unsafeString_none (W : World) (q : Option Addr) : (Builtin.unsafeString_ #[139, 3] 9 #[.pointer q, .int .i64 0]).run Tryz.prog W = .ok (.string .empty) W := Lib.run_unsafeString_none W _ _ _ q

set_option maxHeartbeats 2000000 in
set_option maxRecDepth 100000 in
theorem string_nil (B b : Nat) (p : Value) (w : World) (hbk : w.heap[b]? = some (.cells #[p, .slice none 0 0] 114 (0, 0))) :
    Calls Tryz.prog 72 #[.pointer (some ⟨b, 0, none⟩)] w fun e w' => e = .returned (.string ⟨#[]⟩) ∧ Below B w w' ∧ Hold b w w' := by
  have hUS := unsafeString_none
  have c1 : w.drew.cell? ⟨b, 1, none⟩ = some (.slice none 0 0) := by
    have : w.drew.heap[b]? = some (.cells #[p, .slice none 0 0] 114 (0, 0)) := hbk
    rw [Lib.cell_of_heap this]; rfl
  have hSD : (Builtin.unsafeSliceData_ #[73] 139 #[.slice none 0 0]).run Tryz.prog w.drew = .ok (.pointer none) w.drew := rfl
  have mixed : Tryz.prog.follows Departure.mixedOrders = true := by kernel_rfl
  go_enter Tryz.func72, Tryz.ntmps72
  go_wp2
  go_region_o
  all_goals (go_wp2; go_ret; exact ⟨rfl, Below.drew (Below.refl B w), (Hold.refl b w).drew⟩)

set_option maxHeartbeats 2000000 in
set_option maxRecDepth 100000 in
theorem string_noroom (B b g : Nat) (p : Value) (cur : Array Value) (w : World) (hBw : B ≤ w.heap.size) (hbk : w.heap[b]? = some (.cells #[p, .slice (some ⟨g, 0, none⟩) 0 0] 114 (0, 0))) (hg : w.heap[g]? = some (.cells cur 5 (0, 0))) :
    Calls Tryz.prog 72 #[.pointer (some ⟨b, 0, none⟩)] w fun e w' => e = .returned (.string ⟨#[]⟩) ∧ Below B w w' ∧ Hold b w w' := by
  have hUS := unsafeString_none
  have hlt : b < w.heap.size := blk_lt hbk
  have c1 : w.drew.cell? ⟨b, 1, none⟩ = some (.slice (some ⟨g, 0, none⟩) 0 0) := by
    have : w.drew.heap[b]? = some (.cells #[p, .slice (some ⟨g, 0, none⟩) 0 0] 114 (0, 0)) := hbk
    rw [Lib.cell_of_heap this]; rfl
  have hSD : (Builtin.unsafeSliceData_ #[73] 139 #[.slice (some ⟨g, 0, none⟩) 0 0]).run Tryz.prog w.drew = .ok (.pointer (some ⟨w.drew.heap.size, 0, none⟩)) (w.drew.alloc (.view ⟨g, 0, none⟩ 5)) :=
    Lib.run_unsafeSliceData_zero w.drew _ _ 5 und139 ⟨g, 0, none⟩ 0 (5, cur.size) (by have hg' : w.drew.heap[g]? = some (.cells cur 5 (0, 0)) := hg; simp [World.shape?, hg'])
  have c2 : (w.drew.alloc (.view ⟨g, 0, none⟩ 5)).cell? ⟨b, 1, none⟩ = some (.slice (some ⟨g, 0, none⟩) 0 0) := by
    have : (w.drew.alloc (.view ⟨g, 0, none⟩ 5)).heap[b]? = _ := (Lib.alloc_old w.drew _ b hlt).trans hbk
    rw [Lib.cell_of_heap this]; rfl
  have c3 : (w.alloc (.view ⟨g, 0, none⟩ 5)).drew.cell? ⟨b, 1, none⟩ = some (.slice (some ⟨g, 0, none⟩) 0 0) := c2
  have c0 : w.cell? ⟨b, 1, none⟩ = some (.slice (some ⟨g, 0, none⟩) 0 0) := c1
  have mixed : Tryz.prog.follows Departure.mixedOrders = true := by kernel_rfl
  go_enter Tryz.func72, Tryz.ntmps72
  go_wp2
  go_region_o
  all_goals (go_wp2; go_ret; exact ⟨rfl, (Below.drew (Below.refl B w)).alloc hBw _, ((Hold.refl b w).drew).alloc _⟩)

set_option maxHeartbeats 2000000 in
set_option maxRecDepth 100000 in
theorem string_room (B b g cap : Nat) (p : Value) (w : World) (hc0 : cap ≠ 0) (hbk : w.heap[b]? = some (.cells #[p, .slice (some ⟨g, 0, none⟩) 0 cap] 114 (0, 0))) :
    Calls Tryz.prog 72 #[.pointer (some ⟨b, 0, none⟩)] w fun e w' => e = .returned (.string ⟨#[]⟩) ∧ Below B w w' ∧ Hold b w w' := by
  have hUS := unsafeString_none
  have c1 : w.drew.cell? ⟨b, 1, none⟩ = some (.slice (some ⟨g, 0, none⟩) 0 cap) := by
    have : w.drew.heap[b]? = some (.cells #[p, .slice (some ⟨g, 0, none⟩) 0 cap] 114 (0, 0)) := hbk
    rw [Lib.cell_of_heap this]; rfl
  have hSD : (Builtin.unsafeSliceData_ #[73] 139 #[.slice (some ⟨g, 0, none⟩) 0 cap]).run Tryz.prog w.drew = .ok (.pointer (some ⟨g, 0, none⟩)) w.drew :=
    Lib.run_unsafeSliceData_row _ _ _ _ _ _ hc0
  clear hc0
  have mixed : Tryz.prog.follows Departure.mixedOrders = true := by kernel_rfl
  go_enter Tryz.func72, Tryz.ntmps72
  go_wp2
  go_region_o
  all_goals (go_wp2; go_ret; exact ⟨rfl, Below.drew (Below.refl B w), (Hold.refl b w).drew⟩)

theorem string_any (B b : Nat) (l : List UInt8) (w : World) (h : Lib.IsBuilder 114 5 B b (Lib.byteCells l) w) (hBw : B ≤ w.heap.size) :
    Calls Tryz.prog 72 #[.pointer (some ⟨b, 0, none⟩)] w fun e w' => e = .returned (.string ⟨l.toArray⟩) ∧ Below B w w' ∧ Hold b w w' := by
  cases l with
  | nil =>
    obtain ⟨p, hB, v, hbk, hown, hne⟩ : ∃ p, Lib.BuilderAt 114 5 B b p [] w := by
      rcases h with h | h
      · exact ⟨_, h⟩
      · exact ⟨_, h⟩
    rcases hown.2 with ⟨rfl, _⟩ | ⟨g, cap, cur, rfl, hbg, hg, _, _, _, _⟩
    · exact string_nil B b p w hbk
    · by_cases hc0 : cap = 0
      · subst hc0
        exact string_noroom B b g p cur w hBw hbk hg
      · exact string_room B b g cap p w hc0 hbk
  | cons x r => exact string_some B b (x :: r) w h (by simp)
end Go.Proofs.YtkbmckmlnphpmaaGreatDoor
namespace Go.Proofs.YtkbmckmlnphpmaaGreatDoor
open Go.RowKit Go.Lib Go.Shelf

/-- a slice that reads as askings, none of them large -/
def AsksK (w : World) (A : Option Addr) (L : List Ask) : Prop :=
  0 < L.length → ∃ blk off, A = some ⟨blk, off, none⟩ ∧ ∀ (i : Nat) (a : Ask), L[i]? = some a → ∃ A1 c1 A2 c2, (∀ j v, (askCells a A1 c1 A2 c2)[j]? = some v → w.cell? ⟨blk, off + i * 5 + j, none⟩ = some v) ∧ AskOK w a A1 A2
theorem AsksK.below {w w' : World} {A : Option Addr} {L : List Ask} (h : AsksK w A L) (hb : Below w.heap.size w w') : AsksK w' A L := by
  intro hn
  obtain ⟨blk, off, e, hc⟩ := h hn
  refine ⟨blk, off, e, fun i a hi => ?_⟩
  obtain ⟨A1, c1, A2, c2, h1, h2⟩ := hc i a hi
  exact ⟨A1, c1, A2, c2, fun j v hj => (hb.cell (p := ⟨blk, off + i * 5 + j, none⟩) (cell_some_lt (h1 j v hj))).trans (h1 j v hj), h2.below hb⟩
theorem AsksK.at_ {w : World} {A : Option Addr} {L : List Ask} (h : AsksK w A L) {k : Nat} (hk : k < L.length) : ∃ blk off a A1 c1 A2 c2, A = some ⟨blk, off, none⟩ ∧ L[k]? = some a ∧ AskOK w a A1 A2 ∧
    w.cell? ⟨blk, off + k * 5, none⟩ = some (.int .i64 a.k) ∧ w.cell? ⟨blk, off + k * 5 + 1, none⟩ = some (.slice A1 a.args.length c1) ∧ w.cell? ⟨blk, off + k * 5 + 2, none⟩ = some (.slice A2 a.regs.length c2) ∧ w.cell? ⟨blk, off + k * 5 + 3, none⟩ = some (.int .u64 a.st) ∧ w.cell? ⟨blk, off + k * 5 + 4, none⟩ = some (.int .i64 a.fu) := by
  obtain ⟨blk, off, e, hc⟩ := h (by omega)
  have e1 : L[k]? = some L[k] := List.getElem?_eq_getElem hk
  obtain ⟨A1, c1, A2, c2, h1, h2⟩ := hc k _ e1
  exact ⟨blk, off, _, A1, c1, A2, c2, e, e1, h2, h1 0 _ rfl, h1 1 _ rfl, h1 2 _ rfl, h1 3 _ rfl, h1 4 _ rfl⟩

theorem may_ok (a : Ask) (A1 A2 : Option Addr) (c1 c2 : Nat) (w : World) (h : AskOK w a A1 A2) :
    Calls Tryz.prog 34 #[.agg #[.int .i64 a.k, .slice A1 a.args.length c1, .slice A2 a.regs.length c2, .int .u64 a.st, .int .i64 a.fu]] w (BoolPost (mayA a) w) :=
  may_any a.k A1 A2 a.args.length c1 a.regs.length c2 a.regs a.st a.fu w rfl h.2.1 h.2.2.2 h.2.2.1
set_option maxRecDepth 100000 in
set_option maxHeartbeats 1000000 in
theorem notMay_any (a : Ask) (A1 A2 : Option Addr) (c1 c2 : Nat) (b : Nat) (w : World) (hA : AskOK w a A1 A2) (hb : w.cell? ⟨b, 0, none⟩ = some (.func (.func 34) #[] #[])) : Calls Tryz.prog 98 #[.agg #[.int .i64 a.k, .slice A1 a.args.length c1, .slice A2 a.regs.length c2, .int .u64 a.st, .int .i64 a.fu], .pointer (some ⟨b, 0, none⟩)] w fun e w' => e = .returned (.bool (!mayA a)) ∧ Below w.heap.size w w' := by
  have hb0 := Lib.hid ((Below.refl w.heap.size w).alloc (Nat.le_refl _) (.cells #[.int .i64 a.k, .slice A1 a.args.length c1, .slice A2 a.regs.length c2, .int .u64 a.st, .int .i64 a.fu] 42))
  have hk := Lib.hid (may_ok a A1 A2 c1 c2 (w.alloc (.cells #[.int .i64 a.k, .slice A1 a.args.length c1, .slice A2 a.regs.length c2, .int .u64 a.st, .int .i64 a.fu] 42)) (hA.below hb0.out))
  have hlt := cell_some_lt hb
  generalize mayA a = u at hk ⊢
  clear hA
  go_enter Tryz.func98, Tryz.ntmps98
  go_wp2_with fail
  refine hk.out.mono ?_
  rintro e w1 ⟨rfl, hb1⟩
  have hfin := Lib.hid (Below.next hb0.out hb1)
  clear hb1
  cases u
  all_goals
    go_wp2
    go_ret
    exact ⟨rfl, hfin.out⟩
set_option maxRecDepth 100000 in
set_option maxHeartbeats 2000000 in
theorem idxMay_any (A : Option Addr) (n c b : Nat) (L : List Ask) (w : World) (hb : w.cell? ⟨b, 0, none⟩ = some (.func (.func 34) #[] #[])) (hL : L.length = n) (hA : AsksK w A L) (hn : n ≤ 4000000) :
    Calls Tryz.prog 118 #[.slice A n c, .func (.func 98) #[] #[.pointer (some ⟨b, 0, none⟩)]] w (IdxPost (L.all mayA) w) := by
  have hk := Lib.hid fun a A1 A2 c1 c2 W hA hW => notMay_any a A1 A2 c1 c2 b W hA hW
  have hL' := Lib.hid hL
  have hA' := Lib.hid hA
  have hbl := cell_some_lt hb
  have hb' := Lib.hid hb
  clear hL hA hb
  go_enter Tryz.func118, Tryz.ntmps118
  go_wp2_with fail
  go_loopg [8] n (fun g s8 wr => ∃ k : Nat, k + g = n ∧ s8 = .int .i64 k ∧ (∀ (i : Nat) (x : Ask), i < k → L[i]? = some x → mayA x = true) ∧ Below w.heap.size w wr)
  case atStart => exact ⟨0, by omega, rfl, fun i x h => absurd h (by omega), Below.refl _ _⟩
  case round =>
    obtain ⟨k, hkg, rfl, hall, hbr⟩ := hrel
    have hall' := Lib.hid hall
    have hbr' := Lib.hid hbr
    clear hall hbr
    cases gk with
    | zero =>
      have e0 : ¬ ((k : Int) < (n : Int)) := by omega
      have hs := Lib.hid (show L.all mayA = true by
        rw [List.all_eq_true]
        intro x hx
        obtain ⟨i, hi⟩ := List.getElem?_of_mem hx
        exact hall'.out i x (by have := (List.getElem?_eq_some_iff.1 hi).1; have := hL'.out; omega) hi)
      go_wp2
      go_ret
      exact ⟨-1, rfl, fun _ => rfl, (fun h => by rw [hs.out] at h; cases h), hbr'.out⟩
    | succ g =>
      have e0 : (k : Int) < (n : Int) := by omega
      obtain ⟨blk, off, x, A1, c1, A2, c2, rfl, hx, hok, v0, v1, v2, v3, v4⟩ := (hA'.out.below hbr'.out).at_ (k := k) (by rw [hL'.out]; omega)
      have hx' := Lib.hid hx
      have hk2 := Lib.hid (hk.out x A1 A2 c1 c2 wr hok ((hbr'.out.cell (p := ⟨b, 0, none⟩) hbl).trans hb'.out))
      clear hx hok
      obtain ⟨t, ht⟩ : ∃ t, mayA x = t := ⟨_, rfl⟩
      rw [ht] at hk2
      have ht' := Lib.hid ht
      clear ht
      go_wp2_with fail
      refine hk2.out.mono ?_
      rintro e w1 ⟨rfl, hb1⟩
      have hb1' := Lib.hid (Below.next hbr'.out hb1)
      clear hb1
      cases t
      · have hs := Lib.hid (show L.all mayA = false by
          rw [List.all_eq_false]
          exact ⟨x, List.mem_of_getElem? hx'.out, by rw [ht'.out]; simp⟩)
        go_wp2
        go_ret
        exact ⟨k, rfl, (fun h => by rw [hs.out] at h; cases h), (fun _ => by omega), hb1'.out⟩
      · go_wp2
        go_roundg g
        case measure => omega
        case rel =>
          refine ⟨k + 1, by omega, by go_num, fun i y hi hv => ?_, hb1'.out⟩
          rcases Nat.lt_or_ge i k with h | h
          · exact hall'.out i y h hv
          · obtain rfl : i = k := by omega
            rw [hx'.out] at hv
            cases hv
            exact ht'.out
set_option maxRecDepth 100000 in
set_option maxHeartbeats 1000000 in
theorem hasMay_any (A : Option Addr) (n c b : Nat) (L : List Ask) (w : World) (hb : w.cell? ⟨b, 0, none⟩ = some (.func (.func 34) #[] #[])) (hL : L.length = n) (hA : AsksK w A L) (hn : n ≤ 4000000) :
    Calls Tryz.prog 97 #[.slice A n c, .func (.func 98) #[] #[.pointer (some ⟨b, 0, none⟩)]] w (BoolPost (!L.all mayA) w) := by
  have hk := Lib.hid (idxMay_any A n c b L w hb hL hA hn)
  generalize L.all mayA = t at hk ⊢
  clear hL hA
  go_enter Tryz.func97, Tryz.ntmps97
  go_wp2_with fail
  refine hk.out.mono ?_
  rintro e w1 ⟨v, rfl, h1, h2, hb1⟩
  have hb1' := Lib.hid hb1
  clear hb1
  cases t
  · have e0 : 0 ≤ v := h2 rfl
    have e0' := Lib.hid e0
    clear h1 h2
    go_wp2
    go_ret
    exact ⟨ret_bool (by simp [e0'.out]), hb1'.out⟩
  · have e0 : ¬ 0 ≤ v := by have := h1 rfl; omega
    have e0' := Lib.hid e0
    clear h1 h2
    go_wp2
    go_ret
    exact ⟨ret_bool (by simp [e0'.out]), hb1'.out⟩
set_option maxRecDepth 100000 in
set_option maxHeartbeats 1000000 in
theorem allMay_any (A : Option Addr) (n c : Nat) (L : List Ask) (w : World) (hL : L.length = n) (hA : AsksK w A L) (hn : n ≤ 4000000) :
    Calls Tryz.prog 69 #[.slice A n c, .func (.func 34) #[] #[]] w (BoolPost (L.all mayA) w) := by
  have hb0 := Lib.hid ((Below.refl w.heap.size w).alloc (Nat.le_refl _) (.cells #[.func (.func 34) #[] #[]] 65))
  have hk := Lib.hid (hasMay_any A n c w.heap.size L (w.alloc (.cells #[.func (.func 34) #[] #[]] 65)) (by rw [blk_cell (heap_alloc_new w _)]; rfl) hL (hA.below hb0.out) hn)
  clear hL hA
  generalize L.all mayA = t at hk ⊢
  go_enter Tryz.func69, Tryz.ntmps69
  go_wp2_with fail
  refine hk.out.mono ?_
  rintro e w1 ⟨rfl, hb1⟩
  have hfin := Lib.hid (Below.next hb0.out hb1)
  clear hb1
  cases t
  all_goals
    go_wp2
    go_ret
    exact ⟨rfl, hfin.out⟩
end Go.Proofs.YtkbmckmlnphpmaaGreatDoor
namespace Go.Proofs.YtkbmckmlnphpmaaGreatDoor
open Go.RowKit Go.Lib Go.Shelf

attribute [local go_sem] Oper.semAt_some

/-! marks of loops that are over -/
def mks (Ds : List Nat) : List Deferred := Ds.map fun D => { target := .collected D, args := #[] }
def shutAll : List Nat → World → World
  | [], W => W
  | D :: Ds, W => shutAll Ds (W.putObj D (.deferred none))
theorem leaves_marks {F : Fence} {n : Nat} {P : Program} {fn : Func} {tmps : Array Value} {R : Ending → World → Prop} : ∀ (Ds : List Nat) (W : World), (∀ D ∈ Ds, W.heap[D]? = some (.deferred (some []))) → Ds.Nodup →
    LeavesIn F n P fn tmps R [] .returning (shutAll Ds W) → LeavesInM F n P fn tmps R (mks Ds) .returning W
  | [], W, _, _, h => h
  | D :: Ds, W, hk, hn, h => by
    obtain ⟨h1, h2⟩ := List.nodup_cons.1 hn
    refine ⟨by simp, .inl ⟨D, _, rfl, run_takeDeferred (hk D (by simp)), leaves_marks Ds _ (fun D' hD' => ?_) h2 h⟩⟩
    exact (World.putObj_heap_other (by rintro rfl; exact h1 hD')).trans (hk D' (by simp [hD']))
theorem shut_below {B : Nat} {w : World} : ∀ (Ds : List Nat) (W : World), (∀ D ∈ Ds, B ≤ D) → Below B w W → Below B w (shutAll Ds W)
  | [], W, _, h => h
  | D :: Ds, W, hk, h => shut_below Ds _ (fun D' hD' => hk D' (by simp [hD'])) (below_put h (hk D (by simp)) _)

/-! a text that is being built, as the world grows -/
theorem BuilderAt.go {B b : Nat} {p : Value} {bs : List Value} {W W' : World} (h : Lib.BuilderAt 114 5 B b p bs W) (hb : Below W.heap.size W W') : Lib.BuilderAt 114 5 B b p bs W' := by
  obtain ⟨h1, v, h2, h3, h4⟩ := h
  exact ⟨h1, v, (hb.block b (blk_lt h2)).trans h2, h3.kept (row := none) ⟨hb.os, hb.tape, hb.output, hb.size, fun i hi _ => hb.block i hi⟩ (Classical.em _), h4⟩
theorem BuilderAt.pu {B b l : Nat} {p : Value} {bs : List Value} {W : World} {o : Obj} (h : Lib.BuilderAt 114 5 B b p bs W) (hl : W.heap[l]? = some o) (ho : o.isCells = false) (o' : Obj) : Lib.BuilderAt 114 5 B b p bs (W.putObj l o') := by
  obtain ⟨h1, v, h2, h3, h4⟩ := h
  refine ⟨h1, v, ?_, own_put h3 hl ho o', h4⟩
  have hne : b ≠ l := by
    rintro rfl
    rw [h2] at hl
    cases hl
    cases ho
  exact (World.putObj_heap_other hne).trans h2
theorem IsBuilder.go {B b : Nat} {bs : List Value} {W W' : World} (h : Lib.IsBuilder 114 5 B b bs W) (hb : Below W.heap.size W W') : Lib.IsBuilder 114 5 B b bs W' := h.elim (fun h => .inl (BuilderAt.go h hb)) (fun h => .inr (BuilderAt.go h hb))
theorem IsBuilder.pu {B b l : Nat} {bs : List Value} {W : World} {o : Obj} (h : Lib.IsBuilder 114 5 B b bs W) (hl : W.heap[l]? = some o) (ho : o.isCells = false) (o' : Obj) : Lib.IsBuilder 114 5 B b bs (W.putObj l o') := h.elim (fun h => .inl (BuilderAt.pu h hl ho o')) (fun h => .inr (BuilderAt.pu h hl ho o'))
theorem IsBuilder.cells {B b : Nat} {bs : List Value} {W : World} (h : Lib.IsBuilder 114 5 B b bs W) : ∃ cs, W.heap[b]? = some (.cells cs 114 (0, 0)) := by
  rcases h with ⟨_, v, h, _⟩ | ⟨_, v, h, _⟩
  · exact ⟨_, h⟩
  · exact ⟨_, h⟩
theorem IsBuilder.lo {B b : Nat} {bs : List Value} {W : World} (h : Lib.IsBuilder 114 5 B b bs W) : B ≤ b := by
  rcases h with ⟨h, _⟩ | ⟨h, _⟩ <;> exact h
/-- between two askings -/
structure TxI (w : World) (b : Nat) (ls : List ByteArray) (Ds : List Nat) (W : World) : Prop where
  bd : Lib.IsBuilder 114 5 w.heap.size b (byteCells (textL ls)) W
  bel : Below w.heap.size w W
  mr : ∀ D ∈ Ds, W.heap[D]? = some (.deferred (some []))
  nd : Ds.Nodup
  lo : ∀ D ∈ Ds, w.heap.size ≤ D
/-- between two lines -/
structure TxL (w W0 : World) (b bx : Nat) (acc ls : List ByteArray) (Ds : List Nat) (bxo : Obj) (pre : List ByteArray) (W : World) : Prop where
  tx : TxI w b (acc ++ pre) Ds W
  pr : pre = ls.take pre.length
  box : W.heap[bx]? = some bxo
  sz : W0.heap.size ≤ W.heap.size
  dl : ∀ D ∈ Ds, D < W0.heap.size
theorem TxI.go {w W W' : World} {b : Nat} {ls : List ByteArray} {Ds : List Nat} (h : TxI w b ls Ds W) (hb : Below W.heap.size W W') : TxI w b ls Ds W' :=
  ⟨IsBuilder.go h.bd hb, Below.next h.bel hb, fun D hD => (hb.block D (blk_lt (h.mr D hD))).trans (h.mr D hD), h.nd, h.lo⟩
theorem TxI.pu {w W : World} {b l : Nat} {ls : List ByteArray} {Ds : List Nat} {o : Obj} (h : TxI w b ls Ds W) (hw : w.heap.size ≤ l) (hDs : ∀ D ∈ Ds, D ≠ l) (hl : W.heap[l]? = some o) (ho : o.isCells = false) (o' : Obj) : TxI w b ls Ds (W.putObj l o') :=
  ⟨IsBuilder.pu h.bd hl ho o', below_put h.bel hw o', fun D hD => (World.putObj_heap_other (hDs D hD)).trans (h.mr D hD), h.nd, h.lo⟩
theorem txL_calm {w W0 : World} {b bx : Nat} {acc ls : List ByteArray} {Ds : List Nat} {bxo : Obj} (hw : w.heap.size ≤ W0.heap.size) (hx : bx < W0.heap.size) : Calm W0.heap.size (TxL w W0 b bx acc ls Ds bxo) :=
  ⟨fun s W o h hB => ⟨h.tx.go ((Below.refl _ _).alloc (Nat.le_refl _) o), h.pr, (heap_alloc_old _ _ (by omega)).trans h.box, by have := h.sz; simp; omega, h.dl⟩,
   fun s W l o o' h hB hl ho => ⟨h.tx.pu (by omega) (fun D hD e => by have := h.dl D hD; omega) hl ho o', h.pr, (World.putObj_heap_other (by omega)).trans h.box, by have := h.sz; simpa using this, h.dl⟩⟩
theorem no_calm (B : Nat) : Calm B (fun (_ : List ByteArray) (_ : World) => False) := ⟨fun _ _ _ h _ => h, fun _ _ _ _ _ h _ _ _ => h⟩
theorem txL_grow {w W0 : World} {b bx : Nat} {acc ls : List ByteArray} {Ds : List Nat} {bxo : Obj} (hx : bx < W0.heap.size) (s : List ByteArray) (W W' : World) (h : TxL w W0 b bx acc ls Ds bxo s W) (hs : W0.heap.size ≤ W.heap.size) (hb : Below W.heap.size W W') : TxL w W0 b bx acc ls Ds bxo s W' :=
  ⟨h.tx.go hb, h.pr, (hb.block bx (by omega)).trans h.box, Nat.le_trans h.sz hb.size, h.dl⟩
theorem askOK_w {w : World} {a : Ask} {A1 A2 : Option Addr} (h : AskOK w a A1 A2) (hs : 0 ≤ a.st ∧ a.st ≤ 18446744073709551615) : AskW a := by
  refine ⟨h.1.1, fun ws hws => ?_, hs⟩
  obtain ⟨i, hi⟩ := List.getElem?_of_mem hws
  have hlt := (List.getElem?_eq_some_iff.1 hi).1
  obtain ⟨blk, off, e, hc⟩ := h.2.1 (by omega)
  obtain ⟨A', c, _, _, h3⟩ := hc i ws hi
  exact h3.1
theorem askSm_of {a : Ask} (hm : mayA a = true) (hs : 0 ≤ a.st ∧ a.st ≤ 18446744073709551615) : AskSm a := by
  obtain ⟨_, h1, h2, _, _, h5⟩ := may_parts hm
  exact ⟨by omega, by omega, fun ws hws => by have := shortB_len h5 ws hws; omega, hs⟩
def TextPost (L : List Ask) (w : World) (e : Ending) (w' : World) : Prop := e = .returned (.tuple #[.string (textM L).1, .int .i64 (textM L).2]) ∧ Below w.heap.size w w'

set_option maxRecDepth 100000 in
set_option maxHeartbeats 8000000 in
theorem text_in (L : List Ask) (A : Option Addr) (n c : Nat) (w : World) (hL : L.length = n) (hA : AsksK w A L) (hn : n ≤ 4000000) (hst : ∀ a ∈ L, 0 ≤ a.st ∧ a.st ≤ 18446744073709551615) (hT : Tab w) :
    CallsIn Fence.wide 8 Tryz.prog 40 #[.slice A n c] w (TextPost L w) := by
  have kA := Lib.hid (allMay_any A n c L w hL hA hn)
  unfold TextPost textM
  have hL' := Lib.hid hL
  have hA' := Lib.hid hA
  have hT' := Lib.hid hT
  have hst' := Lib.hid hst
  clear hA hT hst
  obtain ⟨t, ht⟩ : ∃ t, L.all mayA = t := ⟨_, rfl⟩
  rw [ht] at kA ⊢
  rw [hL]
  obtain ⟨r, hr⟩ : ∃ r, (if 1048576 < (scrT L).size then ((⟨#[]⟩ : ByteArray), (3 : Int)) else (scrT L, 0)) = r := ⟨_, rfl⟩
  rw [hr]
  have hr' := Lib.hid hr
  have ht' := Lib.hid ht
  clear ht hL hr
  refine callsIn_of_wp_marks Tryz.func40 rfl trivial ?_ rfl
  simp only [Tryz.ntmps40, List.size_toArray, List.length_cons, List.length_nil, Nat.reduceAdd, Nat.reduceSub, Array.replicate_succ, Array.replicate_zero, List.push_toArray, List.append_toArray, List.nil_append, List.cons_append]
  gi_wp2_with fail
  refine ⟨trivial, ?_⟩
  refine (callsIn_wide.2 kA.out).mono ?_
  rintro e w1 ⟨rfl, hb1⟩
  have b1 := Lib.hid hb1
  clear hb1 kA
  cases t
  · gi_wp2_with fail
    exact ⟨_, by simp [results, Tryz.f40, go_sem], rfl, b1.out⟩
  · by_cases h64 : 64 < n
    · have e1 : (64 : Int) < (n : Int) := by omega
      gi_wp2_with fail
      exact ⟨_, by simp [results, Tryz.f40, go_sem], rfl, b1.out⟩
    · have e1 : ¬ (64 : Int) < (n : Int) := by omega
      gi_wp2_with fail
      have hinit : TxI w w1.heap.size (linesAll (L.take 0)) [] (w1.alloc (.cells #[.pointer none, .slice none 0 0] 114)) :=
        ⟨.inl ⟨b1.out.size, _, heap_alloc_new w1 _, World.ownsRow_nil _ _ _ _, by simp [Value.ownBlock]⟩, b1.out.alloc b1.out.size _, (fun D hD => by cases hD), List.nodup_nil, (fun D hD => by cases hD)⟩
      obtain ⟨b, hbe⟩ : ∃ b, w1.heap.size = b := ⟨_, rfl⟩
      rw [hbe] at hinit ⊢
      refine wpIn_loop (fun a' W => ∃ (i : Nat) (u6 u13 u17 u18 u19 u20 u21 u26 : Value) (Ds : List Nat), i ≤ n ∧ TxI w b (linesAll (L.take i)) Ds W ∧
        a' = { tmps := #[.slice A n c, undef, .string ⟨#[]⟩, .int .i64 0, .pointer (some ⟨b, 0, none⟩), undef, u6, undef, .slice A n c, .bool true, .bool false, .slice A n c, .int .i64 n, u13, .slice A n c, .int .i64 n, .int .i64 i, u17, u18, u19, u20, u21, undef, undef, undef, undef, u26, undef, undef, undef], defers := mks Ds })
        (fun a' W => n - (intOf (a'.tmps.getD 16 undef)).toNat) ⟨0, _, _, _, _, _, _, _, _, [], Nat.zero_le _, hinit, rfl⟩ ?_
      rintro _ W ⟨i, u6, u13, u17, u18, u19, u20, u21, u26, Ds, hi, hI, rfl⟩
      have hI := Lib.hid hI
      clear hinit
      by_cases hlt : i < n
      · have e0 : (i : Int) < (n : Int) := by omega
        obtain ⟨blk, off, a, A1, c1, A2, c2, rfl, ha, hok, v0, v1, v2, v3, v4⟩ := hA'.out.at_ (k := i) (by rw [hL'.out]; omega)
        have v0 := (hI.out.bel.cell (p := ⟨blk, off + i * 5, none⟩) (cell_some_lt v0)).trans v0
        have v1 := (hI.out.bel.cell (p := ⟨blk, off + i * 5 + 1, none⟩) (cell_some_lt v1)).trans v1
        have v2 := (hI.out.bel.cell (p := ⟨blk, off + i * 5 + 2, none⟩) (cell_some_lt v2)).trans v2
        have v3 := (hI.out.bel.cell (p := ⟨blk, off + i * 5 + 3, none⟩) (cell_some_lt v3)).trans v3
        have v4 := (hI.out.bel.cell (p := ⟨blk, off + i * 5 + 4, none⟩) (cell_some_lt v4)).trans v4
        have ham := Lib.hid (List.all_eq_true.1 ht'.out a (List.mem_of_getElem? ha))
        have hsm := Lib.hid (askSm_of ham.out (hst'.out a (List.mem_of_getElem? ha)))
        have ha := Lib.hid ha
        have hok := Lib.hid hok
        obtain ⟨bo, hbo⟩ : ∃ bo, bo = Obj.cells #[.int .i64 a.k, .slice A1 a.args.length c1, .slice A2 a.regs.length c2, .int .u64 a.st, .int .i64 a.fu] 42 := ⟨_, rfl⟩
        have k44 := lines44_any a A1 A2 c1 c2 (W.alloc (.cells #[.int .i64 a.k, .slice A1 a.args.length c1, .slice A2 a.regs.length c2, .int .u64 a.st, .int .i64 a.fu] 42))
        unfold askVal at k44
        have k44 := Lib.hid k44
        gi_wp2_with fail
        refine ⟨trivial, ?_⟩
        refine (callsIn_wide.2 k44.out).mono ?_
        rintro e W0 ⟨rfl, hW0⟩
        have hs1 : (W.alloc (.cells #[.int .i64 a.k, .slice A1 a.args.length c1, .slice A2 a.regs.length c2, .int .u64 a.st, .int .i64 a.fu] 42)).heap.size = W.heap.size + 1 := by simp
        rw [hs1]
        have hbW0 : Below W.heap.size W W0 := by rw [hW0]; exact ((Below.refl _ W).alloc (Nat.le_refl _) _).alloc (by omega) _
        have hI0 := hI.out.go hbW0
        have s0 : W0.heap.size = W.heap.size + 2 := by rw [hW0]; simp
        have hbox : W0.heap[W.heap.size + 1]? = some (.cells #[.int .i64 a.k, .slice A1 a.args.length c1, .slice A2 a.regs.length c2, .int .u64 a.st, .int .i64 a.fu] 42 (0, 0)) := by
          have := heap_alloc_new (W.alloc (.cells #[.int .i64 a.k, .slice A1 a.args.length c1, .slice A2 a.regs.length c2, .int .u64 a.st, .int .i64 a.fu] 42)) (.cells #[.int .i64 a.k, .slice A1 a.args.length c1, .slice A2 a.regs.length c2, .int .u64 a.st, .int .i64 a.fu] 42)
          rw [hs1, ← hW0] at this
          exact this
        have hwsz := hI.out.bel.size
        have hag : Agree (fun x => x < w.heap.size) w W0 := fun x hx => hI0.bel.block x hx
        have hLin : LinI (fun x => x < w.heap.size ∨ x = W.heap.size + 1) W0 (W.heap.size + 1) a A1 c1 A2 c2 :=
          ⟨fun x hx => by omega, .inl (tab_lt hT'.out), .inr rfl, hT'.out.below hI0.bel, hbox, (hok.out.1.wf (F := fun x => x < w.heap.size) (fun x hx => hx)).go (fun x hx => .inl hx) hag, (hok.out.2.1.wsf (F := fun x => x < w.heap.size) (fun x hx => hx)).go (fun x hx => .inl hx) hag⟩
        have hDl : ∀ D ∈ Ds, D < W0.heap.size := fun D hD => blk_lt (hI0.mr D hD)
        have hLin := Lib.hid hLin
        have hI0 := Lib.hid hI0
        have hbox := Lib.hid hbox
        have hDl := Lib.hid hDl
        clear hW0 k44 hs1 hag v0 v1 v2 v3 v4
        gi_wp2_with fail
        have hlm : linesM a = linesA a := by unfold linesM; rw [if_pos ham.out]
        refine wpIn_range_grow (n := 8) (by omega) rfl (enters_of Tryz.func73 (by kernel_rfl) rfl) (Kp := Agree (fun x => x < w.heap.size ∨ x = W.heap.size + 1)) Agree.trans ?kb
          (lines73_said 7 (by omega) (W.heap.size + 1) a A1 A2 c1 c2 _ W0 hLin.out hsm.out) (TxL w W0 b (W.heap.size + 1) (linesAll (L.take i)) (linesA a) Ds (.cells #[.int .i64 a.k, .slice A1 a.args.length c1, .slice A2 a.regs.length c2, .int .u64 a.st, .int .i64 a.fu] 42 (0, 0))) (fun _ _ => False)
          (txL_calm hI0.out.bel.size (by omega)) (no_calm _) (txL_grow (by omega)) ⟨by simpa using hI0.out, by simp, hbox.out, Nat.le_refl _, hDl.out⟩
          (fun x => #[.slice (some ⟨blk, off, none⟩) n c, undef, .string ⟨#[]⟩, .int .i64 0, .pointer (some ⟨b, 0, none⟩), undef, .pointer (some ⟨W.heap.size, 0, none⟩), .string x, .slice (some ⟨blk, off, none⟩) n c, .bool true, .bool false, .slice (some ⟨blk, off, none⟩) n c, .int .i64 n, u13, .slice (some ⟨blk, off, none⟩) n c, .int .i64 n, .int .i64 i,
            .bool true, .pointer (some ⟨blk, off + i * 5, none⟩), .agg #[.int .i64 a.k, .slice A1 a.args.length c1, .slice A2 a.regs.length c2, .int .u64 a.st, .int .i64 a.fu], .agg #[.int .i64 a.k, .slice A1 a.args.length c1, .slice A2 a.regs.length c2, .int .u64 a.st, .int .i64 a.fu],
            .func (.func 73) #[] #[.pointer (some ⟨W.heap.size + 1, 0, none⟩)], .string x, undef, undef, undef, u26, undef, undef, undef])
          ?assign ?body ?done ?stop
        case kb => exact fun W' l o' hl x hx => World.putObj_heap_other (by omega)
        case assign =>
          intro l x W' K hK
          have hK' := Lib.hid hK
          clear hK
          gi_wp2
          exact hK'.out
        case body =>
          rintro l pre x W' hl hJ hx
          rw [hlm] at hx
          have hJ := Lib.hid hJ
          have hx := Lib.hid hx
          have hpl := (List.getElem?_eq_some_iff.1 hx.out).1
          have hpx : pre ++ [x] = (linesA a).take (pre.length + 1) := by
            rw [List.take_add_one, hx.out, ← hJ.out.pr]
            rfl
          have hlen : (byteCells (textL (linesAll (L.take i) ++ pre))).length + (x ++ ⟨#[10]⟩ : ByteArray).size ≤ 140737488355328 := by
            have h1 := text_part (L := L) (i := i) (by rw [hL'.out]; omega) (fun q hq => ⟨List.all_eq_true.1 ht'.out q hq, by
              obtain ⟨k, hk⟩ := List.getElem?_of_mem hq
              have hlk := (List.getElem?_eq_some_iff.1 hk).1
              obtain ⟨_, _, q', B1, _, B2, _, _, hq', hokq, _⟩ := hA'.out.at_ (k := k) hlk
              rw [hk] at hq'
              cases hq'
              exact askOK_w hokq (hst'.out q hq)⟩) ha.out (pre.length + 1)
            rw [← hpx, ← List.append_assoc, textL_app, List.length_append] at h1
            have e3 : (textL [x]).length = (x ++ ⟨#[10]⟩ : ByteArray).size := by
              have h9 : (⟨#[10]⟩ : ByteArray).size = 1 := rfl
              simp [textL, nlL, size_list, h9]
            rw [byteCells_length]
            omega
          have h9 : (⟨#[10]⟩ : ByteArray).size = 1 := rfl
          have hcat : ¬ x.size + (⟨#[10]⟩ : ByteArray).size > 9223372036854775807 := by
            rw [ByteArray.size_append] at hlen
            omega
          have hcell : byteCells (textL (linesAll (L.take i) ++ pre)) ++ strCells (x ++ ⟨#[10]⟩) = byteCells (textL (linesAll (L.take i) ++ (pre ++ [x]))) := by
            rw [strCells_eq, ← byteCells_append, ← List.append_assoc, textL_app _ [x]]
            simp [textL, nlL]
          have hwr := Lib.hid (writeString_any w.heap.size b _ (x ++ ⟨#[10]⟩) W' hJ.out.tx.bd hlen hJ.out.tx.bel.size)
          rw [hcell] at hwr
          have hpx := Lib.hid hpx
          clear hlen hcell
          have hcat1 : ¬ 9223372036854775807 < x.size + (⟨#[10]⟩ : ByteArray).size := hcat
          have hcat2 : ¬ 9223372036854775807 < x.size + 1 := by rw [h9] at hcat; exact hcat
          gi_wp2_with fail
          refine ⟨trivial, ?_⟩
          refine (callsIn_wide.2 hwr.out).mono ?_
          rintro e W3 ⟨rfl, hbd, hb3, hh3⟩
          have hbd := Lib.hid hbd
          have hb3 := Lib.hid hb3
          have hh3 := Lib.hid hh3
          obtain ⟨cs, hcs⟩ := IsBuilder.cells hJ.out.tx.bd
          have hcs := Lib.hid hcs
          gi_wp2_with fail
          have hob : ∀ (k : Nat) (o : Obj), W'.heap[k]? = some o → o.isCells = false → W3.heap[k]? = some o := fun k o hk ho => hh3.out.2 k o (by
            rintro rfl
            rw [hcs.out] at hk
            cases hk
            cases ho) hk (fun _ _ e => by subst e; cases ho)
          have hbx3 : W3.heap[W.heap.size + 1]? = W'.heap[W.heap.size + 1]? := by
            rw [hJ.out.box]
            refine hh3.out.2 _ _ ?_ hJ.out.box (fun _ _ e => by cases e)
            intro e
            have := hcs.out
            rw [← e, hJ.out.box] at this
            cases this
          refine ⟨⟨hh3.out.1, fun k o _ hk ho => hob k o hk ho⟩, fun y hy => ?_, ⟨⟨.inr hbd.out, hJ.out.tx.bel.trans hb3.out, fun D hD => hob D _ (hJ.out.tx.mr D hD) rfl, hJ.out.tx.nd, hJ.out.tx.lo⟩, ?_, hbx3.trans hJ.out.box, Nat.le_trans hJ.out.sz hh3.out.1, hJ.out.dl⟩⟩
          · rcases hy with hy | rfl
            · exact hb3.out.block y hy
            · exact hbx3
          · rw [hpx.out, List.length_take, Nat.min_eq_left (by omega)]
        case done =>
          rintro D xs W' hD hxs hJ hK
          rw [hlm] at hxs
          subst hxs
          have hJ := Lib.hid hJ
          have hK := Lib.hid hK
          have hla : linesAll (L.take i) ++ linesA a = linesAll (L.take (i + 1)) := by
            rw [List.take_add_one, ha.out, linesAll_app]
            exact congrArg _ (linesAll_one a).symm
          have hI3 : TxI w b (linesAll (L.take (i + 1))) (D :: Ds) W' := by
            have := hJ.out.tx
            rw [hla] at this
            refine ⟨this.bd, this.bel, ?_, List.nodup_cons.2 ⟨fun hm => by have := hDl.out D hm; omega, this.nd⟩, ?_⟩
            · intro D' hD'
              rcases List.mem_cons.1 hD' with rfl | hD'
              · exact hK.out
              · exact this.mr D' hD'
            · intro D' hD'
              rcases List.mem_cons.1 hD' with rfl | hD'
              · have := hI0.out.bel.size; omega
              · exact this.lo D' hD'
          have hI3 := Lib.hid hI3
          have hwr : IntKind.i64.wrap ((i : Int) + 1) = (i : Int) + 1 := by rw [IntKind.wrap_i64]; omega
          gi_wp2_with fail
          refine ⟨⟨i + 1, _, _, _, _, _, _, _, _, D :: Ds, by omega, hI3.out, rfl⟩, ?_⟩
          simp [intOf]
          omega
        case stop => exact fun D pre W' _ _ hX _ => hX.elim
      · have e0 : ¬ (i : Int) < (n : Int) := by omega
        have hin : i = n := by omega
        have htk : L.take i = L := List.take_of_length_le (by rw [hL'.out]; omega)
        have hI2 := hI.out
        rw [htk] at hI2
        have hI2 := Lib.hid hI2
        obtain ⟨m, hm⟩ : ∃ m, (byteCells (textL (linesAll L))).length = m := ⟨_, rfl⟩
        have kL := Tryz.Builder_Len w.heap.size b _ W hI2.out.bd
        rw [hm] at kL
        have kL := Lib.hid kL
        have hsz : (scrT L).size = m := by
          rw [← hm, byteCells_length]
          show (textL (linesAll L)).toArray.size = _
          simp
        have kS := Lib.hid (string_any w.heap.size b _ W hI2.out.bd hI2.out.bel.size)
        have hr2 := hr'.out
        rw [hsz] at hr2
        clear hm hsz htk
        by_cases hbig : 1048576 < m
        · have e2 : (1048576 : Int) < (m : Int) := by omega
          rw [if_pos hbig] at hr2
          subst hr2
          gi_wp2_with fail
          refine ⟨trivial, ?_⟩
          refine (callsIn_wide.2 kL.out).mono ?_
          rintro e W2 ⟨rfl, rfl⟩
          gi_wp2_with fail
          exact leaves_marks Ds _ hI.out.mr hI.out.nd ⟨_, by simp [results, Tryz.f40, go_sem], rfl, shut_below Ds _ hI.out.lo hI.out.bel⟩
        · have e2 : ¬ (1048576 : Int) < (m : Int) := by omega
          rw [if_neg hbig] at hr2
          subst hr2
          gi_wp2_with fail
          refine ⟨trivial, ?_⟩
          refine (callsIn_wide.2 kL.out).mono ?_
          rintro e W2 ⟨rfl, rfl⟩
          gi_wp2_with fail
          refine ⟨trivial, ?_⟩
          refine (callsIn_wide.2 kS.out).mono ?_
          rintro e W3 ⟨rfl, hb3, hh3⟩
          have hb3 := Lib.hid (hI.out.bel.trans hb3)
          have hh3 := Lib.hid hh3
          gi_wp2_with fail
          obtain ⟨cs, hcs⟩ := IsBuilder.cells hI.out.bd
          have hsc : (⟨(textL (linesAll L)).toArray⟩ : ByteArray) = scrT L := rfl
          exact leaves_marks Ds _ (fun D hD => hh3.out.2 D _ (by
            rintro rfl
            have := hI.out.mr _ hD
            rw [hcs] at this
            cases this) (hI.out.mr D hD) (fun _ _ e => by cases e)) hI.out.nd ⟨_, by simp [results, Tryz.f40, go_sem]; exact hsc, rfl, shut_below Ds _ hI.out.lo hb3.out⟩
end Go.Proofs.YtkbmckmlnphpmaaGreatDoor
namespace Go.Proofs.YtkbmckmlnphpmaaGreatDoor
open Go.RowKit Go.Lib Go.Shelf

theorem text_any (L : List Ask) (A : Option Addr) (n c : Nat) (w : World) (hL : L.length = n) (hA : AsksK w A L) (hn : n ≤ 4000000) (hst : ∀ a ∈ L, 0 ≤ a.st ∧ a.st ≤ 18446744073709551615) (hT : Tab w) :
    Calls Tryz.prog 40 #[.slice A n c] w (TextPost L w) := callsIn_wide.1 (text_in L A n c w hL hA hn hst hT)
theorem row9_grown {w w' : World} {A : Option Addr} {ss : List ByteArray} {b n : Nat} {v : Value} {xs : List Value} (h : SAt w A ss) (h9 : Row9 w A) (hown : w.ownsRow b 5 1 v n xs) (hg : w.grownBy w' v.ownBlock) : SAt w' A ss ∧ Row9 w' A := by
  have key : ∀ g off, A = some ⟨g, off, none⟩ → w'.heap[g]? = w.heap[g]? := fun g off e => by
    obtain ⟨cs, fr, hc⟩ := h9 g off e
    refine hg.block g (blk_lt hc) fun e2 => ?_
    rcases hown.2 with ⟨rfl, _⟩ | ⟨g', cap, cur, rfl, _, hh, _⟩
    · simp [Value.ownBlock] at e2
    · simp only [Value.ownBlock, Option.some.injEq] at e2
      subst e2
      rw [hh] at hc
      cases hc
  refine ⟨fun hn => ?_, fun g off e => ?_⟩
  · obtain ⟨blk, off, e, hc⟩ := h hn
    exact ⟨blk, off, e, fun i x hx => (World.cell?_of_block (a := ⟨blk, off + i, none⟩) (key blk off e)).trans (hc i x hx)⟩
  · obtain ⟨cs, fr, hc⟩ := h9 g off e
    exact ⟨cs, fr, (key g off e).trans hc⟩
theorem ownsRow_all {w : World} {b0 n : Nat} {v : Value} {xs : List UInt8} (h : w.ownsRow b0 5 1 v n (byteCells xs)) : (convert 73 9 v).run Tryz.prog w = .ok (.string ⟨xs.toArray⟩) w := ownC_conv_all (ownC_of_row (xs := xs) h)
theorem und9' : Tryz.prog.underlying 9 = some .string := by kernel_rfl

set_option maxRecDepth 100000 in
set_option maxHeartbeats 4000000 in
theorem refText_any (L : List Ask) (A : Option Addr) (n c : Nat) (w : World) (hL : L.length = n) (hA : AsksK w A L) (hn : n ≤ 100) (hm : ∀ a ∈ L, mayA a = true) (hst : ∀ a ∈ L, 0 ≤ a.st ∧ a.st ≤ 18446744073709551615) (hT : Tab w) :
    Calls Tryz.prog 41 #[.slice A n c] w (StrPost (scrT L) w) := by
  obtain ⟨i0, hi, hz0, hz1, hz2⟩ := info_parts byte5
  have hi' := Lib.hid (And.intro hi (And.intro hz0 (And.intro hz1 hz2)))
  have hL' := Lib.hid hL
  have hA' := Lib.hid hA
  have hm' := Lib.hid hm
  have hst' := Lib.hid hst
  have hT' := Lib.hid hT
  have hall := Lib.hid (show ∀ q ∈ L, mayA q = true ∧ AskW q from fun q hq => ⟨hm q hq, by
    obtain ⟨k, hk⟩ := List.getElem?_of_mem hq
    have hlk := (List.getElem?_eq_some_iff.1 hk).1
    obtain ⟨_, _, q', B1, _, B2, _, _, hq', hokq, _⟩ := hA.at_ (k := k) hlk
    rw [hk] at hq'
    cases hq'
    exact askOK_w hokq (hst q hq)⟩)
  have hown0 := Lib.hid (World.ownsRow_nil w w.heap.size 5 1)
  clear hL hA hm hst hT hi hz0 hz1 hz2
  go_enter Tryz.func41, Tryz.ntmps41
  go_wp2_with fail
  go_loopg [3, 4] n (fun g s3 s4 wr => ∃ i N : Nat, i + g = n ∧ s4 = .int .i64 i ∧ wr.ownsRow w.heap.size 5 1 s3 N (byteCells (textL (linesAll (L.take i)))) ∧ Below w.heap.size w wr)
  case atStart => exact ⟨0, 0, by omega, rfl, hown0.out, Below.refl _ _⟩
  case round =>
    obtain ⟨i, N, hig, rfl, ho, hb⟩ := hrel
    have ho := Lib.hid ho
    have hb := Lib.hid hb
    cases gk with
    | zero =>
      have e0 : ¬ ((i : Int) < (n : Int)) := by omega
      have htk : L.take i = L := List.take_of_length_le (by rw [hL'.out]; omega)
      have hcv := ownsRow_all ho.out
      rw [htk] at hcv
      have hsc := Lib.hid (show (⟨(textL (linesAll L)).toArray⟩ : ByteArray) = scrT L from rfl)
      rw [hsc.out] at hcv
      clear htk
      go_wp2
      go_ret
      exact ⟨rfl, hb.out⟩
    | succ g =>
      have e0 : (i : Int) < (n : Int) := by omega
      obtain ⟨blk, off, a, A1, c1, A2, c2, rfl, ha, hok, v0, v1, v2, v3, v4⟩ := (hA'.out.below hb.out).at_ (k := i) (by rw [hL'.out]; omega)
      have hma := hm'.out a (List.mem_of_getElem? ha)
      have hsm := askSm_of hma (hst'.out a (List.mem_of_getElem? ha))
      have kL := refLines9_any a A1 A2 c1 c2 wr hok hsm.l1 hsm.l2 hsm.l3 (hT'.out.below hb.out) hsm.st (mayA_fu hma)
      unfold SlPost9 askVal at kL
      obtain ⟨m, hm⟩ : ∃ m, (linesA a).length = m := ⟨_, rfl⟩
      rw [hm] at kL
      have kL := Lib.hid kL
      have hm := Lib.hid hm
      have ha := Lib.hid ha
      have hp := Lib.hid fun k => text_part (by rw [hL'.out]; exact hn) hall.out ha.out k
      clear hok hma hsm
      go_wp2_with fail
      refine kL.out.mono ?_
      rintro e w2 ⟨B, cw, rfl, hB, hb2, h9⟩
      have hB := Lib.hid hB
      have h9 := Lib.hid h9
      have ho := Lib.hid (ho.out.kept (row := none) ⟨hb2.os, hb2.tape, hb2.output, hb2.size, fun i hi _ => hb2.block i hi⟩ (Classical.em _))
      have hb := Lib.hid (Below.next hb.out hb2)
      clear hb2 kL v0 v1 v2 v3 v4
      obtain ⟨wo, rfl⟩ : ∃ wo, wr = wo := ⟨_, rfl⟩
      go_wp2_with fail
      have hlm := Lib.hid (show m ≤ 18 by rw [← hm.out]; exact (linesA_len (hall.out a (List.mem_of_getElem? ha.out)).1 (hall.out a (List.mem_of_getElem? ha.out)).2).1)
      have hlm2 := hlm.out
      go_loopg [3, 6] m (fun g s3 s6 wr => ∃ j N : Nat, j + g = m ∧ s6 = .int .i64 j ∧ wr.ownsRow w.heap.size 5 1 s3 N (byteCells (textL (linesAll (L.take i) ++ (linesA a).take j))) ∧ SAt wr B (linesA a) ∧ Row9 wr B ∧ Below w.heap.size w wr)
      case atStart => exact ⟨0, N, by omega, rfl, by simpa using ho.out, hB.out, h9.out, hb.out⟩
      case round =>
        clear ho hB h9 hb
        obtain ⟨j, M, hjg, rfl, ho, hB, h9, hb⟩ := hrel
        have ho := Lib.hid ho
        have hB := Lib.hid hB
        have h9 := Lib.hid h9
        have hb := Lib.hid hb
        cases gk with
        | zero =>
          have e1 : ¬ ((j : Int) < (m : Int)) := by omega
          have hla : linesAll (L.take i) ++ (linesA a).take j = linesAll (L.take (i + 1)) := by
            have q1 : (linesA a).take j = linesA a := List.take_of_length_le (by rw [hm.out]; omega)
            rw [q1, List.take_add_one, ha.out, linesAll_app]
            exact congrArg _ (linesAll_one a).symm
          have ho2 := ho.out
          rw [hla] at ho2
          have ho2 := Lib.hid ho2
          clear hla
          go_wp2
          go_roundg g
          case measure => omega
          case rel => exact ⟨i + 1, M, by omega, by go_num, ho2.out, hb.out⟩
        | succ g2 =>
          have e1 : (j : Int) < (m : Int) := by omega
          obtain ⟨gb, go, x, rfl, hx, cx⟩ := hB.out.at_ (k := j) (by rw [hm.out]; omega)
          have hx := Lib.hid hx
          have hpx : (linesA a).take (j + 1) = (linesA a).take j ++ [x] := by
            rw [List.take_add_one, hx.out]
            rfl
          have hM : M = (textL (linesAll (L.take i) ++ (linesA a).take j)).length := by
            have := ho.out.1
            rw [byteCells_length] at this
            omega
          have hlen : M + x.size + 1 ≤ 20000000 := by
            have h1 := hp.out (j + 1)
            rw [hpx, ← List.append_assoc, textL_app, List.length_append] at h1
            have e3 : (textL [x]).length = x.size + 1 := by simp [textL, nlL, size_list]
            omega
          have hcell : byteCells (textL (linesAll (L.take i) ++ (linesA a).take j)) ++ strCells x ++ [.int .u8 10] = byteCells (textL (linesAll (L.take i) ++ (linesA a).take (j + 1))) := by
            rw [hpx, ← List.append_assoc, textL_app _ [x], byteCells_append, List.append_assoc]
            congr 1
            simp [textL, nlL, strCells_eq, byteCells_append]
            rfl
          have hcell := Lib.hid hcell
          have hk1 := Lib.hid (show M + x.size ≤ maxLen by unfold maxLen; omega)
          have hk2 := Lib.hid (show M + x.size ≤ 140737488355328 by omega)
          have hk3 := Lib.hid (show M + x.size + 1 ≤ maxLen by unfold maxLen; omega)
          have hk4 := Lib.hid (show (M + x.size + 1) * 1 ≤ 140737488355328 by omega)
          have hbs := Lib.hid hb.out.size
          have hone := Lib.hid (show ∀ v ∈ [Value.int .u8 10], v.oneCell' = true by simp [Value.oneCell'])
          obtain ⟨hj1, hj2, hj3, hj4⟩ := hi'.out
          clear hpx hM hlen
          go_wp2_with ((at_builtin; refine Lib.wpList_append_own_string _ rfl _ _ 73 9 rfl w.heap.size 5 i0 und73 und9' hj1 hj2 hj3 hj4 _ _ _ rfl ho.out x rfl hk1.out hk2.out hbs.out ?_))
          intro v3 w3 ho3 hg3 _
          have hq := row9_grown hB.out h9.out ho.out hg3
          have hb3 := Lib.hid (hb.out.grown hg3 hbs.out (fun k hk => (ho.out.lt k hk).1))
          have hBa := Lib.hid hq.1
          have h9a := Lib.hid hq.2
          have ho3a := Lib.hid (ho3.alloc (.cells #[.int .u8 10] 5))
          have hnew := Lib.hid (cell_one_new w3 (.int .u8 10) 5)
          have hb3a := Lib.hid (hb3.out.alloc hb3.out.size (.cells #[.int .u8 10] 5))
          have hbs3 := Lib.hid hb3a.out.size
          clear ho3 hg3 hq
          go_wp2_with ((at_builtin; refine wpList_append_own_at _ rfl _ _ 73 rfl w.heap.size 5 i0 _ 1 1 und73 hj1 hj2 hj3 hj4 rfl (by decide) _ _ _ rfl ho3a.out ⟨w3.heap.size, 0, none⟩ 1 1 [.int .u8 10] rfl rfl hnew.out hone.out hk3.out hk4.out hbs3.out ?_))
          intro v5 w5 ho5 hg5 _ _
          have hq := row9_grown (hBa.out.below ((Below.refl _ _).alloc (Nat.le_refl _) (.cells #[.int .u8 10] 5))) (h9a.out.below ((Below.refl _ _).alloc (Nat.le_refl _) (.cells #[.int .u8 10] 5))) ho3a.out hg5
          have hb5 := Lib.hid (hb3a.out.grown hg5 hbs3.out (fun k hk => (ho3a.out.lt k hk).1))
          have hBb := Lib.hid hq.1
          have h9b := Lib.hid hq.2
          have ho5a := Lib.hid ho5
          clear ho5 hg5 hq
          go_wp2
          go_roundg g2
          case measure => omega
          case rel =>
            refine ⟨j + 1, M + x.size + 1, by omega, by go_num, ?_, hBb.out, h9b.out, hb5.out⟩
            first | exact ho5a.out | (rw [← hcell.out]; exact ho5a.out)
end Go.Proofs.YtkbmckmlnphpmaaGreatDoor
namespace Go.Proofs.YtkbmckmlnphpmaaGreatDoor
open Go.RowKit Go.Lib Go.Shelf

theorem AsksO.at_ {w : World} {A : Option Addr} {L : List Ask} (h : AsksO w A L) {k : Nat} (hk : k < L.length) : ∃ blk off a A1 c1 A2 c2, A = some ⟨blk, off, none⟩ ∧ L[k]? = some a ∧ AskO w a A1 A2 ∧
    w.cell? ⟨blk, off + k * 5, none⟩ = some (.int .i64 a.k) ∧ w.cell? ⟨blk, off + k * 5 + 1, none⟩ = some (.slice A1 a.args.length c1) ∧ w.cell? ⟨blk, off + k * 5 + 2, none⟩ = some (.slice A2 a.regs.length c2) ∧ w.cell? ⟨blk, off + k * 5 + 3, none⟩ = some (.int .u64 a.st) ∧ w.cell? ⟨blk, off + k * 5 + 4, none⟩ = some (.int .i64 a.fu) := by
  obtain ⟨blk, off, e, hc⟩ := h (by omega)
  have e1 : L[k]? = some L[k] := List.getElem?_eq_getElem hk
  obtain ⟨A1, c1, A2, c2, h1, h2⟩ := hc k _ e1
  exact ⟨blk, off, _, A1, c1, A2, c2, e, e1, h2, h1 0 _ rfl, h1 1 _ rfl, h1 2 _ rfl, h1 3 _ rfl, h1 4 _ rfl⟩
def SmallA (a : Ask) (m : Nat) : Prop := a.args.length + a.regs.length ≤ m ∧ ∀ ws ∈ a.regs, ws.length ≤ m
theorem AskO.okS {w : World} {a : Ask} {A1 A2 : Option Addr} (h : AskO w a A1 A2) (hs : SmallA a 4000000) : AskOK w a A1 A2 :=
  ⟨h.args, h.regs.wsAt hs.2, by have := hs.1; omega, by have := hs.1; omega⟩
theorem AsksO.small {w : World} {A : Option Addr} {L : List Ask} (h : AsksO w A L) (hs : ∀ a ∈ L, SmallA a 4000000) : AsksK w A L := by
  intro hn
  obtain ⟨blk, off, e, hc⟩ := h hn
  refine ⟨blk, off, e, fun i a hi => ?_⟩
  obtain ⟨A1, c1, A2, c2, h1, h2⟩ := hc i a hi
  exact ⟨A1, c1, A2, c2, h1, h2.okS (hs a (List.mem_of_getElem? hi))⟩
def ManyPost (L : List Ask) (w : World) (e : Ending) (w' : World) : Prop := ∃ b, e = .returned (.bool b) ∧ (b = false → L.length ≤ 80 ∧ ∀ a ∈ L, SmallA a 1000) ∧ Below w.heap.size w w'

set_option maxRecDepth 100000 in
set_option maxHeartbeats 4000000 in
theorem many_any (L : List Ask) (A : Option Addr) (n c : Nat) (w : World) (hL : L.length = n) (hA : AsksO w A L) (hZ : ∀ a ∈ L, AskLe a) (hn : n ≤ 17592186044416) : Calls Tryz.prog 39 #[.slice A n c] w (ManyPost L w) := by
  have hL' := Lib.hid hL
  have hA' := Lib.hid hA
  have hZ' := Lib.hid hZ
  clear hL hA hZ
  go_enter Tryz.func39, Tryz.ntmps39
  go_wp2_with fail
  go_loopg [3] n (fun g s3 wr => ∃ k : Nat, k + g = n ∧ s3 = .int .i64 k ∧ (∀ (i : Nat) (a : Ask), i < k → L[i]? = some a → SmallA a 1000) ∧ Below w.heap.size w wr)
  case atStart => exact ⟨0, by omega, rfl, fun i a h => absurd h (by omega), Below.refl _ _⟩
  case round =>
    obtain ⟨k, hkg, rfl, hall, hb⟩ := hrel
    have hall := Lib.hid hall
    have hb := Lib.hid hb
    cases gk with
    | zero =>
      have e0 : ¬ ((k : Int) < (n : Int)) := by omega
      by_cases h80 : 80 < n
      · have e1 : (80 : Int) < (n : Int) := by omega
        go_wp2
        go_ret
        exact ⟨true, rfl, (fun h => by cases h), hb.out⟩
      · have e1 : ¬ (80 : Int) < (n : Int) := by omega
        go_wp2
        go_ret
        refine ⟨false, rfl, fun _ => ⟨by rw [hL'.out]; omega, fun a ha => ?_⟩, hb.out⟩
        obtain ⟨i, hi⟩ := List.getElem?_of_mem ha
        exact hall.out i a (by have := (List.getElem?_eq_some_iff.1 hi).1; have := hL'.out; omega) hi
    | succ g =>
      have e0 : (k : Int) < (n : Int) := by omega
      by_cases h81 : k < 81
      · have e1 : (k : Int) < 81 := by omega
        obtain ⟨blk, off, a, A1, c1, A2, c2, rfl, ha, hok, v0, v1, v2, v3, v4⟩ := (hA'.out.below hb.out).at_ (k := k) (by rw [hL'.out]; omega)
        have hz := hZ'.out a (List.mem_of_getElem? ha)
        have kS := Lib.hid (refSmall_any a.k A1 A2 a.args.length c1 a.regs.length c2 a.regs a.st a.fu 1000 wr rfl hok.regs hz.1 hz.2.1 (by omega))
        have ha := Lib.hid ha
        clear hok hz
        go_wp2_with fail
        refine kS.out.mono ?_
        rintro e w1 ⟨b, rfl, hbm, hb1⟩
        have hb1 := Lib.hid (Below.next hb.out hb1)
        have hbm := Lib.hid hbm
        clear kS v0 v1 v2 v3 v4
        cases b
        · go_wp2
          go_ret
          exact ⟨true, rfl, (fun h => by cases h), hb1.out⟩
        · go_wp2
          go_roundg g
          case measure => omega
          case rel =>
            refine ⟨k + 1, by omega, by go_num, fun i x hi hx => ?_, hb1.out⟩
            rcases Nat.lt_or_ge i k with h | h
            · exact hall.out i x h hx
            · obtain rfl : i = k := by omega
              rw [ha.out] at hx
              cases hx
              first | exact hbm.out rfl | exact hbm.out trivial
      · have e1 : ¬ (k : Int) < 81 := by omega
        have e2 : (80 : Int) < (n : Int) := by omega
        go_wp2
        go_ret
        exact ⟨true, rfl, (fun h => by cases h), hb.out⟩
end Go.Proofs.YtkbmckmlnphpmaaGreatDoor
