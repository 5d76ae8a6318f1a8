/- The tabs of lines: fewer than the statements are deep, and as many braces open as shut. -/
import Derived.Test.YtnahgfdoiflacaaGreatDoorFC
set_option linter.unusedSimpArgs false
set_option linter.unusedVariables false
namespace Go.Proofs.YtnahgfdoiflacaaGreatDoor
open Go.RowKit Go.Lib Go.Shelf

/-- braces open at a line, and behind it -/
def fstI (o : Int) (s : ByteArray) : Int := if s.data.toList.head? = some 125 then o - 1 else o
def nxtI (o : Int) (s : ByteArray) : Int := if s.data.toList.getLast? = some 123 then fstI o s + 1 else fstI o s
def okT (D : Nat) : Int → List Ln → Prop
  | _, [] => True
  | o, x :: r => (x.2.size ≠ 0 ∧ fstI o x.2 = (x.1 : Int) ∧ x.1 < D) ∧ okT D (nxtI o x.2) r
def finT : Int → List Ln → Int
  | o, [] => o
  | o, x :: r => finT (nxtI o x.2) r
theorem finT_app : ∀ (o : Int) (l m : List Ln), finT o (l ++ m) = finT (finT o l) m
  | _, [], _ => rfl
  | o, x :: l, m => by rw [List.cons_append, finT, finT, finT_app]
theorem okT_app (D : Nat) : ∀ (o : Int) (l m : List Ln), okT D o (l ++ m) ↔ okT D o l ∧ okT D (finT o l) m
  | _, [], _ => by simp [okT, finT]
  | o, x :: l, m => by rw [List.cons_append, okT, okT, finT, okT_app]; exact and_assoc.symm
theorem last_app (l : List UInt8) {m : List UInt8} {z : UInt8} (h : m.getLast? = some z) : (l ++ m).getLast? = some z := by
  rw [List.getLast?_append, h]; rfl
theorem last_cons (x : UInt8) {m : List UInt8} {z : UInt8} (h : m.getLast? = some z) : (x :: m).getLast? = some z := last_app [x] h
theorem name_head {n : ByteArray} (h : GoodN n) (r : List UInt8) : (n.data.toList ++ r).head? ≠ some 125 ∧ n.data.toList ++ r ≠ [] := by
  obtain ⟨c, t, hl, hc⟩ := (name_ok h).low
  rw [hl]
  refine ⟨fun e => ?_, by simp⟩
  simp only [List.cons_append, List.head?_cons, Option.some.injEq] at e
  subst e
  revert hc
  decide
/-- a statement's first line opens a brace just if the statement has a body; it shuts none -/
theorem head_tab {x : St} (h : ShpS x) : (hL x).head? ≠ some 125 ∧ hL x ≠ [] ∧ (hL x).getLast? = some (if flatK x.kd then 59 else 123) := by
  cases h with
  | s1 nm e hn he =>
    rw [h_1]
    obtain ⟨h1, h2⟩ := name_head hn (32 :: 61 :: 32 :: (tE e ++ [59]))
    exact ⟨h1, h2, last_app _ (last_cons _ (last_cons _ (last_cons _ (last_app _ rfl))))⟩
  | s2 nm a e hn ha he =>
    rw [h_2]
    obtain ⟨h1, h2⟩ := name_head hn (91 :: (tE a ++ 93 :: 32 :: 61 :: 32 :: (tE e ++ [59])))
    exact ⟨h1, h2, last_app _ (last_cons _ (last_app _ (last_cons _ (last_cons _ (last_cons _ (last_cons _ (last_app _ rfl)))))))⟩
  | s3 e bd el he =>
    rw [h_3]
    exact ⟨by simp [ifL], by simp [ifL], last_app _ (last_cons _ (last_app _ rfl))⟩
  | s4 e bd he =>
    rw [h_4]
    exact ⟨by simp [whileL], by simp [whileL], last_app _ (last_cons _ (last_app _ rfl))⟩
  | s5 nm lo hi bd hn =>
    rw [h_5]
    exact ⟨by simp [forL], by simp [forL], last_app _ (last_cons _ (last_app _ (last_cons _ (last_app _ (last_cons _ (last_app _ rfl))))))⟩
  | s6 nm ns ars hn hns ha =>
    rw [h_6]
    have hc : ∀ p, (p ++ callL nm ars).getLast? = some 59 := fun p => last_app _ (last_app _ (last_cons _ (last_app _ rfl)))
    cases ns with
    | nil =>
      obtain ⟨h1, h2⟩ := name_head hn (40 :: (aL ars ++ [41, 59]))
      exact ⟨h1, h2, hc []⟩
    | cons n r =>
      obtain ⟨h1, h2⟩ := name_head (hns n List.mem_cons_self) (ntail r ++ 32 :: 61 :: 32 :: callL nm ars)
      rw [← List.append_assoc] at h1 h2
      exact ⟨h1, h2, last_app _ (hc [32, 61, 32])⟩
theorem fstI_of {o : Int} {s : ByteArray} (h : s.data.toList.head? ≠ some 125) : fstI o s = o := if_neg h
theorem size_ne {s : ByteArray} (h : s.data.toList ≠ []) : s.size ≠ 0 := fun e => h (List.length_eq_zero_iff.1 (by rw [size_list]; exact e))
theorem okT_one {D : Nat} {o : Int} {t : Nat} {s : ByteArray} (h1 : s.size ≠ 0) (h2 : fstI o s = t) (h3 : t < D) : okT D o [(t, s)] := ⟨⟨h1, h2, h3⟩, trivial⟩
theorem tabs_law : ∀ (n : Nat) (L : List St), cntSs L ≤ n → maySs L = true → uSs L = true → ∀ (t D : Nat), t + depSs L ≤ D → okT D t (linesL t L) ∧ finT t (linesL t L) = t := by
  intro n
  induction n with
  | zero =>
    intro L hc
    cases L with
    | nil => intro _ _ t D _; rw [linesL_nil]; exact ⟨trivial, rfl⟩
    | cons y l => rw [cntSs] at hc; have := cntS_pos y; omega
  | succ n ih =>
    intro L hc hm hu t D hD
    cases L with
    | nil => rw [linesL_nil]; exact ⟨trivial, rfl⟩
    | cons y l =>
      rw [cntSs] at hc
      have hp := cntS_pos y
      have hb := cntS_bd y
      rw [maySs, Bool.and_eq_true] at hm
      rw [uSs, Bool.and_eq_true] at hu
      rw [depSs] at hD
      have hd := depS_eq y
      obtain ⟨hs, mb, me, ub, ue⟩ := shpS_of hm.1 hu.1
      obtain ⟨a1, a2, a3⟩ := head_tab hs
      have htD : t < D := by omega
      obtain ⟨r1, r2⟩ := ih l (by omega) hm.2 hu.2 t D (by omega)
      obtain ⟨b1, b2⟩ := ih y.bd (by omega) mb ub (t + 1) D (by omega)
      obtain ⟨e1, e2⟩ := ih y.el (by omega) me ue (t + 1) D (by omega)
      have hh : okT D t [(t, headB y)] := okT_one (size_ne a2) (fstI_of a1) htD
      have hn : finT t [(t, headB y)] = if flatK y.kd then (t : Int) else (t : Int) + 1 := by
        show nxtI t (headB y) = _
        unfold nxtI
        rw [fstI_of a1]
        show (if (hL y).getLast? = some 123 then _ else _) = _
        rw [a3]
        cases flatK y.kd with
        | true => rfl
        | false => rfl
      have cE : okT D ((t : Nat) + 1 : Int) [(t, elseB)] := okT_one (by decide) (by unfold fstI; rw [if_pos (by decide)]; omega) htD
      have nE : finT ((t : Nat) + 1 : Int) [(t, elseB)] = (t : Int) + 1 := by
        show nxtI _ elseB = _
        unfold nxtI fstI
        rw [if_pos (by decide), if_pos (by decide)]; omega
      have cZ : okT D ((t : Nat) + 1 : Int) [(t, endB)] := okT_one (by decide) (by unfold fstI; rw [if_pos (by decide)]; omega) htD
      have nZ : finT ((t : Nat) + 1 : Int) [(t, endB)] = (t : Int) := by
        show nxtI _ endB = _
        unfold nxtI fstI
        rw [if_neg (by decide), if_pos (by decide)]; omega
      have ey : ((t + 1 : Nat) : Int) = (t : Int) + 1 := by omega
      rw [ey] at b1 b2 e1 e2
      have hy : okT D t (linesS t y) ∧ finT t (linesS t y) = t := by
        rw [linesS_eq]
        cases hf : flatK y.kd with
        | true =>
          rw [hf] at hn
          exact ⟨hh, hn⟩
        | false =>
          rw [hf] at hn
          simp only [Bool.false_eq_true, if_false] at hn ⊢
          have hc2 : ∀ m : List Ln, (t, headB y) :: m = [(t, headB y)] ++ m := fun _ => rfl
          cases he : y.el.isEmpty with
          | true =>
            simp only [if_true, List.nil_append]
            rw [hc2, okT_app, finT_app, okT_app, finT_app, hn, b2]
            exact ⟨⟨hh, b1, cZ⟩, nZ⟩
          | false =>
            simp only [Bool.false_eq_true, if_false]
            have hc3 : ∀ m : List Ln, (t, elseB) :: m = [(t, elseB)] ++ m := fun _ => rfl
            rw [hc2, hc3]
            simp only [okT_app, finT_app, hn, b2, nE, e2]
            exact ⟨⟨hh, b1, ⟨cE, e1⟩, cZ⟩, nZ⟩
      rw [linesL, okT_app, finT_app, hy.2]
      exact ⟨⟨hy.1, r1⟩, r2⟩
end Go.Proofs.YtnahgfdoiflacaaGreatDoor
