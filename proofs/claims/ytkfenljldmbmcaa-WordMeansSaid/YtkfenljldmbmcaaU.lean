/- The table of the operations of the language: whatever order its entries are made in. -/
import Derived.Test.YtkfenljldmbmcaaQ
set_option linter.unusedSimpArgs false
set_option linter.unusedVariables false
namespace Go.Proofs.Ytkfenljldmbmcaa
open Go.RowKit Go.MapKept
open Go.ChangeMaps (setBlock heap_setBlock_same heap_setBlock_other)

def fnOf (k : Nat) : Nat := if k ≤ 15 then k + 51 else k + 52
def clos (p : Nat) : Value := .func (.func 52) #[] #[.pointer (some ⟨p, 0, none⟩)]
/-- the box of the function of operation k -/
def GoodB (w0 w : World) (k p : Nat) : Prop :=
  w0.heap.size ≤ p ∧ if k ≤ 16 then HasCell w p (.func (.func (fnOf k)) #[] #[]) else ∃ q, HasCell w p (.func (.func 54) #[] #[.pointer (some ⟨q, 0, none⟩)]) ∧ HasCell w q (.func (.func (fnOf k)) #[] #[])
def ValOK (w0 w : World) (m : Nat) (v : Value) : Prop :=
  if m = 4 then v = .func (.func 55) #[] #[] else if m = 5 then v = .func (.func 56) #[] #[] else if m = 21 then v = .func (.func 73) #[] #[] else ∃ p, v = clos p ∧ GoodB w0 w m p
def insIdx (m : Nat) : Nat := if m = 4 then 1 else if m = 5 then 2 else if m = 21 then 48 else 3 * m - 13
def MapI (w0 w : World) (b : Nat) (L : Nat → Bool) : Prop :=
  w0.heap.size ≤ b ∧ ∃ es clock, w.heap[b]? = some (.map es clock) ∧ ∀ m, 4 ≤ m → m ≤ 21 →
    if L (insIdx m) = true then ∃ i v, Instr.findNow (.int .i64) (.int .i64 (m : Int)) es.toList 0 = some (some (i, v)) ∧ ValOK w0 w m v else Instr.findNow (.int .i64) (.int .i64 (m : Int)) es.toList 0 = some none
def slot (a : Act) (t : Nat) : Value := a.tmps.getD t undef
/-- what stands at whatever point of the region -/
structure EI (w0 : World) (p1 : Nat) (L : Nat → Bool) (a : Act) (w : World) : Prop where
  d : a.defers = []
  sz : a.tmps.size = 36
  s1 : slot a 1 = .pointer (some ⟨p1, 0, none⟩)
  s2 : slot a 2 = .func (.func 53) #[] #[.pointer (some ⟨p1, 0, none⟩)]
  ld : ∀ k, 6 ≤ k → k ≤ 16 → L (3 * k - 15) = true → slot a (2 * k - 7) = .func (.func 51) #[] #[]
  mv : ∀ k, 17 ≤ k → k ≤ 20 → L (3 * k - 15) = true → slot a (2 * k - 7) = .func (.func 53) #[] #[.pointer (some ⟨p1, 0, none⟩)]
  cl : ∀ k, 6 ≤ k → k ≤ 20 → L (3 * k - 14) = true → ∃ p, slot a (2 * k - 6) = clos p ∧ GoodB w0 w k p
  mp : L 0 = true → ∃ b, slot a 4 = .map (some b) ∧ MapI w0 w b L
  no : L 0 = false → ∀ m, 4 ≤ m → m ≤ 21 → L (insIdx m) = false
  m35 : L 49 = true → L 0 = true ∧ slot a 35 = slot a 4
  a0 : L 50 = true → L 0 = true ∧ slot a 0 = slot a 4
  cell : HasCell w p1 (.func (.func 51) #[] #[])
  bel : Below w0.heap.size w0 w

theorem slot_put {a : Act} {d : Nat} {v : Value} (hd : d < a.tmps.size) (t : Nat) : slot (a.put (some d) v) t = if t = d then v else slot a t := by
  unfold slot Act.put
  simp only [Array.getD_eq_getD_getElem?]
  by_cases h : t = d
  · subst h; simp [hd]
  · rw [if_neg h, Array.getElem?_setIfInBounds_ne (Ne.symm h)]
theorem put_defers (a : Act) (d : Option Nat) (v : Value) : (a.put d v).defers = a.defers := by cases d <;> rfl
theorem put_size (a : Act) (d : Option Nat) (v : Value) : (a.put d v).tmps.size = a.tmps.size := by cases d <;> simp [Act.put]

/-- boxes stay -/
def Keeps (w w' : World) : Prop := ∀ p v, HasCell w p v → HasCell w' p v
theorem Keeps.good {w0 w w' : World} (h : Keeps w w') {k p : Nat} (g : GoodB w0 w k p) : GoodB w0 w' k p := by
  obtain ⟨hp, hg⟩ := g
  refine ⟨hp, ?_⟩
  split at hg
  · rename_i hk; rw [if_pos hk]; exact h _ _ hg
  · rename_i hk; rw [if_neg hk]; obtain ⟨q, h1, h2⟩ := hg; exact ⟨q, h _ _ h1, h _ _ h2⟩
theorem Keeps.val {w0 w w' : World} (h : Keeps w w') {m : Nat} {v : Value} (g : ValOK w0 w m v) : ValOK w0 w' m v := by
  unfold ValOK at *
  split
  · rename_i hm; rw [if_pos hm] at g; exact g
  rename_i h4; rw [if_neg h4] at g
  split
  · rename_i hm; rw [if_pos hm] at g; exact g
  rename_i h5; rw [if_neg h5] at g
  split
  · rename_i hm; rw [if_pos hm] at g; exact g
  rename_i h21; rw [if_neg h21] at g
  obtain ⟨p, hv, hg⟩ := g
  exact ⟨p, hv, h.good hg⟩
theorem keeps_box {w w' : World} {v : Value} (h : BoxOf w w' v) : Keeps w w' := by
  obtain ⟨t, rfl⟩ := h
  intro p u ⟨t', ht⟩
  exact ⟨t', ((heap_alloc w _).2 _ (lt_of_block ht)).trans ht⟩
theorem keeps_refl (w : World) : Keeps w w := fun _ _ h => h
theorem box_cell {w w' : World} {v : Value} (h : BoxOf w w' v) : HasCell w' w.heap.size v := by
  obtain ⟨t, rfl⟩ := h
  exact ⟨t, (heap_alloc w _).1⟩
theorem keeps_set {w : World} {b : Nat} {es es' : Array MapEntry} {clock clock' : Nat} (hb : w.heap[b]? = some (.map es clock)) : Keeps w (setBlock w b (.map es' clock')) := by
  intro p u ⟨t, ht⟩
  refine ⟨t, (heap_setBlock_other hb _ ?_).trans ht⟩
  rintro rfl
  rw [hb] at ht; cases ht
/-- the map stays while blocks are made -/
theorem MapI.box {w0 w w' : World} {b : Nat} {L : Nat → Bool} {v : Value} (h : MapI w0 w b L) (hx : BoxOf w w' v) : MapI w0 w' b L := by
  have hk := keeps_box hx
  obtain ⟨hb, es, clock, he, hm⟩ := h
  refine ⟨hb, es, clock, ?_, ?_⟩
  · obtain ⟨t, rfl⟩ := hx
    exact ((heap_alloc w _).2 _ (lt_of_block he)).trans he
  · intro m h4 h21
    have := hm m h4 h21
    split at this
    · rename_i hl; rw [if_pos hl]; obtain ⟨i, v, h1, h2⟩ := this; exact ⟨i, v, h1, hk.val h2⟩
    · rename_i hl; rw [if_neg hl]; exact this
theorem MapI.also {w0 w : World} {b : Nat} {L : Nat → Bool} (h : MapI w0 w b L) (i : Nat) (hi : ∀ m, 4 ≤ m → m ≤ 21 → insIdx m ≠ i) : MapI w0 w b (alsoL L i) := by
  obtain ⟨hb, es, clock, he, hm⟩ := h
  refine ⟨hb, es, clock, he, ?_⟩
  intro m h4 h21
  have : alsoL L i (insIdx m) = L (insIdx m) := by unfold alsoL; rw [if_neg (hi m h4 h21)]
  rw [this]
  exact hm m h4 h21

theorem findNow_push (k kx : Int) (x : MapEntry) (hx : x.key = .int .i64 kx) : ∀ (l : List MapEntry) (i : Nat),
    Instr.findNow (.int .i64) (.int .i64 k) (l ++ [x]) i = (match Instr.findNow (.int .i64) (.int .i64 k) l i with | some none => if k = kx then some (some (i + l.length, x.val)) else some none | r => r)
  | [], i => by
    by_cases h : k = kx
    · subst h; simp [Instr.findNow, Instr.sameNow, hx]
    · have : (k == kx) = false := by simpa using h
      simp [Instr.findNow, Instr.sameNow, hx, this, h]
  | e :: l, i => by
    have ih := findNow_push k kx x hx l (i + 1)
    simp only [List.cons_append, Instr.findNow]
    rcases hs : Instr.sameNow (.int .i64) (.int .i64 k) e.key with _ | _ | _
    · rfl
    · rw [show (false : Bool) = false from rfl]; dsimp only; rw [ih]
      rw [show i + (e :: l).length = i + 1 + l.length from by simp; omega]
    · rfl

theorem insIdx_inj {m n : Nat} (h1 : 4 ≤ m) (h2 : m ≤ 21) (h3 : 4 ≤ n) (h4 : n ≤ 21) (h : insIdx m = insIdx n) : m = n := by
  unfold insIdx at h
  repeat' split at h
  all_goals omega
theorem MapI.insert {w0 w : World} {b : Nat} {L : Nat → Bool} {m : Nat} {v : Value} (h : MapI w0 w b L) (h4 : 4 ≤ m) (h21 : m ≤ 21) (hL : L (insIdx m) = false) (hv : ValOK w0 w m v) :
    ∃ es clock, w.heap[b]? = some (.map es clock) ∧ Instr.findNow (.int .i64) (.int .i64 (m : Int)) es.toList 0 = some none ∧ MapI w0 (setBlock w b (.map (es.push ⟨.int .i64 (m : Int), v, clock⟩) (clock + 1))) b (alsoL L (insIdx m)) := by
  obtain ⟨hb, es, clock, he, hm⟩ := h
  have hno := hm m h4 h21
  rw [hL, if_neg (by simp)] at hno
  have hk := keeps_set (es' := es.push ⟨.int .i64 (m : Int), v, clock⟩) (clock' := clock + 1) he
  refine ⟨es, clock, he, hno, hb, _, _, heap_setBlock_same he _, ?_⟩
  intro n n4 n21
  have hp := findNow_push (n : Int) (m : Int) ⟨.int .i64 (m : Int), v, clock⟩ rfl es.toList 0
  rw [Array.toList_push, hp]
  by_cases hnm : n = m
  · subst hnm
    have : alsoL L (insIdx n) (insIdx n) = true := by simp [alsoL]
    rw [this, if_pos rfl, hno]
    exact ⟨es.size, v, by simp, hk.val hv⟩
  · have e1 : alsoL L (insIdx m) (insIdx n) = L (insIdx n) := by
      unfold alsoL; rw [if_neg (fun hh => hnm (insIdx_inj n4 n21 h4 h21 hh))]
    have hx := hm n n4 n21
    rw [e1]
    split at hx
    · rename_i hl
      rw [if_pos hl]
      obtain ⟨i, u, h1, h2⟩ := hx
      exact ⟨i, u, by rw [h1], hk.val h2⟩
    · rename_i hl
      rw [if_neg hl, hx]
      simp; omega

/-! what each operation does to what stands -/
section
variable {w0 w : World} {p1 : Nat} {L : Nat → Bool} {a : Act}

theorem alsoL_ne {i j : Nat} (h : j ≠ i) : alsoL L i j = L j := by unfold alsoL; rw [if_neg h]
theorem alsoL_eq {i : Nat} : alsoL L i i = true := by simp [alsoL]

theorem insIdx_cases {m : Nat} (h1 : 4 ≤ m) (h2 : m ≤ 21) : (m = 4 ∧ insIdx m = 1) ∨ (m = 5 ∧ insIdx m = 2) ∨ (m = 21 ∧ insIdx m = 48) ∨ (6 ≤ m ∧ m ≤ 20 ∧ insIdx m = 3 * m - 13) := by
  unfold insIdx
  by_cases e4 : m = 4
  · simp [e4]
  by_cases e5 : m = 5
  · simp [e5]
  by_cases e21 : m = 21
  · simp [e21]
  · simp [e4, e5, e21]; omega
theorem below_box {w0 w w' : World} {v : Value} (h : Below w0.heap.size w0 w) (hx : BoxOf w w' v) : Below w0.heap.size w0 w' := by
  obtain ⟨t, rfl⟩ := hx
  exact h.alloc h.size _

/-- a load -/
theorem EI.load (h : EI w0 p1 L a w) (k : Nat) (k6 : 6 ≤ k) (k16 : k ≤ 16) : EI w0 p1 (alsoL L (3 * k - 15)) (a.put (some (2 * k - 7)) (.func (.func 51) #[] #[])) w := by
  have hs := fun t => slot_put (a := a) (d := 2 * k - 7) (v := .func (.func 51) #[] #[]) (by rw [h.sz]; omega) t
  have hi : ∀ m, 4 ≤ m → m ≤ 21 → insIdx m ≠ 3 * k - 15 := fun m m4 m21 => by have := insIdx_cases m4 m21; omega
  constructor
  · rw [put_defers]; exact h.d
  · rw [put_size]; exact h.sz
  · rw [hs, if_neg (by omega)]; exact h.s1
  · rw [hs, if_neg (by omega)]; exact h.s2
  · intro j j6 j16 hj
    rw [hs]
    by_cases e : j = k
    · subst e; rw [if_pos rfl]
    · rw [if_neg (by omega)]; rw [alsoL_ne (by omega)] at hj; exact h.ld j j6 j16 hj
  · intro j j6 j16 hj
    rw [hs, if_neg (by omega)]; rw [alsoL_ne (by omega)] at hj; exact h.mv j j6 j16 hj
  · intro j j6 j16 hj
    rw [hs, if_neg (by omega)]; rw [alsoL_ne (by omega)] at hj; exact h.cl j j6 j16 hj
  · intro h0
    rw [alsoL_ne (by omega)] at h0
    rw [hs, if_neg (by omega)]
    obtain ⟨b, e1, e2⟩ := h.mp h0
    exact ⟨b, e1, MapI.also e2 _ hi⟩
  · intro h0 m m4 m21
    rw [alsoL_ne (by omega)] at h0
    rw [alsoL_ne (hi m m4 m21)]; exact h.no h0 m m4 m21
  · intro h0
    rw [alsoL_ne (by omega)] at h0
    rw [alsoL_ne (by omega), hs, hs, if_neg (by omega), if_neg (by omega)]; exact h.m35 h0
  · intro h0
    rw [alsoL_ne (by omega)] at h0
    rw [alsoL_ne (by omega), hs, hs, if_neg (by omega), if_neg (by omega)]; exact h.a0 h0
  · exact h.cell
  · exact h.bel

/-- a move of the maker of tests -/
theorem EI.move (h : EI w0 p1 L a w) (k : Nat) (k6 : 17 ≤ k) (k16 : k ≤ 20) : EI w0 p1 (alsoL L (3 * k - 15)) (a.put (some (2 * k - 7)) (.func (.func 53) #[] #[.pointer (some ⟨p1, 0, none⟩)])) w := by
  have hs := fun t => slot_put (a := a) (d := 2 * k - 7) (v := .func (.func 53) #[] #[.pointer (some ⟨p1, 0, none⟩)]) (by rw [h.sz]; omega) t
  have hi : ∀ m, 4 ≤ m → m ≤ 21 → insIdx m ≠ 3 * k - 15 := fun m m4 m21 => by have := insIdx_cases m4 m21; omega
  constructor
  · rw [put_defers]; exact h.d
  · rw [put_size]; exact h.sz
  · rw [hs, if_neg (by omega)]; exact h.s1
  · rw [hs, if_neg (by omega)]; exact h.s2
  · intro j j6 j16 hj
    rw [hs, if_neg (by omega)]; rw [alsoL_ne (by omega)] at hj; exact h.ld j j6 j16 hj
  · intro j j6 j16 hj
    rw [hs]
    by_cases e : j = k
    · subst e; rw [if_pos rfl]
    · rw [if_neg (by omega)]; rw [alsoL_ne (by omega)] at hj; exact h.mv j j6 j16 hj
  · intro j j6 j16 hj
    rw [hs, if_neg (by omega)]; rw [alsoL_ne (by omega)] at hj; exact h.cl j j6 j16 hj
  · intro h0
    rw [alsoL_ne (by omega)] at h0
    rw [hs, if_neg (by omega)]
    obtain ⟨b, e1, e2⟩ := h.mp h0
    exact ⟨b, e1, MapI.also e2 _ hi⟩
  · intro h0 m m4 m21
    rw [alsoL_ne (by omega)] at h0
    rw [alsoL_ne (hi m m4 m21)]; exact h.no h0 m m4 m21
  · intro h0
    rw [alsoL_ne (by omega)] at h0
    rw [alsoL_ne (by omega), hs, hs, if_neg (by omega), if_neg (by omega)]; exact h.m35 h0
  · intro h0
    rw [alsoL_ne (by omega)] at h0
    rw [alsoL_ne (by omega), hs, hs, if_neg (by omega), if_neg (by omega)]; exact h.a0 h0
  · exact h.cell
  · exact h.bel

/-- a call: the new function's box is p -/
theorem EI.call (h : EI w0 p1 L a w) (k p : Nat) (k6 : 6 ≤ k) (k16 : k ≤ 20) {w' : World} (hk : Keeps w w') (hmap : ∀ b, MapI w0 w b L → MapI w0 w' b L) (hbel : Below w0.heap.size w0 w') (hg : GoodB w0 w' k p) :
    EI w0 p1 (alsoL L (3 * k - 14)) (a.put (some (2 * k - 6)) (clos p)) w' := by
  have hs := fun t => slot_put (a := a) (d := 2 * k - 6) (v := clos p) (by rw [h.sz]; omega) t
  have hi : ∀ m, 4 ≤ m → m ≤ 21 → insIdx m ≠ 3 * k - 14 := fun m m4 m21 => by have := insIdx_cases m4 m21; omega
  have hnew : ∃ q, clos p = clos q ∧ GoodB w0 w' k q := ⟨p, rfl, hg⟩
  constructor
  · rw [put_defers]; exact h.d
  · rw [put_size]; exact h.sz
  · rw [hs, if_neg (by omega)]; exact h.s1
  · rw [hs, if_neg (by omega)]; exact h.s2
  · intro j j6 j16 hj
    rw [hs, if_neg (by omega)]; rw [alsoL_ne (by omega)] at hj; exact h.ld j j6 j16 hj
  · intro j j6 j16 hj
    rw [hs, if_neg (by omega)]; rw [alsoL_ne (by omega)] at hj; exact h.mv j j6 j16 hj
  · intro j j6 j16 hj
    rw [hs]
    by_cases e : j = k
    · subst e; rw [if_pos rfl]; exact hnew
    · rw [if_neg (by omega)]; rw [alsoL_ne (by omega)] at hj; obtain ⟨p, e1, e2⟩ := h.cl j j6 j16 hj; exact ⟨p, e1, hk.good e2⟩
  · intro h0
    rw [alsoL_ne (by omega)] at h0
    rw [hs, if_neg (by omega)]
    obtain ⟨b, e1, e2⟩ := h.mp h0
    exact ⟨b, e1, (hmap b e2).also _ hi⟩
  · intro h0 m m4 m21
    rw [alsoL_ne (by omega)] at h0
    rw [alsoL_ne (hi m m4 m21)]; exact h.no h0 m m4 m21
  · intro h0
    rw [alsoL_ne (by omega)] at h0
    rw [alsoL_ne (by omega), hs, hs, if_neg (by omega), if_neg (by omega)]; exact h.m35 h0
  · intro h0
    rw [alsoL_ne (by omega)] at h0
    rw [alsoL_ne (by omega), hs, hs, if_neg (by omega), if_neg (by omega)]; exact h.a0 h0
  · exact hk _ _ h.cell
  · exact hbel

theorem EI.two (h : EI w0 p1 L a w) (k : Nat) (k6 : 6 ≤ k) (k16 : k ≤ 16) {w' : World} (hb : BoxOf w w' (.func (.func (fnOf k)) #[] #[])) :
    EI w0 p1 (alsoL L (3 * k - 14)) (a.put (some (2 * k - 6)) (clos w.heap.size)) w' :=
  h.call k _ k6 (by omega) (keeps_box hb) (fun _ hm => hm.box hb) (below_box h.bel hb) ⟨h.bel.size, by rw [if_pos k16]; exact box_cell hb⟩
theorem EI.is (h : EI w0 p1 L a w) (k : Nat) (k6 : 17 ≤ k) (k16 : k ≤ 20) {w1 w' : World} (hb : BoxOf w w1 (.func (.func (fnOf k)) #[] #[])) (hb2 : BoxOf w1 w' (.func (.func 54) #[] #[.pointer (some ⟨w.heap.size, 0, none⟩)])) :
    EI w0 p1 (alsoL L (3 * k - 14)) (a.put (some (2 * k - 6)) (clos w1.heap.size)) w' :=
  h.call k _ (by omega) k16 (fun p v hc => keeps_box hb2 p v (keeps_box hb p v hc)) (fun _ hm => (hm.box hb).box hb2) (below_box (below_box h.bel hb) hb2)
    ⟨(below_box h.bel hb).size, by rw [if_neg (by omega)]; exact ⟨w.heap.size, box_cell hb2, keeps_box hb2 _ _ (box_cell hb)⟩⟩
/-- the map is made -/
theorem EI.make (h : EI w0 p1 L a w) (hL : L 0 = false) : EI w0 p1 (alsoL L 0) (a.put (some 4) (.map (some w.heap.size))) (w.alloc (.map #[] 0)) := by
  have hs := fun t => slot_put (a := a) (d := 4) (v := .map (some w.heap.size)) (by rw [h.sz]; omega) t
  have hi : ∀ m, 4 ≤ m → m ≤ 21 → insIdx m ≠ 0 := fun m m4 m21 => by have := insIdx_cases m4 m21; omega
  have hk : Keeps w (w.alloc (.map #[] 0)) := fun p v ⟨t, ht⟩ => ⟨t, ((heap_alloc w _).2 _ (lt_of_block ht)).trans ht⟩
  constructor
  · rw [put_defers]; exact h.d
  · rw [put_size]; exact h.sz
  · rw [hs, if_neg (by omega)]; exact h.s1
  · rw [hs, if_neg (by omega)]; exact h.s2
  · intro j j6 j16 hj
    rw [hs, if_neg (by omega)]; rw [alsoL_ne (by omega)] at hj; exact h.ld j j6 j16 hj
  · intro j j6 j16 hj
    rw [hs, if_neg (by omega)]; rw [alsoL_ne (by omega)] at hj; exact h.mv j j6 j16 hj
  · intro j j6 j16 hj
    rw [hs, if_neg (by omega)]; rw [alsoL_ne (by omega)] at hj; obtain ⟨p, e1, e2⟩ := h.cl j j6 j16 hj; exact ⟨p, e1, hk.good e2⟩
  · intro _
    refine ⟨w.heap.size, by rw [hs, if_pos rfl], h.bel.size, #[], 0, (heap_alloc w _).1, ?_⟩
    intro m m4 m21
    rw [alsoL_ne (hi m m4 m21), h.no hL m m4 m21, if_neg (by simp)]
    rfl
  · intro h0; rw [alsoL_eq] at h0; cases h0
  · intro h0
    rw [alsoL_ne (by omega)] at h0
    have := (h.m35 h0).1; rw [hL] at this; cases this
  · intro h0
    rw [alsoL_ne (by omega)] at h0
    have := (h.a0 h0).1; rw [hL] at this; cases this
  · exact hk _ _ h.cell
  · exact h.bel.alloc h.bel.size _
/-- an entry -/
theorem EI.ins (h : EI w0 p1 L a w) (m : Nat) (v : Value) (m4 : 4 ≤ m) (m21 : m ≤ 21) (h0 : L 0 = true) (hL : L (insIdx m) = false) (hv : ValOK w0 w m v) :
    ∃ b es clock, slot a 4 = .map (some b) ∧ w.heap[b]? = some (.map es clock) ∧ Instr.findNow (.int .i64) (.int .i64 (m : Int)) es.toList 0 = some none ∧
      EI w0 p1 (alsoL L (insIdx m)) a (setBlock w b (.map (es.push ⟨.int .i64 (m : Int), v, clock⟩) (clock + 1))) := by
  obtain ⟨b, e1, e2⟩ := h.mp h0
  obtain ⟨es, clock, he, hno, hm⟩ := e2.insert m4 m21 hL hv
  have hi := insIdx_cases m4 m21
  have hk := keeps_set (es' := es.push ⟨.int .i64 (m : Int), v, clock⟩) (clock' := clock + 1) he
  have hb0 : w0.heap.size ≤ b := e2.1
  refine ⟨b, es, clock, e1, he, hno, ?_⟩
  constructor
  · exact h.d
  · exact h.sz
  · exact h.s1
  · exact h.s2
  · intro j j6 j16 hj
    rw [alsoL_ne (by omega)] at hj; exact h.ld j j6 j16 hj
  · intro j j6 j16 hj
    rw [alsoL_ne (by omega)] at hj; exact h.mv j j6 j16 hj
  · intro j j6 j16 hj
    rw [alsoL_ne (by omega)] at hj; obtain ⟨p, e1, e2⟩ := h.cl j j6 j16 hj; exact ⟨p, e1, hk.good e2⟩
  · intro _; exact ⟨b, e1, hm⟩
  · intro hn; rw [alsoL_ne (by omega), h0] at hn; cases hn
  · intro hj
    rw [alsoL_ne (by omega)] at hj
    rw [alsoL_ne (by omega)]; exact h.m35 hj
  · intro hj
    rw [alsoL_ne (by omega)] at hj
    rw [alsoL_ne (by omega)]; exact h.a0 hj
  · exact hk _ _ h.cell
  · exact ⟨h.bel.os, h.bel.tape, h.bel.output, by simpa [setBlock] using h.bel.size, fun k hk' => (heap_setBlock_other he _ (by omega)).trans (h.bel.block k hk')⟩
/-- the map's value goes on -/
theorem EI.on35 (h : EI w0 p1 L a w) (h0 : L 0 = true) : EI w0 p1 (alsoL L 49) (a.put (some 35) (slot a 4)) w := by
  have hs := fun t => slot_put (a := a) (d := 35) (v := slot a 4) (by rw [h.sz]; omega) t
  have hi : ∀ m, 4 ≤ m → m ≤ 21 → insIdx m ≠ 49 := fun m m4 m21 => by have := insIdx_cases m4 m21; omega
  constructor
  · rw [put_defers]; exact h.d
  · rw [put_size]; exact h.sz
  · rw [hs, if_neg (by omega)]; exact h.s1
  · rw [hs, if_neg (by omega)]; exact h.s2
  · intro j j6 j16 hj
    rw [hs, if_neg (by omega)]; rw [alsoL_ne (by omega)] at hj; exact h.ld j j6 j16 hj
  · intro j j6 j16 hj
    rw [hs, if_neg (by omega)]; rw [alsoL_ne (by omega)] at hj; exact h.mv j j6 j16 hj
  · intro j j6 j16 hj
    rw [hs, if_neg (by omega)]; rw [alsoL_ne (by omega)] at hj; exact h.cl j j6 j16 hj
  · intro hj
    rw [alsoL_ne (by omega)] at hj
    rw [hs, if_neg (by omega)]
    obtain ⟨b, e1, e2⟩ := h.mp hj
    exact ⟨b, e1, e2.also _ hi⟩
  · intro hn m m4 m21
    rw [alsoL_ne (by omega)] at hn
    rw [alsoL_ne (hi m m4 m21)]; exact h.no hn m m4 m21
  · intro _
    rw [alsoL_ne (by omega), hs, hs, if_pos rfl, if_neg (by omega)]; exact ⟨h0, rfl⟩
  · intro hj
    rw [alsoL_ne (by omega)] at hj
    rw [alsoL_ne (by omega), hs, hs, if_neg (by omega), if_neg (by omega)]; exact h.a0 hj
  · exact h.cell
  · exact h.bel
theorem EI.on0 (h : EI w0 p1 L a w) (h9 : L 49 = true) : EI w0 p1 (alsoL L 50) (a.put (some 0) (slot a 35)) w := by
  have hs := fun t => slot_put (a := a) (d := 0) (v := slot a 35) (by rw [h.sz]; omega) t
  have hi : ∀ m, 4 ≤ m → m ≤ 21 → insIdx m ≠ 50 := fun m m4 m21 => by have := insIdx_cases m4 m21; omega
  constructor
  · rw [put_defers]; exact h.d
  · rw [put_size]; exact h.sz
  · rw [hs, if_neg (by omega)]; exact h.s1
  · rw [hs, if_neg (by omega)]; exact h.s2
  · intro j j6 j16 hj
    rw [hs, if_neg (by omega)]; rw [alsoL_ne (by omega)] at hj; exact h.ld j j6 j16 hj
  · intro j j6 j16 hj
    rw [hs, if_neg (by omega)]; rw [alsoL_ne (by omega)] at hj; exact h.mv j j6 j16 hj
  · intro j j6 j16 hj
    rw [hs, if_neg (by omega)]; rw [alsoL_ne (by omega)] at hj; exact h.cl j j6 j16 hj
  · intro hj
    rw [alsoL_ne (by omega)] at hj
    rw [hs, if_neg (by omega)]
    obtain ⟨b, e1, e2⟩ := h.mp hj
    exact ⟨b, e1, e2.also _ hi⟩
  · intro hn m m4 m21
    rw [alsoL_ne (by omega)] at hn
    rw [alsoL_ne (hi m m4 m21)]; exact h.no hn m m4 m21
  · intro hj
    rw [alsoL_ne (by omega)] at hj
    rw [alsoL_ne (by omega), hs, hs, if_neg (by omega), if_neg (by omega)]; exact h.m35 hj
  · intro _
    rw [alsoL_ne (by omega), hs, hs, if_pos rfl, if_neg (by omega)]; exact h.m35 h9
  · exact h.cell
  · exact h.bel
end

end Go.Proofs.Ytkfenljldmbmcaa
