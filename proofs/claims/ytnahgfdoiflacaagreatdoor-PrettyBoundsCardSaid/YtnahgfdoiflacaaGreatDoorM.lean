/- Expressions: the model; where they lie. -/
import Derived.Test.YtnahgfdoiflacaaGreatDoorA
import Derived.BigQuiet
set_option linter.unusedSimpArgs false
set_option linter.unusedVariables false
namespace Go.Proofs.YtnahgfdoiflacaaGreatDoor
open Go.RowKit Go.Lib Go.Shelf

inductive Ex where
  | node (op : Int) (u : Nat) (nm : ByteArray) (ars : List Ex)
def Ex.op : Ex → Int | .node op _ _ _ => op
def Ex.u : Ex → Nat | .node _ u _ _ => u
def Ex.nm : Ex → ByteArray | .node _ _ nm _ => nm
def Ex.ars : Ex → List Ex | .node _ _ _ ars => ars
mutual
def depE : Ex → Nat | .node _ _ _ ars => depL ars + 1
def depL : List Ex → Nat
  | [] => 0
  | e :: es => max (depE e) (depL es)
end
mutual
def cntE : Ex → Nat | .node _ _ nm ars => 1 + nm.size + cntL ars
def cntL : List Ex → Nat
  | [] => 0
  | e :: es => cntE e + cntL es
end
theorem depL_take {es : List Ex} : ∀ k {x : Ex}, es[k]? = some x → depL (es.take (k + 1)) = max (depL (es.take k)) (depE x) := by
  induction es with
  | nil => intro k x h; cases h
  | cons e es ih =>
    intro k x h
    cases k with
    | zero => cases h; simp [depL]
    | succ k =>
      rw [List.take_succ_cons, List.take_succ_cons, depL, depL, ih k h]
      omega
theorem cntL_take {es : List Ex} : ∀ k {x : Ex}, es[k]? = some x → cntL (es.take (k + 1)) = cntL (es.take k) + cntE x := by
  induction es with
  | nil => intro k x h; cases h
  | cons e es ih =>
    intro k x h
    cases k with
    | zero => cases h; simp [cntL]
    | succ k =>
      rw [List.take_succ_cons, List.take_succ_cons, cntL, cntL, ih k h]
      omega
theorem cntL_mono {es : List Ex} : ∀ k, cntL (es.take k) ≤ cntL es := by
  induction es with
  | nil => intro k; simp [cntL]
  | cons e es ih =>
    intro k
    cases k with
    | zero => simp [cntL]
    | succ k => rw [List.take_succ_cons, cntL, cntL]; have := ih k; omega
def argsN (op : Int) : Int := if op = 1 ∨ op = 2 then 0 else if 3 ≤ op ∧ op ≤ 5 then 1 else if 6 ≤ op ∧ op ≤ 20 then 2 else if op = 21 then 3 else -1
mutual
def mayE (N : ByteArray → Bool) : Ex → Bool
  | .node op u nm ars => (if op = 2 ∨ op = 3 then N nm else decide (nm.size = 0)) && (decide (op = 1) || decide (u = 0)) && decide (argsN op = ars.length) && mayL N ars
def mayL (N : ByteArray → Bool) : List Ex → Bool
  | [] => true
  | e :: es => mayE N e && mayL N es
end
theorem mayL_all (N : ByteArray → Bool) : ∀ es, mayL N es = es.all (mayE N)
  | [] => rfl
  | e :: es => by rw [mayL, mayL_all N es, List.all_cons]
def signTab : List (List UInt8) := [[43], [45], [42], [38], [124], [94], [60, 60], [62, 62], [62, 62, 62], [60, 60, 60], [62, 62, 62, 62], [61, 61], [33, 61], [60], [60, 61]]
def signT (op : Int) : List UInt8 := signTab.getD (op - 6).toNat []
theorem signT_len (op : Int) : (signT op).length ≤ 4 := by
  unfold signT
  rw [List.getD_eq_getElem?_getD]
  cases h : signTab[(op - 6).toNat]? with
  | none => simp
  | some l =>
    have hm := List.mem_of_getElem? h
    have : ∀ l ∈ signTab, l.length ≤ 4 := by decide
    exact this l hm
/-- texts with a comma and a blank between -/
def commas : List (List UInt8) → List UInt8
  | [] => []
  | [x] => x
  | x :: y :: r => x ++ 44 :: 32 :: commas (y :: r)
theorem commas_len : ∀ l : List (List UInt8), (commas l).length ≤ (l.map List.length).sum + 2 * l.length
  | [] => Nat.zero_le _
  | [x] => by simp [commas]
  | x :: y :: r => by
    have := commas_len (y :: r)
    rw [commas, List.length_append, List.length_cons, List.length_cons, List.map_cons, List.sum_cons, List.length_cons]
    omega
mutual
def txtE (D : Nat → List UInt8) : Ex → List UInt8
  | .node op u nm ars =>
    if op = 1 then D u else if op = 2 then nm.data.toList else if op = 3 then nm.data.toList ++ 91 :: ((txtL D ars).getD 0 [] ++ [93]) else if op = 4 then 126 :: (txtL D ars).getD 0 [] else if op = 5 then 45 :: (txtL D ars).getD 0 []
    else if op = 21 then 112 :: 105 :: 99 :: 107 :: 40 :: (commas (txtL D ars) ++ [41]) else 40 :: ((txtL D ars).getD 0 [] ++ 32 :: (signT op ++ 32 :: ((txtL D ars).getD 1 [] ++ [41])))
def txtL (D : Nat → List UInt8) : List Ex → List (List UInt8)
  | [] => []
  | e :: es => txtE D e :: txtL D es
end
theorem txtL_map (D : Nat → List UInt8) : ∀ es, txtL D es = es.map (txtE D)
  | [] => rfl
  | e :: es => by rw [txtL, txtL_map D es, List.map_cons]
theorem getD_len (l : List (List UInt8)) (i : Nat) : (l.getD i []).length ≤ (l.map List.length).sum := by
  rw [List.getD_eq_getElem?_getD]
  cases h : l[i]? with
  | none => simp
  | some x =>
    have hm := List.mem_of_getElem? h
    clear h
    induction l with
    | nil => cases hm
    | cons y r ih =>
      rw [List.map_cons, List.sum_cons]
      rcases List.mem_cons.1 hm with rfl | hm
      · simp
      · have := ih hm; simp at this ⊢; omega
theorem get2_len (l : List (List UInt8)) : (l.getD 0 []).length + (l.getD 1 []).length ≤ (l.map List.length).sum := by
  match l with
  | [] => simp
  | [x] => simp
  | x :: y :: r => simp
mutual
theorem txtE_len (D : Nat → List UInt8) (hD : ∀ u, (D u).length ≤ 20) : ∀ e, (txtE D e).length + 2 ≤ 24 * cntE e
  | .node op u nm ars => by
    have h := txtL_len D hD ars
    have h0 := getD_len (txtL D ars) 0
    have h2 := get2_len (txtL D ars)
    have hc := commas_len (txtL D ars)
    have hd := hD u
    have hs := signT_len op
    have hn : nm.data.toList.length = nm.size := Array.length_toList
    rw [cntE, txtE]
    split
    · omega
    · split
      · omega
      · split
        · simp only [List.length_append, List.length_cons, List.length_nil]; omega
        · split
          · rw [List.length_cons]; omega
          · split
            · rw [List.length_cons]; omega
            · split
              · simp only [List.length_append, List.length_cons, List.length_nil]; omega
              · simp only [List.length_append, List.length_cons, List.length_nil]; omega
theorem txtL_len (D : Nat → List UInt8) (hD : ∀ u, (D u).length ≤ 20) : ∀ es, ((txtL D es).map List.length).sum + 2 * (txtL D es).length ≤ 24 * cntL es
  | [] => by simp [txtL]
  | e :: es => by
    have h1 := txtE_len D hD e
    have h2 := txtL_len D hD es
    rw [txtL, List.map_cons, List.sum_cons, cntL, List.length_cons]
    omega
end
theorem cntE_pos (e : Ex) : 1 ≤ cntE e := by cases e; rw [cntE]; omega
theorem len_cnt : ∀ es : List Ex, es.length ≤ cntL es
  | [] => Nat.zero_le _
  | e :: es => by
    have := len_cnt es
    have h := cntE_pos e
    rw [List.length_cons, cntL]
    omega
theorem depE_le : ∀ e : Ex, depE e ≤ cntE e := by
  have key : ∀ n, (∀ e : Ex, cntE e ≤ n → depE e ≤ cntE e) := by
    intro n
    induction n with
    | zero => intro e h; have := cntE_pos e; omega
    | succ n ih =>
      intro e h
      cases e with
      | node op u nm ars =>
        rw [cntE] at h
        rw [depE, cntE]
        have hl : ∀ es : List Ex, cntL es ≤ n → depL es ≤ cntL es := by
          intro es
          induction es with
          | nil => intro _; simp [depL]
          | cons x xs ihx =>
            intro hx
            rw [cntL] at hx
            have h1 := ih x (by omega)
            have h2 := ihx (by omega)
            rw [depL, cntL]
            omega
        have := hl ars (by omega)
        omega
  exact fun e => key (cntE e) e (Nat.le_refl _)
theorem txtL_get (D : Nat → List UInt8) (es : List Ex) (i : Nat) (x : Ex) (h : es[i]? = some x) : (txtL D es).getD i [] = txtE D x := by
  rw [txtL_map, List.getD_eq_getElem?_getD, List.getElem?_map, h]
  rfl
/-- an expression's arguments lie -/
inductive ExAt (w : World) : Ex → Option Addr → Prop
  | mk {op : Int} {u : Nat} {nm : ByteArray} {ars : List Ex} {A : Option Addr} (blk off : Nat) (B : Nat → Option Addr) (C : Nat → Nat)
      (hA : 0 < ars.length → A = some ⟨blk, off, none⟩)
      (hc : ∀ i x, ars[i]? = some x → w.cell? ⟨blk, off + i * 4, none⟩ = some (.int .i64 x.op) ∧ w.cell? ⟨blk, off + i * 4 + 1, none⟩ = some (.int .u64 x.u) ∧ w.cell? ⟨blk, off + i * 4 + 2, none⟩ = some (.string x.nm) ∧ w.cell? ⟨blk, off + i * 4 + 3, none⟩ = some (.slice (B i) x.ars.length (C i)))
      (hu : ∀ (i : Nat) (x : Ex), ars[i]? = some x → x.u < 18446744073709551616)
      (hr : ∀ i x, ars[i]? = some x → ExAt w x (B i)) : ExAt w (.node op u nm ars) A
theorem ExAt.keep {w w' : World} {e : Ex} {A : Option Addr} (h : ExAt w e A) (hb : Below w.heap.size w w') : ExAt w' e A := by
  induction h with
  | mk blk off B C hA hc hu hr ih =>
    refine .mk blk off B C hA (fun i x hx => ?_) hu fun i x hx => ih i x hx
    obtain ⟨h1, h2, h3, h4⟩ := hc i x hx
    have hlt := cell_some_lt h1
    exact ⟨(hb.cell (p := ⟨blk, off + i * 4, none⟩) hlt).trans h1, (hb.cell (p := ⟨blk, off + i * 4 + 1, none⟩) hlt).trans h2, (hb.cell (p := ⟨blk, off + i * 4 + 2, none⟩) hlt).trans h3, (hb.cell (p := ⟨blk, off + i * 4 + 3, none⟩) hlt).trans h4⟩
def exV (e : Ex) (A : Option Addr) (c : Nat) : Value := .agg #[.int .i64 e.op, .int .u64 e.u, .string e.nm, .slice A e.ars.length c]
/-- expressions lie in a slice -/
def ExsAt (w : World) (ars : List Ex) (A : Option Addr) : Prop :=
  ∃ (blk off : Nat) (B : Nat → Option Addr) (C : Nat → Nat), (0 < ars.length → A = some ⟨blk, off, none⟩) ∧
    (∀ i x, ars[i]? = some x → w.cell? ⟨blk, off + i * 4, none⟩ = some (.int .i64 x.op) ∧ w.cell? ⟨blk, off + i * 4 + 1, none⟩ = some (.int .u64 x.u) ∧ w.cell? ⟨blk, off + i * 4 + 2, none⟩ = some (.string x.nm) ∧ w.cell? ⟨blk, off + i * 4 + 3, none⟩ = some (.slice (B i) x.ars.length (C i))) ∧
    (∀ (i : Nat) (x : Ex), ars[i]? = some x → x.u < 18446744073709551616) ∧ (∀ i x, ars[i]? = some x → ExAt w x (B i))
theorem ExAt.args {w : World} {e : Ex} {A : Option Addr} (h : ExAt w e A) : ExsAt w e.ars A := by
  cases h with
  | mk blk off B C hA hc hu hr => exact ⟨blk, off, B, C, hA, hc, hu, hr⟩
theorem ExsAt.mk_ {w : World} {e : Ex} {A : Option Addr} (h : ExsAt w e.ars A) : ExAt w e A := by
  obtain ⟨blk, off, B, C, hA, hc, hu, hr⟩ := h
  cases e with
  | node op u nm ars => exact .mk blk off B C hA hc hu hr
theorem ExsAt.u_lt {w : World} {ars : List Ex} {A : Option Addr} (h : ExsAt w ars A) {i : Nat} {x : Ex} (hx : ars[i]? = some x) : x.u < 18446744073709551616 := by
  obtain ⟨blk, off, B, C, hA, hc, hu, hr⟩ := h
  exact hu i x hx
theorem ExsAt.below {w w' : World} {ars : List Ex} {A : Option Addr} (h : ExsAt w ars A) (hb : Below w.heap.size w w') : ExsAt w' ars A :=
  (ExAt.keep (ExsAt.mk_ (e := .node 0 0 ⟨#[]⟩ ars) h) hb).args
theorem ExsAt.at_ {w : World} {ars : List Ex} {A : Option Addr} (h : ExsAt w ars A) {k : Nat} (hk : k < ars.length) :
    ∃ blk off x B C, A = some ⟨blk, off, none⟩ ∧ ars[k]? = some x ∧ w.cell? ⟨blk, off + k * 4, none⟩ = some (.int .i64 x.op) ∧ w.cell? ⟨blk, off + k * 4 + 1, none⟩ = some (.int .u64 x.u) ∧ w.cell? ⟨blk, off + k * 4 + 2, none⟩ = some (.string x.nm) ∧ w.cell? ⟨blk, off + k * 4 + 3, none⟩ = some (.slice B x.ars.length C) ∧ ExAt w x B := by
  obtain ⟨blk, off, B, C, hA, hc, hu, hr⟩ := h
  have e := List.getElem?_eq_getElem hk
  obtain ⟨h1, h2, h3, h4⟩ := hc k _ e
  exact ⟨blk, off, _, B k, C k, hA (by omega), e, h1, h2, h3, h4, hr k _ e⟩
theorem box4 {W : World} {b : Nat} {v0 v1 v2 v3 : Value} {t : TypeId} (h : W.heap[b]? = some (.cells #[v0, v1, v2, v3] t (0, 0))) :
    W.cell? ⟨b, 0, none⟩ = some v0 ∧ W.cell? ⟨b, 1, none⟩ = some v1 ∧ W.cell? ⟨b, 2, none⟩ = some v2 ∧ W.cell? ⟨b, 3, none⟩ = some v3 ∧ ∀ k, W.frozen? ⟨b, k, none⟩ = false :=
  ⟨by rw [blk_cell h]; rfl, by rw [blk_cell h]; rfl, by rw [blk_cell h]; rfl, by rw [blk_cell h]; rfl, fun k => by simp [World.frozen?, h]⟩
def IntPost (n : Int) (w : World) (e : Ending) (w' : World) : Prop := e = .returned (.int .i64 n) ∧ Below w.heap.size w w'
/-- the expressions of a list, in its order -/
theorem mem_get {ars : List Ex} {x : Ex} {i : Nat} (h : ars[i]? = some x) : x ∈ ars := List.mem_of_getElem? h
theorem cnt_mem {ars : List Ex} {x : Ex} {i : Nat} (h : ars[i]? = some x) : cntE x ≤ cntL ars := by
  have h1 := cntL_take i h
  have h2 := cntL_mono (es := ars) (i + 1)
  omega
/-- a law of all expressions that lie: from those of the arguments -/
theorem ExAt.ind {w : World} {M : Ex → Option Addr → Prop} (step : ∀ (e : Ex) (A : Option Addr), ExAt w e A → (∀ (i : Nat) (x : Ex) (B : Option Addr), e.ars[i]? = some x → ExAt w x B → M x B) → M e A) : ∀ (n : Nat) (e : Ex) (A : Option Addr), cntE e ≤ n → ExAt w e A → M e A
  | 0, e, A, h, _ => by have := cntE_pos e; omega
  | n + 1, e, A, h, he => step e A he fun i x B hx hB => ExAt.ind step n x B (by
      cases e with
      | node op u nm ars =>
        have := cnt_mem (ars := ars) hx
        rw [cntE] at h
        omega) hB
theorem ExAt.all {w : World} {M : Ex → Option Addr → Prop} (step : ∀ (e : Ex) (A : Option Addr), ExAt w e A → (∀ (i : Nat) (x : Ex) (B : Option Addr), e.ars[i]? = some x → ExAt w x B → M x B) → M e A) (e : Ex) (A : Option Addr) (h : ExAt w e A) : M e A := ExAt.ind step (cntE e) e A (Nat.le_refl _) h

set_option maxRecDepth 100000 in
set_option maxHeartbeats 1000000 in
theorem name48_any (s : ByteArray) (m : Nat) (w : World) (hm : m ≤ 1000000) : Calls Tryz.prog 48 #[.string s, .int .i64 m] w fun e w' => e = .returned (.int .i64 ((1 + min s.size m : Nat) : Int)) ∧ w' = w := by
  have e1 : (1 : Int) + min (s.size : Int) (m : Int) = ((1 + min s.size m : Nat) : Int) := by omega
  have e2 : IntKind.i64.wrap ((1 : Int) + min (s.size : Int) (m : Int)) = ((1 + min s.size m : Nat) : Int) := by rw [IntKind.wrap_i64]; omega
  go_enter Tryz.func48, Tryz.ntmps48
  go_wp2
  go_ret
  exact ⟨by first | rfl | (congr 2; done) | (congr 2; omega), rfl⟩
set_option maxRecDepth 100000 in
set_option maxHeartbeats 4000000 in
theorem count_any (w0 : World) (e : Ex) (A : Option Addr) (h : ExAt w0 e A) : ∀ (m c : Nat) (W : World), m ≤ 30000 → Below w0.heap.size w0 W →
    Calls Tryz.prog 39 #[exV e A c, .int .i64 m] W (IntPost ((min (cntE e) (m + 1) : Nat) : Int) W) := by
  refine ExAt.all (M := fun e A => ∀ (m c : Nat) (W : World), m ≤ 30000 → Below w0.heap.size w0 W →
    Calls Tryz.prog 39 #[exV e A c, .int .i64 m] W (IntPost ((min (cntE e) (m + 1) : Nat) : Int) W)) ?_ e A h
  intro e A he ih m c W hm hW
  obtain ⟨op, u, nm, ars⟩ := e
  have hs := Lib.hid (show ExsAt w0 ars A from he.args)
  have ih' := Lib.hid ih
  have hW' := Lib.hid hW
  unfold exV
  dsimp only [Ex.op, Ex.u, Ex.nm, Ex.ars]
  rw [cntE]
  obtain ⟨n, hn⟩ : ∃ n, ars.length = n := ⟨_, rfl⟩
  rw [hn]
  obtain ⟨W1, hW1⟩ : ∃ W1, W.alloc (.cells #[.int .i64 op, .int .u64 u, .string nm, .slice A n c] 26) = W1 := ⟨_, rfl⟩
  have hb1 : Below W.heap.size W W1 := by rw [← hW1]; exact (Below.refl _ W).alloc (Nat.le_refl _) _
  have hx1 : W1.heap[W.heap.size]? = some (.cells #[.int .i64 op, .int .u64 u, .string nm, .slice A n c] 26 (0, 0)) := by rw [← hW1]; exact heap_alloc_new _ _
  have h48 := Lib.hid (name48_any nm m W1 (by omega))
  have hb1 := Lib.hid hb1
  have hx1 := Lib.hid hx1
  have hn' := Lib.hid hn
  have hW1' := Lib.hid hW1
  clear he ih hW hn hW1 h
  go_enter Tryz.func39, Tryz.ntmps39
  go_wp2_with fail
  rw [hW1'.out]
  refine h48.out.mono ?_
  rintro e w1 ⟨rfl, rfl⟩
  go_wp2_with fail
  go_loopg [5, 6] n (fun g s5 s6 wr => ∃ k : Nat, k + g = n ∧ s6 = .int .i64 k ∧ s5 = .int .i64 ((min (1 + nm.size + cntL (ars.take k)) (m + 1) : Nat) : Int) ∧ Below w1.heap.size w1 wr)
  case atStart => exact ⟨0, by omega, rfl, by rw [List.take_zero, cntL]; congr 2; omega, Below.refl _ _⟩
  case round =>
    obtain ⟨k, hkg, rfl, rfl, hb⟩ := hrel
    have hb := Lib.hid hb
    obtain ⟨g0, g1, g2, g3, gf⟩ := box4 ((hb.out.block W.heap.size (blk_lt hx1.out)).trans hx1.out)
    have hlk := len_cnt (ars.take k)
    rw [List.length_take, hn'.out] at hlk
    have hmono := cntL_mono (es := ars) k
    obtain ⟨R, hR⟩ : ∃ R, 1 + nm.size + cntL (ars.take k) = R := ⟨_, rfl⟩
    rw [hR]
    by_cases hRm : R ≤ m
    · have hmin : min R (m + 1) = R := by omega
      rw [hmin]
      have e1 : (R : Int) ≤ (m : Int) := by omega
      cases gk with
      | zero =>
        have e0 : ¬ (k : Int) < (n : Int) := by omega
        have hfin := Lib.hid (show min (1 + nm.size + cntL ars) (m + 1) = R by
          rw [List.take_of_length_le (by rw [hn'.out]; omega)] at hR
          omega)
        clear hmin hR hlk hmono
        go_wp2
        go_ret
        exact ⟨by rw [hfin.out]; rfl, Below.next hb1.out hb.out⟩
      | succ g =>
        have e0 : (k : Int) < (n : Int) := by omega
        obtain ⟨blk, off, x, B, C, rfl, hx, v0, v1, v2, v3, hxe⟩ := (hs.out).at_ (k := k) (by rw [hn'.out]; omega)
        have hbw := Lib.hid (hW'.out.trans (((Below.next hb1.out hb.out)).mono hW'.out.size))
        have v0 := (hbw.out.cell (p := ⟨blk, off + k * 4, none⟩) (cell_some_lt v0)).trans v0
        have v1 := (hbw.out.cell (p := ⟨blk, off + k * 4 + 1, none⟩) (cell_some_lt v1)).trans v1
        have v2 := (hbw.out.cell (p := ⟨blk, off + k * 4 + 2, none⟩) (cell_some_lt v2)).trans v2
        have v3 := (hbw.out.cell (p := ⟨blk, off + k * 4 + 3, none⟩) (cell_some_lt v3)).trans v3
        have hc := ih'.out k x B hx hxe (m - R) C wr (by omega) hbw.out
        unfold exV at hc
        have hnx := cntL_take k hx
        obtain ⟨q, hq⟩ : ∃ q, min (cntE x) (m - R + 1) = q := ⟨_, rfl⟩
        rw [hq] at hc
        have hc := Lib.hid hc
        have hnext := Lib.hid (show min (1 + nm.size + cntL (ars.take (k + 1))) (m + 1) = R + q by omega)
        have hqb : q ≤ m - R + 1 := by omega
        have w1' : IntKind.i64.wrap ((m : Int) - (R : Int)) = ((m - R : Nat) : Int) := by rw [IntKind.wrap_i64]; omega
        have hkm : k ≤ 30000 := by omega
        clear hmin hR hlk hmono hnx hq hx hxe
        go_wp2_with fail
        refine hc.out.mono ?_
        rintro e w2 ⟨rfl, hb2⟩
        have hb2 := Lib.hid (hb.out.trans (hb2.mono hb.out.size))
        go_wp2
        go_roundg g
        case measure => omega
        case rel => exact ⟨k + 1, by omega, by go_num, by rw [hnext.out]; go_num, hb2.out⟩
    · have hmin : min R (m + 1) = m + 1 := by omega
      rw [hmin]
      have e1 : ¬ (m : Int) + 1 ≤ (m : Int) := by omega
      have e1' : ¬ ((m + 1 : Nat) : Int) ≤ (m : Int) := by omega
      have hfin := Lib.hid (show min (1 + nm.size + cntL ars) (m + 1) = m + 1 by omega)
      by_cases hkn : k < n
      · have e0 : (k : Int) < (n : Int) := by omega
        clear hmin hR hlk hmono
        go_wp2
        go_ret
        exact ⟨by rw [hfin.out]; rfl, Below.next hb1.out hb.out⟩
      · have e0 : ¬ (k : Int) < (n : Int) := by omega
        clear hmin hR hlk hmono
        go_wp2
        go_ret
        exact ⟨by rw [hfin.out]; rfl, Below.next hb1.out hb.out⟩
end Go.Proofs.YtnahgfdoiflacaaGreatDoor
