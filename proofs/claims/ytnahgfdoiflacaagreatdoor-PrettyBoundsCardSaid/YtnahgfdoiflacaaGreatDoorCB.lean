/- Statements, functions, programs: the model; where they lie. -/
import Derived.Test.YtnahgfdoiflacaaGreatDoorS
set_option linter.unusedSimpArgs false
set_option linter.unusedVariables false
namespace Go.Proofs.YtnahgfdoiflacaaGreatDoor
open Go.RowKit Go.Lib Go.Shelf

inductive St where
  | node (kd : Int) (nm : ByteArray) (ns : List ByteArray) (e a : Ex) (ars : List Ex) (lo hi : Nat) (bd el : List St)
def St.kd : St → Int | .node kd _ _ _ _ _ _ _ _ _ => kd
def St.nm : St → ByteArray | .node _ nm _ _ _ _ _ _ _ _ => nm
def St.ns : St → List ByteArray | .node _ _ ns _ _ _ _ _ _ _ => ns
def St.e : St → Ex | .node _ _ _ e _ _ _ _ _ _ => e
def St.a : St → Ex | .node _ _ _ _ a _ _ _ _ _ => a
def St.ars : St → List Ex | .node _ _ _ _ _ ars _ _ _ _ => ars
def St.lo : St → Nat | .node _ _ _ _ _ _ lo _ _ _ => lo
def St.hi : St → Nat | .node _ _ _ _ _ _ _ hi _ _ => hi
def St.bd : St → List St | .node _ _ _ _ _ _ _ _ bd _ => bd
def St.el : St → List St | .node _ _ _ _ _ _ _ _ _ el => el
def cntN : List ByteArray → Nat
  | [] => 0
  | s :: r => (1 + s.size) + cntN r
mutual
def cntS : St → Nat | .node _ nm ns e a ars _ _ bd el => 1 + nm.size + cntE e + cntE a + cntN ns + cntL ars + cntSs bd + cntSs el
def cntSs : List St → Nat
  | [] => 0
  | s :: r => cntS s + cntSs r
end
theorem cntS_pos (s : St) : 1 ≤ cntS s := by cases s; rw [cntS]; omega
theorem cntN_take {es : List ByteArray} : ∀ k {x : ByteArray}, es[k]? = some x → cntN (es.take (k + 1)) = cntN (es.take k) + (1 + x.size) := by
  induction es with
  | nil => intro k x h; cases h
  | cons e es ih =>
    intro k x h
    cases k with
    | zero => cases h; simp [cntN]
    | succ k =>
      rw [List.take_succ_cons, List.take_succ_cons, cntN, cntN, ih k h]
      omega
theorem cntSs_take {es : List St} : ∀ k {x : St}, es[k]? = some x → cntSs (es.take (k + 1)) = cntSs (es.take k) + cntS x := by
  induction es with
  | nil => intro k x h; cases h
  | cons e es ih =>
    intro k x h
    cases k with
    | zero => cases h; simp [cntSs]
    | succ k =>
      rw [List.take_succ_cons, List.take_succ_cons, cntSs, cntSs, ih k h]
      omega
theorem cntSs_mono {es : List St} : ∀ k, cntSs (es.take k) ≤ cntSs es := by
  induction es with
  | nil => intro k; simp [cntSs]
  | cons e es ih =>
    intro k
    cases k with
    | zero => simp [cntSs]
    | succ k => rw [List.take_succ_cons, cntSs, cntSs]; have := ih k; omega
theorem cntS_mem {es : List St} {x : St} {i : Nat} (h : es[i]? = some x) : cntS x ≤ cntSs es := by
  have h1 := cntSs_take i h
  have h2 := cntSs_mono (es := es) (i + 1)
  omega
theorem len_cntN : ∀ es : List ByteArray, es.length ≤ cntN es
  | [] => Nat.zero_le _
  | e :: es => by
    have := len_cntN es
    rw [List.length_cons, cntN]
    omega
theorem len_cntSs : ∀ es : List St, es.length ≤ cntSs es
  | [] => Nat.zero_le _
  | e :: es => by
    have := len_cntSs es
    have h := cntS_pos e
    rw [List.length_cons, cntSs]
    omega
theorem cntS_bd (s : St) : cntSs s.bd + cntSs s.el + cntL s.ars + cntN s.ns + cntE s.e + cntE s.a + s.nm.size + 1 = cntS s := by cases s; rw [cntS]; simp only [St.bd, St.el, St.ars, St.ns, St.e, St.a, St.nm]; omega
/-- an expression's cells are those of an expression that lies -/
def ENow (w : World) (x : Ex) (r : EC) : Prop := r.op = x.op ∧ r.u = x.u ∧ r.nm = x.nm ∧ r.ar.n = x.ars.length ∧ ExAt w x r.ar.a ∧ x.u < 18446744073709551616
structure SNow (w : World) (x : St) (r : StC) : Prop where
  kd : r.kd = x.kd
  nm : r.nm = x.nm
  ns : r.ns.n = x.ns.length
  nsA : CellsAt 1 cellsS w x.ns r.ns.a
  e : ENow w x.e r.e
  a : ENow w x.a r.a
  ar : r.ar.n = x.ars.length
  arA : ExsAt w x.ars r.ar.a
  lo : r.lo = x.lo
  hi : r.hi = x.hi
  loh : x.lo < 18446744073709551616
  hih : x.hi < 18446744073709551616
  bd : r.bd.n = x.bd.length
  el : r.el.n = x.el.length
/-- statements lie -/
inductive StsAt (w : World) : List St → Option Addr → Prop
  | mk {L : List St} {A : Option Addr} (R : List StC) (hR : CellsAt 16 cellsT w R A) (hl : R.length = L.length)
      (hx : ∀ (i : Nat) (x : St) (r : StC), L[i]? = some x → R[i]? = some r → SNow w x r)
      (hb : ∀ (i : Nat) (x : St) (r : StC), L[i]? = some x → R[i]? = some r → StsAt w x.bd r.bd.a)
      (he : ∀ (i : Nat) (x : St) (r : StC), L[i]? = some x → R[i]? = some r → StsAt w x.el r.el.a) : StsAt w L A
theorem cellsT_len (x : StC) : (cellsT x).length = 16 := rfl
theorem cellsS_len (x : ByteArray) : (cellsS x).length = 1 := rfl
theorem cellsV_len (x : VarC) : (cellsV x).length = 4 := rfl
theorem cellsR_len (x : RegC) : (cellsR x).length = 4 := rfl
theorem cellsF_len (x : FnC) : (cellsF x).length = 5 := rfl
theorem ENow.keep {w w' : World} {x : Ex} {r : EC} (h : ENow w x r) (hb : Below w.heap.size w w') : ENow w' x r :=
  ⟨h.1, h.2.1, h.2.2.1, h.2.2.2.1, h.2.2.2.2.1.keep hb, h.2.2.2.2.2⟩
theorem SNow.keep {w w' : World} {x : St} {r : StC} (h : SNow w x r) (hb : Below w.heap.size w w') : SNow w' x r :=
  ⟨h.kd, h.nm, h.ns, h.nsA.keep cellsS_len hb, h.e.keep hb, h.a.keep hb, h.ar, h.arA.below hb, h.lo, h.hi, h.loh, h.hih, h.bd, h.el⟩
theorem StsAt.keep {w w' : World} {L : List St} {A : Option Addr} (h : StsAt w L A) (hb : Below w.heap.size w w') : StsAt w' L A := by
  induction h with
  | mk R hR hl hx hb' he ihb ihe =>
    exact .mk R (hR.keep cellsT_len hb) hl (fun i x r h1 h2 => (hx i x r h1 h2).keep hb) (fun i x r h1 h2 => ihb i x r h1 h2) (fun i x r h1 h2 => ihe i x r h1 h2)
theorem StsAt.nil {w : World} (A : Option Addr) : StsAt w [] A :=
  .mk [] (CellsAt.nil A) rfl (fun i x r h => by simp at h) (fun i x r h => by simp at h) (fun i x r h => by simp at h)
theorem StsAt.at_ {w : World} {L : List St} {A : Option Addr} (h : StsAt w L A) {k : Nat} (hk : k < L.length) :
    ∃ blk off x r, A = some ⟨blk, off, none⟩ ∧ L[k]? = some x ∧ (∀ j, j < 16 → w.cell? ⟨blk, off + k * 16 + j, none⟩ = (cellsT r)[j]?) ∧ SNow w x r ∧ StsAt w x.bd r.bd.a ∧ StsAt w x.el r.el.a := by
  cases h with
  | mk R hR hl hx hb he =>
    obtain ⟨blk, off, r, hA, hr, hc⟩ := hR.at_ (i := k) (by omega)
    have e := List.getElem?_eq_getElem hk
    exact ⟨blk, off, _, r, hA, e, hc, hx k _ r e hr, hb k _ r e hr, he k _ r e hr⟩
/-- a law of all statements that lie: from those of the bodies -/
theorem StsAt.ind {w : World} {M : List St → Option Addr → Prop} (step : ∀ (L : List St) (A : Option Addr), StsAt w L A → (∀ (i : Nat) (x : St) (B : Option Addr), L[i]? = some x → (StsAt w x.bd B → M x.bd B) ∧ (StsAt w x.el B → M x.el B)) → M L A) : ∀ (n : Nat) (L : List St) (A : Option Addr), cntSs L ≤ n → StsAt w L A → M L A
  | 0, L, A, h, hL => step L A hL fun i x B hx => by
      have := cntS_mem hx
      have := cntS_pos x
      omega
  | n + 1, L, A, h, hL => step L A hL fun i x B hx => by
      have h1 := cntS_mem hx
      have h2 := cntS_bd x
      exact ⟨fun hB => StsAt.ind step n x.bd B (by omega) hB, fun hB => StsAt.ind step n x.el B (by omega) hB⟩
theorem StsAt.all {w : World} {M : List St → Option Addr → Prop} (step : ∀ (L : List St) (A : Option Addr), StsAt w L A → (∀ (i : Nat) (x : St) (B : Option Addr), L[i]? = some x → (StsAt w x.bd B → M x.bd B) ∧ (StsAt w x.el B → M x.el B)) → M L A) (L : List St) (A : Option Addr) (h : StsAt w L A) : M L A := StsAt.ind step (cntSs L) L A (Nat.le_refl _) h

/-- functions -/
structure Fn where
  nm : ByteArray
  ps : List VarC
  vs : List VarC
  rs : List ByteArray
  bd : List St
structure Pg where
  rs : List RegC
  fs : List Fn
def VarOk (v : VarC) : Prop := -9223372036854775808 ≤ v.sz ∧ v.sz ≤ 9223372036854775807
def RegOk (v : RegC) : Prop := (-9223372036854775808 ≤ v.ad ∧ v.ad ≤ 9223372036854775807) ∧ -9223372036854775808 ≤ v.sz ∧ v.sz ≤ 9223372036854775807
structure FNow (w : World) (x : Fn) (r : FnC) : Prop where
  nm : r.nm = x.nm
  ps : r.ps.n = x.ps.length
  psA : CellsAt 4 cellsV w x.ps r.ps.a
  vs : r.vs.n = x.vs.length
  vsA : CellsAt 4 cellsV w x.vs r.vs.a
  rs : r.rs.n = x.rs.length
  rsA : CellsAt 1 cellsS w x.rs r.rs.a
  bd : r.bd.n = x.bd.length
  bdA : StsAt w x.bd r.bd.a
  psK : ∀ v ∈ x.ps, VarOk v
  vsK : ∀ v ∈ x.vs, VarOk v
theorem FNow.keep {w w' : World} {x : Fn} {r : FnC} (h : FNow w x r) (hb : Below w.heap.size w w') : FNow w' x r :=
  ⟨h.nm, h.ps, h.psA.keep cellsV_len hb, h.vs, h.vsA.keep cellsV_len hb, h.rs, h.rsA.keep cellsS_len hb, h.bd, h.bdA.keep hb, h.psK, h.vsK⟩
def FnsAt (w : World) (L : List Fn) (A : Option Addr) : Prop :=
  ∃ R : List FnC, CellsAt 5 cellsF w R A ∧ R.length = L.length ∧ ∀ (i : Nat) (x : Fn) (r : FnC), L[i]? = some x → R[i]? = some r → FNow w x r
theorem FnsAt.keep {w w' : World} {L : List Fn} {A : Option Addr} (h : FnsAt w L A) (hb : Below w.heap.size w w') : FnsAt w' L A := by
  obtain ⟨R, h1, h2, h3⟩ := h
  exact ⟨R, h1.keep cellsF_len hb, h2, fun i x r h4 h5 => (h3 i x r h4 h5).keep hb⟩
theorem FnsAt.at_ {w : World} {L : List Fn} {A : Option Addr} (h : FnsAt w L A) {k : Nat} (hk : k < L.length) :
    ∃ blk off x r, A = some ⟨blk, off, none⟩ ∧ L[k]? = some x ∧ (∀ j, j < 5 → w.cell? ⟨blk, off + k * 5 + j, none⟩ = (cellsF r)[j]?) ∧ FNow w x r := by
  obtain ⟨R, hR, hl, hx⟩ := h
  obtain ⟨blk, off, r, hA, hr, hc⟩ := hR.at_ (i := k) (by omega)
  have e := List.getElem?_eq_getElem hk
  exact ⟨blk, off, _, r, hA, e, hc, hx k _ r e hr⟩
def cntV : List VarC → Nat
  | [] => 0
  | v :: r => (1 + v.nm.size) + cntV r
def cntR : List RegC → Nat
  | [] => 0
  | v :: r => (1 + v.nm.size) + cntR r
def cntF (f : Fn) : Nat := 1 + f.nm.size + cntV f.ps + cntV f.vs + cntN f.rs + cntSs f.bd
def cntFs : List Fn → Nat
  | [] => 0
  | f :: r => cntF f + cntFs r
def cntP (p : Pg) : Nat := p.rs.length + p.fs.length + cntR p.rs + cntFs p.fs
def pgV (p : Pg) (A : Option Addr) (c : Nat) (B : Option Addr) (d : Nat) : Value := .agg #[.slice A p.rs.length c, .slice B p.fs.length d]
theorem cntV_take {es : List VarC} : ∀ k {x : VarC}, es[k]? = some x → cntV (es.take (k + 1)) = cntV (es.take k) + (1 + x.nm.size) := by
  induction es with
  | nil => intro k x h; cases h
  | cons e es ih =>
    intro k x h
    cases k with
    | zero => cases h; simp [cntV]
    | succ k =>
      rw [List.take_succ_cons, List.take_succ_cons, cntV, cntV, ih k h]
      omega
theorem cntR_take {es : List RegC} : ∀ k {x : RegC}, es[k]? = some x → cntR (es.take (k + 1)) = cntR (es.take k) + (1 + x.nm.size) := by
  induction es with
  | nil => intro k x h; cases h
  | cons e es ih =>
    intro k x h
    cases k with
    | zero => cases h; simp [cntR]
    | succ k =>
      rw [List.take_succ_cons, List.take_succ_cons, cntR, cntR, ih k h]
      omega
theorem cntFs_take {es : List Fn} : ∀ k {x : Fn}, es[k]? = some x → cntFs (es.take (k + 1)) = cntFs (es.take k) + cntF x := by
  induction es with
  | nil => intro k x h; cases h
  | cons e es ih =>
    intro k x h
    cases k with
    | zero => cases h; simp [cntFs]
    | succ k =>
      rw [List.take_succ_cons, List.take_succ_cons, cntFs, cntFs, ih k h]
      omega
end Go.Proofs.YtnahgfdoiflacaaGreatDoor
