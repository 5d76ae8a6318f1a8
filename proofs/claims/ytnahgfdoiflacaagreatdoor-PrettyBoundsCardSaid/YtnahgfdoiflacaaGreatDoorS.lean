/- Variables, regions, functions, statements as they lie; all[T] over them. -/
import Derived.Test.YtnahgfdoiflacaaGreatDoorO
set_option linter.unusedSimpArgs false
set_option linter.unusedVariables false
namespace Go.Proofs.YtnahgfdoiflacaaGreatDoor
open Go.RowKit Go.Lib Go.Shelf

/-- a slice's parts -/
structure Sl where
  a : Option Addr
  n : Nat
  c : Nat
structure VarC where
  nm : ByteArray
  kd : Int
  sz : Int
  sc : Bool
structure RegC where
  nm : ByteArray
  ad : Int
  sz : Int
  sc : Bool
structure FnC where
  nm : ByteArray
  ps : Sl
  vs : Sl
  rs : Sl
  bd : Sl
structure EC where
  op : Int
  u : Nat
  nm : ByteArray
  ar : Sl
structure StC where
  kd : Int
  nm : ByteArray
  ns : Sl
  e : EC
  a : EC
  ar : Sl
  lo : Nat
  hi : Nat
  bd : Sl
  el : Sl
/-- rows of k cells lie in a slice -/
def CellsAt {α : Type} (k : Nat) (cells : α → List Value) (w : World) (L : List α) (A : Option Addr) : Prop :=
  ∃ blk off : Nat, (0 < L.length → A = some ⟨blk, off, none⟩) ∧ ∀ (i : Nat) (x : α), L[i]? = some x → ∀ j, j < k → w.cell? ⟨blk, off + i * k + j, none⟩ = (cells x)[j]?
theorem CellsAt.keep {α : Type} {k : Nat} {cells : α → List Value} {w w' : World} {L : List α} {A : Option Addr} (hl : ∀ x, (cells x).length = k) (h : CellsAt k cells w L A) (hb : Below w.heap.size w w') : CellsAt k cells w' L A := by
  obtain ⟨blk, off, h1, h2⟩ := h
  refine ⟨blk, off, h1, fun i x hx j hj => ?_⟩
  have h3 := h2 i x hx j hj
  have e := List.getElem?_eq_getElem (show j < (cells x).length by rw [hl]; exact hj)
  rw [e] at h3 ⊢
  exact (hb.cell (p := ⟨blk, off + i * k + j, none⟩) (cell_some_lt h3)).trans h3
theorem CellsAt.nil {α : Type} {k : Nat} {cells : α → List Value} {w : World} (A : Option Addr) : CellsAt k cells w [] A := ⟨0, 0, fun h => absurd h (by simp), fun i x hx => by simp at hx⟩
theorem CellsAt.at_ {α : Type} {k : Nat} {cells : α → List Value} {w : World} {L : List α} {A : Option Addr} (h : CellsAt k cells w L A) {i : Nat} (hi : i < L.length) :
    ∃ blk off x, A = some ⟨blk, off, none⟩ ∧ L[i]? = some x ∧ ∀ j, j < k → w.cell? ⟨blk, off + i * k + j, none⟩ = (cells x)[j]? := by
  obtain ⟨blk, off, h1, h2⟩ := h
  have e := List.getElem?_eq_getElem hi
  exact ⟨blk, off, _, h1 (by omega), e, h2 i _ e⟩
def cellsS (x : ByteArray) : List Value := [.string x]
def vlS (x : ByteArray) : Value := .string x
def cellsV (x : VarC) : List Value := [.string x.nm, .int .i64 x.kd, .int .i64 x.sz, .bool x.sc]
def vlV (x : VarC) : Value := .agg #[.string x.nm, .int .i64 x.kd, .int .i64 x.sz, .bool x.sc]
def cellsR (x : RegC) : List Value := [.string x.nm, .int .i64 x.ad, .int .i64 x.sz, .bool x.sc]
def vlR (x : RegC) : Value := .agg #[.string x.nm, .int .i64 x.ad, .int .i64 x.sz, .bool x.sc]
def cellsF (x : FnC) : List Value := [.string x.nm, .slice x.ps.a x.ps.n x.ps.c, .slice x.vs.a x.vs.n x.vs.c, .slice x.rs.a x.rs.n x.rs.c, .slice x.bd.a x.bd.n x.bd.c]
def vlF (x : FnC) : Value := .agg #[.string x.nm, .slice x.ps.a x.ps.n x.ps.c, .slice x.vs.a x.vs.n x.vs.c, .slice x.rs.a x.rs.n x.rs.c, .slice x.bd.a x.bd.n x.bd.c]
def cellsT (x : StC) : List Value := [.int .i64 x.kd, .string x.nm, .slice x.ns.a x.ns.n x.ns.c, .int .i64 x.e.op, .int .u64 x.e.u, .string x.e.nm, .slice x.e.ar.a x.e.ar.n x.e.ar.c, .int .i64 x.a.op, .int .u64 x.a.u, .string x.a.nm, .slice x.a.ar.a x.a.ar.n x.a.ar.c, .slice x.ar.a x.ar.n x.ar.c, .int .u64 x.lo, .int .u64 x.hi, .slice x.bd.a x.bd.n x.bd.c, .slice x.el.a x.el.n x.el.c]
def vlT (x : StC) : Value := .agg #[.int .i64 x.kd, .string x.nm, .slice x.ns.a x.ns.n x.ns.c, .int .i64 x.e.op, .int .u64 x.e.u, .string x.e.nm, .slice x.e.ar.a x.e.ar.n x.e.ar.c, .int .i64 x.a.op, .int .u64 x.a.u, .string x.a.nm, .slice x.a.ar.a x.a.ar.n x.a.ar.c, .slice x.ar.a x.ar.n x.ar.c, .int .u64 x.lo, .int .u64 x.hi, .slice x.bd.a x.bd.n x.bd.c, .slice x.el.a x.el.n x.el.c]

set_option maxRecDepth 100000 in
set_option maxHeartbeats 2000000 in
theorem notS_any (g : Nat) (hent : ∀ args w, (callFunc g args).run Tryz.prog w = .ok (.enter g args) w) (x : ByteArray) (t : Bool) (b : Nat) (W : World) (hb : W.cell? ⟨b, 0, none⟩ = some (.func (.func g) #[] #[]))
    (hc : Calls Tryz.prog g #[vlS x] W (BoolPost t W)) :
    Calls Tryz.prog 113 #[vlS x, .pointer (some ⟨b, 0, none⟩)] W (BoolPost (!t) W) := by
  have hb0 := Lib.hid (Below.refl W.heap.size W)
  have hc := Lib.hid hc
  have hlt := cell_some_lt hb
  unfold vlS at hc ⊢
  go_enter Tryz.func113, Tryz.ntmps113
  go_wp2_with fail
  refine hc.out.mono ?_
  rintro e w1 ⟨rfl, hb1⟩
  have hfin := Lib.hid (Below.next hb0.out hb1)
  clear hb1
  cases t
  all_goals
    go_wp2
    go_ret
    exact ⟨rfl, hfin.out⟩
set_option maxRecDepth 100000 in
set_option maxHeartbeats 2000000 in
theorem idxS_any (g : Nat) (hent : ∀ args w, (callFunc g args).run Tryz.prog w = .ok (.enter g args) w) (p : ByteArray → Bool) (w0 : World) (L : List (ByteArray)) (A : Option Addr) (h : CellsAt 1 cellsS w0 L A) (c b : Nat) (W : World)
    (hW : Below w0.heap.size w0 W) (hn : L.length ≤ 1000000) (hb : W.cell? ⟨b, 0, none⟩ = some (.func (.func g) #[] #[]))
    (hc : ∀ (i : Nat) (x : ByteArray) , L[i]? = some x →  ∀ (W' : World), Below w0.heap.size w0 W' → Calls Tryz.prog g #[vlS x] W' (BoolPost (p x) W')) :
    Calls Tryz.prog 146 #[.slice A L.length c, .func (.func 113) #[] #[.pointer (some ⟨b, 0, none⟩)]] W (IdxPost (L.all p) W) := by
  have hs := Lib.hid h
  have hc' := Lib.hid hc
  have hW' := Lib.hid hW
  have hbl := cell_some_lt hb
  have hb' := Lib.hid hb
  obtain ⟨n, hnn⟩ : ∃ n, L.length = n := ⟨_, rfl⟩
  rw [hnn] at hn ⊢
  have hL' := Lib.hid hnn
  clear hc hW hnn h hb
  go_enter Tryz.func146, Tryz.ntmps146
  go_wp2_with fail
  go_loopg [8] n (fun g s8 wr => ∃ k : Nat, k + g = n ∧ s8 = .int .i64 k ∧ (∀ (i : Nat) (x : ByteArray), i < k → L[i]? = some x → p x = true) ∧ Below W.heap.size W wr)
  case atStart => exact ⟨0, by omega, rfl, fun i x h => absurd h (by omega), Below.refl _ _⟩
  case round =>
    obtain ⟨k, hkg, rfl, hall, hbr⟩ := hrel
    have hall' := Lib.hid hall
    have hbr' := Lib.hid hbr
    clear hall hbr
    cases gk with
    | zero =>
      have e0 : ¬ ((k : Int) < (n : Int)) := by omega
      have hs := Lib.hid (show L.all p = true by
        rw [List.all_eq_true]
        intro x hx
        obtain ⟨i, hi⟩ := List.getElem?_of_mem hx
        exact hall'.out i x (by have := (List.getElem?_eq_some_iff.1 hi).1; have := hL'.out; omega) hi)
      go_wp2
      go_ret
      exact ⟨-1, rfl, fun _ => rfl, (fun h => by rw [hs.out] at h; cases h), hbr'.out⟩
    | succ g2 =>
      have e0 : (k : Int) < (n : Int) := by omega
      have hbw := Lib.hid (hW'.out.trans (hbr'.out.mono hW'.out.size))
      obtain ⟨blk, off, x, rfl, hx, hcell⟩ := (hs.out).at_ (i := k) (by rw [hL'.out]; omega)
      have v0 : w0.cell? ⟨blk, off + k, none⟩ = some (.string x) := by have := hcell 0 (by omega); rw [Nat.mul_one] at this; exact this
      have v0 := (hbw.out.cell (p := ⟨blk, off + k, none⟩) (cell_some_lt v0)).trans v0
      clear hcell
      have hx' := Lib.hid hx
      obtain ⟨t, ht⟩ : ∃ t, p x = t := ⟨_, rfl⟩
      have hk2 := notS_any g hent x t b wr ((hbr'.out.cell (p := ⟨b, 0, none⟩) hbl).trans hb'.out) (by
        have h := hc'.out k x hx wr hbw.out
        rw [ht] at h
        exact h)
      unfold vlS at hk2
      have hk2 := Lib.hid hk2
      have ht' := Lib.hid ht
      clear ht hx
      go_wp2_with fail
      refine hk2.out.mono ?_
      rintro e w1 ⟨rfl, hb1⟩
      have hb1' := Lib.hid (Below.next hbr'.out hb1)
      clear hb1
      cases t
      · have hs := Lib.hid (show L.all p = false by
          rw [List.all_eq_false]
          exact ⟨x, List.mem_of_getElem? hx'.out, by rw [ht'.out]; simp⟩)
        go_wp2
        go_ret
        exact ⟨k, rfl, (fun h => by rw [hs.out] at h; cases h), (fun _ => by omega), hb1'.out⟩
      · go_wp2
        go_roundg g2
        case measure => omega
        case rel =>
          refine ⟨k + 1, by omega, by go_num, fun i y hi hv => ?_, hb1'.out⟩
          rcases Nat.lt_or_ge i k with h | h
          · exact hall'.out i y h hv
          · obtain rfl : i = k := by omega
            rw [hx'.out] at hv
            cases hv
            exact ht'.out
set_option maxRecDepth 100000 in
set_option maxHeartbeats 2000000 in
theorem hasS_any (g : Nat) (hent : ∀ args w, (callFunc g args).run Tryz.prog w = .ok (.enter g args) w) (p : ByteArray → Bool) (w0 : World) (L : List (ByteArray)) (A : Option Addr) (h : CellsAt 1 cellsS w0 L A) (c b : Nat) (W : World)
    (hW : Below w0.heap.size w0 W) (hn : L.length ≤ 1000000) (hb : W.cell? ⟨b, 0, none⟩ = some (.func (.func g) #[] #[]))
    (hc : ∀ (i : Nat) (x : ByteArray) , L[i]? = some x →  ∀ (W' : World), Below w0.heap.size w0 W' → Calls Tryz.prog g #[vlS x] W' (BoolPost (p x) W')) :
    Calls Tryz.prog 112 #[.slice A L.length c, .func (.func 113) #[] #[.pointer (some ⟨b, 0, none⟩)]] W (BoolPost (!L.all p) W) := by
  have hk := Lib.hid (idxS_any g hent p w0 L A h c b W hW hn hb hc)
  generalize L.all p = t at hk ⊢
  clear hc hW h hb
  go_enter Tryz.func112, Tryz.ntmps112
  go_wp2_with fail
  refine hk.out.mono ?_
  rintro e w1 ⟨v, rfl, h1, h2, hb1⟩
  have hb1' := Lib.hid hb1
  clear hb1
  cases t
  · have e0 : 0 ≤ v := h2 rfl
    have e0' := Lib.hid e0
    clear h1 h2
    go_wp2
    go_ret
    exact ⟨ret_bool (by simp [e0'.out]), hb1'.out⟩
  · have e0 : ¬ 0 ≤ v := by have := h1 rfl; omega
    have e0' := Lib.hid e0
    clear h1 h2
    go_wp2
    go_ret
    exact ⟨ret_bool (by simp [e0'.out]), hb1'.out⟩
set_option maxRecDepth 100000 in
set_option maxHeartbeats 2000000 in
theorem allS_any (g : Nat) (hent : ∀ args w, (callFunc g args).run Tryz.prog w = .ok (.enter g args) w) (p : ByteArray → Bool) (w0 : World) (L : List (ByteArray)) (A : Option Addr) (h : CellsAt 1 cellsS w0 L A) (c : Nat) (W : World)
    (hW : Below w0.heap.size w0 W) (hn : L.length ≤ 1000000)
    (hc : ∀ (i : Nat) (x : ByteArray) , L[i]? = some x →  ∀ (W' : World), Below w0.heap.size w0 W' → Calls Tryz.prog g #[vlS x] W' (BoolPost (p x) W')) :
    Calls Tryz.prog 67 #[.slice A L.length c, .func (.func g) #[] #[]] W (BoolPost (L.all p) W) := by
  have hb0 := Lib.hid ((Below.refl W.heap.size W).alloc (Nat.le_refl _) (.cells #[.func (.func g) #[] #[]] 101))
  have hk := Lib.hid (hasS_any g hent p w0 L A h c W.heap.size (W.alloc (.cells #[.func (.func g) #[] #[]] 101)) (hW.alloc hW.size _) hn (by rw [blk_cell (heap_alloc_new W _)]; rfl) hc)
  generalize L.all p = t at hk ⊢
  clear hc hW h
  go_enter Tryz.func67, Tryz.ntmps67
  go_wp2_with fail
  refine hk.out.mono ?_
  rintro e w1 ⟨rfl, hb1⟩
  have hb1' := Lib.hid (Below.next hb0.out hb1)
  clear hb1
  cases t
  all_goals
    go_wp2
    go_ret
    exact ⟨rfl, hb1'.out⟩

set_option maxRecDepth 100000 in
set_option maxHeartbeats 2000000 in
theorem notV_any (g : Nat) (hent : ∀ args w, (callFunc g args).run Tryz.prog w = .ok (.enter g args) w) (x : VarC) (t : Bool) (b : Nat) (W : World) (hb : W.cell? ⟨b, 0, none⟩ = some (.func (.func g) #[] #[]))
    (hc : Calls Tryz.prog g #[vlV x] (W.alloc (.cells #[.string x.nm, .int .i64 x.kd, .int .i64 x.sz, .bool x.sc] 58)) (BoolPost t (W.alloc (.cells #[.string x.nm, .int .i64 x.kd, .int .i64 x.sz, .bool x.sc] 58)))) :
    Calls Tryz.prog 111 #[vlV x, .pointer (some ⟨b, 0, none⟩)] W (BoolPost (!t) W) := by
  have hb0 := Lib.hid ((Below.refl W.heap.size W).alloc (Nat.le_refl _) (.cells #[.string x.nm, .int .i64 x.kd, .int .i64 x.sz, .bool x.sc] 58))
  have hc := Lib.hid hc
  have hlt := cell_some_lt hb
  unfold vlV at hc ⊢
  go_enter Tryz.func111, Tryz.ntmps111
  go_wp2_with fail
  refine hc.out.mono ?_
  rintro e w1 ⟨rfl, hb1⟩
  have hfin := Lib.hid (Below.next hb0.out hb1)
  clear hb1
  cases t
  all_goals
    go_wp2
    go_ret
    exact ⟨rfl, hfin.out⟩
set_option maxRecDepth 100000 in
set_option maxHeartbeats 2000000 in
theorem idxV_any (g : Nat) (hent : ∀ args w, (callFunc g args).run Tryz.prog w = .ok (.enter g args) w) (p : VarC → Bool) (w0 : World) (L : List (VarC)) (A : Option Addr) (h : CellsAt 4 cellsV w0 L A) (c b : Nat) (W : World)
    (hW : Below w0.heap.size w0 W) (hn : L.length ≤ 1000000) (hb : W.cell? ⟨b, 0, none⟩ = some (.func (.func g) #[] #[]))
    (hc : ∀ (i : Nat) (x : VarC) , L[i]? = some x →  ∀ (W' : World), Below w0.heap.size w0 W' → Calls Tryz.prog g #[vlV x] W' (BoolPost (p x) W')) :
    Calls Tryz.prog 145 #[.slice A L.length c, .func (.func 111) #[] #[.pointer (some ⟨b, 0, none⟩)]] W (IdxPost (L.all p) W) := by
  have hs := Lib.hid h
  have hc' := Lib.hid hc
  have hW' := Lib.hid hW
  have hbl := cell_some_lt hb
  have hb' := Lib.hid hb
  obtain ⟨n, hnn⟩ : ∃ n, L.length = n := ⟨_, rfl⟩
  rw [hnn] at hn ⊢
  have hL' := Lib.hid hnn
  clear hc hW hnn h hb
  go_enter Tryz.func145, Tryz.ntmps145
  go_wp2_with fail
  go_loopg [8] n (fun g s8 wr => ∃ k : Nat, k + g = n ∧ s8 = .int .i64 k ∧ (∀ (i : Nat) (x : VarC), i < k → L[i]? = some x → p x = true) ∧ Below W.heap.size W wr)
  case atStart => exact ⟨0, by omega, rfl, fun i x h => absurd h (by omega), Below.refl _ _⟩
  case round =>
    obtain ⟨k, hkg, rfl, hall, hbr⟩ := hrel
    have hall' := Lib.hid hall
    have hbr' := Lib.hid hbr
    clear hall hbr
    cases gk with
    | zero =>
      have e0 : ¬ ((k : Int) < (n : Int)) := by omega
      have hs := Lib.hid (show L.all p = true by
        rw [List.all_eq_true]
        intro x hx
        obtain ⟨i, hi⟩ := List.getElem?_of_mem hx
        exact hall'.out i x (by have := (List.getElem?_eq_some_iff.1 hi).1; have := hL'.out; omega) hi)
      go_wp2
      go_ret
      exact ⟨-1, rfl, fun _ => rfl, (fun h => by rw [hs.out] at h; cases h), hbr'.out⟩
    | succ g2 =>
      have e0 : (k : Int) < (n : Int) := by omega
      have hbw := Lib.hid (hW'.out.trans (hbr'.out.mono hW'.out.size))
      obtain ⟨blk, off, x, rfl, hx, hcell⟩ := (hs.out).at_ (i := k) (by rw [hL'.out]; omega)
      have v0 : w0.cell? ⟨blk, off + k * 4, none⟩ = some (.string x.nm) := by have := hcell 0 (by omega); exact this
      have v0 := (hbw.out.cell (p := ⟨blk, off + k * 4, none⟩) (cell_some_lt v0)).trans v0
      have v1 : w0.cell? ⟨blk, off + k * 4 + 1, none⟩ = some (.int .i64 x.kd) := by have := hcell 1 (by omega); exact this
      have v1 := (hbw.out.cell (p := ⟨blk, off + k * 4 + 1, none⟩) (cell_some_lt v1)).trans v1
      have v2 : w0.cell? ⟨blk, off + k * 4 + 2, none⟩ = some (.int .i64 x.sz) := by have := hcell 2 (by omega); exact this
      have v2 := (hbw.out.cell (p := ⟨blk, off + k * 4 + 2, none⟩) (cell_some_lt v2)).trans v2
      have v3 : w0.cell? ⟨blk, off + k * 4 + 3, none⟩ = some (.bool x.sc) := by have := hcell 3 (by omega); exact this
      have v3 := (hbw.out.cell (p := ⟨blk, off + k * 4 + 3, none⟩) (cell_some_lt v3)).trans v3
      clear hcell
      have hx' := Lib.hid hx
      obtain ⟨t, ht⟩ : ∃ t, p x = t := ⟨_, rfl⟩
      have hk2 := notV_any g hent x t b wr ((hbr'.out.cell (p := ⟨b, 0, none⟩) hbl).trans hb'.out) (by
        have h := hc'.out k x hx (wr.alloc (.cells #[.string x.nm, .int .i64 x.kd, .int .i64 x.sz, .bool x.sc] 58)) (hbw.out.alloc hbw.out.size _)
        rw [ht] at h
        exact h)
      unfold vlV at hk2
      have hk2 := Lib.hid hk2
      have ht' := Lib.hid ht
      clear ht hx
      go_wp2_with fail
      refine hk2.out.mono ?_
      rintro e w1 ⟨rfl, hb1⟩
      have hb1' := Lib.hid (Below.next hbr'.out hb1)
      clear hb1
      cases t
      · have hs := Lib.hid (show L.all p = false by
          rw [List.all_eq_false]
          exact ⟨x, List.mem_of_getElem? hx'.out, by rw [ht'.out]; simp⟩)
        go_wp2
        go_ret
        exact ⟨k, rfl, (fun h => by rw [hs.out] at h; cases h), (fun _ => by omega), hb1'.out⟩
      · go_wp2
        go_roundg g2
        case measure => omega
        case rel =>
          refine ⟨k + 1, by omega, by go_num, fun i y hi hv => ?_, hb1'.out⟩
          rcases Nat.lt_or_ge i k with h | h
          · exact hall'.out i y h hv
          · obtain rfl : i = k := by omega
            rw [hx'.out] at hv
            cases hv
            exact ht'.out
set_option maxRecDepth 100000 in
set_option maxHeartbeats 2000000 in
theorem hasV_any (g : Nat) (hent : ∀ args w, (callFunc g args).run Tryz.prog w = .ok (.enter g args) w) (p : VarC → Bool) (w0 : World) (L : List (VarC)) (A : Option Addr) (h : CellsAt 4 cellsV w0 L A) (c b : Nat) (W : World)
    (hW : Below w0.heap.size w0 W) (hn : L.length ≤ 1000000) (hb : W.cell? ⟨b, 0, none⟩ = some (.func (.func g) #[] #[]))
    (hc : ∀ (i : Nat) (x : VarC) , L[i]? = some x →  ∀ (W' : World), Below w0.heap.size w0 W' → Calls Tryz.prog g #[vlV x] W' (BoolPost (p x) W')) :
    Calls Tryz.prog 110 #[.slice A L.length c, .func (.func 111) #[] #[.pointer (some ⟨b, 0, none⟩)]] W (BoolPost (!L.all p) W) := by
  have hk := Lib.hid (idxV_any g hent p w0 L A h c b W hW hn hb hc)
  generalize L.all p = t at hk ⊢
  clear hc hW h hb
  go_enter Tryz.func110, Tryz.ntmps110
  go_wp2_with fail
  refine hk.out.mono ?_
  rintro e w1 ⟨v, rfl, h1, h2, hb1⟩
  have hb1' := Lib.hid hb1
  clear hb1
  cases t
  · have e0 : 0 ≤ v := h2 rfl
    have e0' := Lib.hid e0
    clear h1 h2
    go_wp2
    go_ret
    exact ⟨ret_bool (by simp [e0'.out]), hb1'.out⟩
  · have e0 : ¬ 0 ≤ v := by have := h1 rfl; omega
    have e0' := Lib.hid e0
    clear h1 h2
    go_wp2
    go_ret
    exact ⟨ret_bool (by simp [e0'.out]), hb1'.out⟩
set_option maxRecDepth 100000 in
set_option maxHeartbeats 2000000 in
theorem allV_any (g : Nat) (hent : ∀ args w, (callFunc g args).run Tryz.prog w = .ok (.enter g args) w) (p : VarC → Bool) (w0 : World) (L : List (VarC)) (A : Option Addr) (h : CellsAt 4 cellsV w0 L A) (c : Nat) (W : World)
    (hW : Below w0.heap.size w0 W) (hn : L.length ≤ 1000000)
    (hc : ∀ (i : Nat) (x : VarC) , L[i]? = some x →  ∀ (W' : World), Below w0.heap.size w0 W' → Calls Tryz.prog g #[vlV x] W' (BoolPost (p x) W')) :
    Calls Tryz.prog 64 #[.slice A L.length c, .func (.func g) #[] #[]] W (BoolPost (L.all p) W) := by
  have hb0 := Lib.hid ((Below.refl W.heap.size W).alloc (Nat.le_refl _) (.cells #[.func (.func g) #[] #[]] 104))
  have hk := Lib.hid (hasV_any g hent p w0 L A h c W.heap.size (W.alloc (.cells #[.func (.func g) #[] #[]] 104)) (hW.alloc hW.size _) hn (by rw [blk_cell (heap_alloc_new W _)]; rfl) hc)
  generalize L.all p = t at hk ⊢
  clear hc hW h
  go_enter Tryz.func64, Tryz.ntmps64
  go_wp2_with fail
  refine hk.out.mono ?_
  rintro e w1 ⟨rfl, hb1⟩
  have hb1' := Lib.hid (Below.next hb0.out hb1)
  clear hb1
  cases t
  all_goals
    go_wp2
    go_ret
    exact ⟨rfl, hb1'.out⟩

set_option maxRecDepth 100000 in
set_option maxHeartbeats 2000000 in
theorem notR_any (g : Nat) (hent : ∀ args w, (callFunc g args).run Tryz.prog w = .ok (.enter g args) w) (x : RegC) (t : Bool) (b : Nat) (W : World) (hb : W.cell? ⟨b, 0, none⟩ = some (.func (.func g) #[] #[]))
    (hc : Calls Tryz.prog g #[vlR x] (W.alloc (.cells #[.string x.nm, .int .i64 x.ad, .int .i64 x.sz, .bool x.sc] 82)) (BoolPost t (W.alloc (.cells #[.string x.nm, .int .i64 x.ad, .int .i64 x.sz, .bool x.sc] 82)))) :
    Calls Tryz.prog 117 #[vlR x, .pointer (some ⟨b, 0, none⟩)] W (BoolPost (!t) W) := by
  have hb0 := Lib.hid ((Below.refl W.heap.size W).alloc (Nat.le_refl _) (.cells #[.string x.nm, .int .i64 x.ad, .int .i64 x.sz, .bool x.sc] 82))
  have hc := Lib.hid hc
  have hlt := cell_some_lt hb
  unfold vlR at hc ⊢
  go_enter Tryz.func117, Tryz.ntmps117
  go_wp2_with fail
  refine hc.out.mono ?_
  rintro e w1 ⟨rfl, hb1⟩
  have hfin := Lib.hid (Below.next hb0.out hb1)
  clear hb1
  cases t
  all_goals
    go_wp2
    go_ret
    exact ⟨rfl, hfin.out⟩
set_option maxRecDepth 100000 in
set_option maxHeartbeats 2000000 in
theorem idxR_any (g : Nat) (hent : ∀ args w, (callFunc g args).run Tryz.prog w = .ok (.enter g args) w) (p : RegC → Bool) (w0 : World) (L : List (RegC)) (A : Option Addr) (h : CellsAt 4 cellsR w0 L A) (c b : Nat) (W : World)
    (hW : Below w0.heap.size w0 W) (hn : L.length ≤ 1000000) (hb : W.cell? ⟨b, 0, none⟩ = some (.func (.func g) #[] #[]))
    (hc : ∀ (i : Nat) (x : RegC) , L[i]? = some x →  ∀ (W' : World), Below w0.heap.size w0 W' → Calls Tryz.prog g #[vlR x] W' (BoolPost (p x) W')) :
    Calls Tryz.prog 150 #[.slice A L.length c, .func (.func 117) #[] #[.pointer (some ⟨b, 0, none⟩)]] W (IdxPost (L.all p) W) := by
  have hs := Lib.hid h
  have hc' := Lib.hid hc
  have hW' := Lib.hid hW
  have hbl := cell_some_lt hb
  have hb' := Lib.hid hb
  obtain ⟨n, hnn⟩ : ∃ n, L.length = n := ⟨_, rfl⟩
  rw [hnn] at hn ⊢
  have hL' := Lib.hid hnn
  clear hc hW hnn h hb
  go_enter Tryz.func150, Tryz.ntmps150
  go_wp2_with fail
  go_loopg [8] n (fun g s8 wr => ∃ k : Nat, k + g = n ∧ s8 = .int .i64 k ∧ (∀ (i : Nat) (x : RegC), i < k → L[i]? = some x → p x = true) ∧ Below W.heap.size W wr)
  case atStart => exact ⟨0, by omega, rfl, fun i x h => absurd h (by omega), Below.refl _ _⟩
  case round =>
    obtain ⟨k, hkg, rfl, hall, hbr⟩ := hrel
    have hall' := Lib.hid hall
    have hbr' := Lib.hid hbr
    clear hall hbr
    cases gk with
    | zero =>
      have e0 : ¬ ((k : Int) < (n : Int)) := by omega
      have hs := Lib.hid (show L.all p = true by
        rw [List.all_eq_true]
        intro x hx
        obtain ⟨i, hi⟩ := List.getElem?_of_mem hx
        exact hall'.out i x (by have := (List.getElem?_eq_some_iff.1 hi).1; have := hL'.out; omega) hi)
      go_wp2
      go_ret
      exact ⟨-1, rfl, fun _ => rfl, (fun h => by rw [hs.out] at h; cases h), hbr'.out⟩
    | succ g2 =>
      have e0 : (k : Int) < (n : Int) := by omega
      have hbw := Lib.hid (hW'.out.trans (hbr'.out.mono hW'.out.size))
      obtain ⟨blk, off, x, rfl, hx, hcell⟩ := (hs.out).at_ (i := k) (by rw [hL'.out]; omega)
      have v0 : w0.cell? ⟨blk, off + k * 4, none⟩ = some (.string x.nm) := by have := hcell 0 (by omega); exact this
      have v0 := (hbw.out.cell (p := ⟨blk, off + k * 4, none⟩) (cell_some_lt v0)).trans v0
      have v1 : w0.cell? ⟨blk, off + k * 4 + 1, none⟩ = some (.int .i64 x.ad) := by have := hcell 1 (by omega); exact this
      have v1 := (hbw.out.cell (p := ⟨blk, off + k * 4 + 1, none⟩) (cell_some_lt v1)).trans v1
      have v2 : w0.cell? ⟨blk, off + k * 4 + 2, none⟩ = some (.int .i64 x.sz) := by have := hcell 2 (by omega); exact this
      have v2 := (hbw.out.cell (p := ⟨blk, off + k * 4 + 2, none⟩) (cell_some_lt v2)).trans v2
      have v3 : w0.cell? ⟨blk, off + k * 4 + 3, none⟩ = some (.bool x.sc) := by have := hcell 3 (by omega); exact this
      have v3 := (hbw.out.cell (p := ⟨blk, off + k * 4 + 3, none⟩) (cell_some_lt v3)).trans v3
      clear hcell
      have hx' := Lib.hid hx
      obtain ⟨t, ht⟩ : ∃ t, p x = t := ⟨_, rfl⟩
      have hk2 := notR_any g hent x t b wr ((hbr'.out.cell (p := ⟨b, 0, none⟩) hbl).trans hb'.out) (by
        have h := hc'.out k x hx (wr.alloc (.cells #[.string x.nm, .int .i64 x.ad, .int .i64 x.sz, .bool x.sc] 82)) (hbw.out.alloc hbw.out.size _)
        rw [ht] at h
        exact h)
      unfold vlR at hk2
      have hk2 := Lib.hid hk2
      have ht' := Lib.hid ht
      clear ht hx
      go_wp2_with fail
      refine hk2.out.mono ?_
      rintro e w1 ⟨rfl, hb1⟩
      have hb1' := Lib.hid (Below.next hbr'.out hb1)
      clear hb1
      cases t
      · have hs := Lib.hid (show L.all p = false by
          rw [List.all_eq_false]
          exact ⟨x, List.mem_of_getElem? hx'.out, by rw [ht'.out]; simp⟩)
        go_wp2
        go_ret
        exact ⟨k, rfl, (fun h => by rw [hs.out] at h; cases h), (fun _ => by omega), hb1'.out⟩
      · go_wp2
        go_roundg g2
        case measure => omega
        case rel =>
          refine ⟨k + 1, by omega, by go_num, fun i y hi hv => ?_, hb1'.out⟩
          rcases Nat.lt_or_ge i k with h | h
          · exact hall'.out i y h hv
          · obtain rfl : i = k := by omega
            rw [hx'.out] at hv
            cases hv
            exact ht'.out
set_option maxRecDepth 100000 in
set_option maxHeartbeats 2000000 in
theorem hasR_any (g : Nat) (hent : ∀ args w, (callFunc g args).run Tryz.prog w = .ok (.enter g args) w) (p : RegC → Bool) (w0 : World) (L : List (RegC)) (A : Option Addr) (h : CellsAt 4 cellsR w0 L A) (c b : Nat) (W : World)
    (hW : Below w0.heap.size w0 W) (hn : L.length ≤ 1000000) (hb : W.cell? ⟨b, 0, none⟩ = some (.func (.func g) #[] #[]))
    (hc : ∀ (i : Nat) (x : RegC) , L[i]? = some x →  ∀ (W' : World), Below w0.heap.size w0 W' → Calls Tryz.prog g #[vlR x] W' (BoolPost (p x) W')) :
    Calls Tryz.prog 116 #[.slice A L.length c, .func (.func 117) #[] #[.pointer (some ⟨b, 0, none⟩)]] W (BoolPost (!L.all p) W) := by
  have hk := Lib.hid (idxR_any g hent p w0 L A h c b W hW hn hb hc)
  generalize L.all p = t at hk ⊢
  clear hc hW h hb
  go_enter Tryz.func116, Tryz.ntmps116
  go_wp2_with fail
  refine hk.out.mono ?_
  rintro e w1 ⟨v, rfl, h1, h2, hb1⟩
  have hb1' := Lib.hid hb1
  clear hb1
  cases t
  · have e0 : 0 ≤ v := h2 rfl
    have e0' := Lib.hid e0
    clear h1 h2
    go_wp2
    go_ret
    exact ⟨ret_bool (by simp [e0'.out]), hb1'.out⟩
  · have e0 : ¬ 0 ≤ v := by have := h1 rfl; omega
    have e0' := Lib.hid e0
    clear h1 h2
    go_wp2
    go_ret
    exact ⟨ret_bool (by simp [e0'.out]), hb1'.out⟩
set_option maxRecDepth 100000 in
set_option maxHeartbeats 2000000 in
theorem allR_any (g : Nat) (hent : ∀ args w, (callFunc g args).run Tryz.prog w = .ok (.enter g args) w) (p : RegC → Bool) (w0 : World) (L : List (RegC)) (A : Option Addr) (h : CellsAt 4 cellsR w0 L A) (c : Nat) (W : World)
    (hW : Below w0.heap.size w0 W) (hn : L.length ≤ 1000000)
    (hc : ∀ (i : Nat) (x : RegC) , L[i]? = some x →  ∀ (W' : World), Below w0.heap.size w0 W' → Calls Tryz.prog g #[vlR x] W' (BoolPost (p x) W')) :
    Calls Tryz.prog 69 #[.slice A L.length c, .func (.func g) #[] #[]] W (BoolPost (L.all p) W) := by
  have hb0 := Lib.hid ((Below.refl W.heap.size W).alloc (Nat.le_refl _) (.cells #[.func (.func g) #[] #[]] 102))
  have hk := Lib.hid (hasR_any g hent p w0 L A h c W.heap.size (W.alloc (.cells #[.func (.func g) #[] #[]] 102)) (hW.alloc hW.size _) hn (by rw [blk_cell (heap_alloc_new W _)]; rfl) hc)
  generalize L.all p = t at hk ⊢
  clear hc hW h
  go_enter Tryz.func69, Tryz.ntmps69
  go_wp2_with fail
  refine hk.out.mono ?_
  rintro e w1 ⟨rfl, hb1⟩
  have hb1' := Lib.hid (Below.next hb0.out hb1)
  clear hb1
  cases t
  all_goals
    go_wp2
    go_ret
    exact ⟨rfl, hb1'.out⟩

set_option maxRecDepth 100000 in
set_option maxHeartbeats 2000000 in
theorem notF_any (g : Nat) (hent : ∀ args w, (callFunc g args).run Tryz.prog w = .ok (.enter g args) w) (x : FnC) (t : Bool) (b : Nat) (W : World) (hb : W.cell? ⟨b, 0, none⟩ = some (.func (.func g) #[] #[]))
    (hc : Calls Tryz.prog g #[vlF x] (W.alloc (.cells #[.string x.nm, .slice x.ps.a x.ps.n x.ps.c, .slice x.vs.a x.vs.n x.vs.c, .slice x.rs.a x.rs.n x.rs.c, .slice x.bd.a x.bd.n x.bd.c] 54)) (BoolPost t (W.alloc (.cells #[.string x.nm, .slice x.ps.a x.ps.n x.ps.c, .slice x.vs.a x.vs.n x.vs.c, .slice x.rs.a x.rs.n x.rs.c, .slice x.bd.a x.bd.n x.bd.c] 54)))) :
    Calls Tryz.prog 119 #[vlF x, .pointer (some ⟨b, 0, none⟩)] W (BoolPost (!t) W) := by
  have hb0 := Lib.hid ((Below.refl W.heap.size W).alloc (Nat.le_refl _) (.cells #[.string x.nm, .slice x.ps.a x.ps.n x.ps.c, .slice x.vs.a x.vs.n x.vs.c, .slice x.rs.a x.rs.n x.rs.c, .slice x.bd.a x.bd.n x.bd.c] 54))
  have hc := Lib.hid hc
  have hlt := cell_some_lt hb
  unfold vlF at hc ⊢
  go_enter Tryz.func119, Tryz.ntmps119
  go_wp2_with fail
  refine hc.out.mono ?_
  rintro e w1 ⟨rfl, hb1⟩
  have hfin := Lib.hid (Below.next hb0.out hb1)
  clear hb1
  cases t
  all_goals
    go_wp2
    go_ret
    exact ⟨rfl, hfin.out⟩
set_option maxRecDepth 100000 in
set_option maxHeartbeats 2000000 in
theorem idxF_any (g : Nat) (hent : ∀ args w, (callFunc g args).run Tryz.prog w = .ok (.enter g args) w) (p : FnC → Bool) (w0 : World) (L : List (FnC)) (A : Option Addr) (h : CellsAt 5 cellsF w0 L A) (c b : Nat) (W : World)
    (hW : Below w0.heap.size w0 W) (hn : L.length ≤ 1000000) (hb : W.cell? ⟨b, 0, none⟩ = some (.func (.func g) #[] #[]))
    (hc : ∀ (i : Nat) (x : FnC) , L[i]? = some x →  ∀ (W' : World), Below w0.heap.size w0 W' → Calls Tryz.prog g #[vlF x] W' (BoolPost (p x) W')) :
    Calls Tryz.prog 151 #[.slice A L.length c, .func (.func 119) #[] #[.pointer (some ⟨b, 0, none⟩)]] W (IdxPost (L.all p) W) := by
  have hs := Lib.hid h
  have hc' := Lib.hid hc
  have hW' := Lib.hid hW
  have hbl := cell_some_lt hb
  have hb' := Lib.hid hb
  obtain ⟨n, hnn⟩ : ∃ n, L.length = n := ⟨_, rfl⟩
  rw [hnn] at hn ⊢
  have hL' := Lib.hid hnn
  clear hc hW hnn h hb
  go_enter Tryz.func151, Tryz.ntmps151
  go_wp2_with fail
  go_loopg [8] n (fun g s8 wr => ∃ k : Nat, k + g = n ∧ s8 = .int .i64 k ∧ (∀ (i : Nat) (x : FnC), i < k → L[i]? = some x → p x = true) ∧ Below W.heap.size W wr)
  case atStart => exact ⟨0, by omega, rfl, fun i x h => absurd h (by omega), Below.refl _ _⟩
  case round =>
    obtain ⟨k, hkg, rfl, hall, hbr⟩ := hrel
    have hall' := Lib.hid hall
    have hbr' := Lib.hid hbr
    clear hall hbr
    cases gk with
    | zero =>
      have e0 : ¬ ((k : Int) < (n : Int)) := by omega
      have hs := Lib.hid (show L.all p = true by
        rw [List.all_eq_true]
        intro x hx
        obtain ⟨i, hi⟩ := List.getElem?_of_mem hx
        exact hall'.out i x (by have := (List.getElem?_eq_some_iff.1 hi).1; have := hL'.out; omega) hi)
      go_wp2
      go_ret
      exact ⟨-1, rfl, fun _ => rfl, (fun h => by rw [hs.out] at h; cases h), hbr'.out⟩
    | succ g2 =>
      have e0 : (k : Int) < (n : Int) := by omega
      have hbw := Lib.hid (hW'.out.trans (hbr'.out.mono hW'.out.size))
      obtain ⟨blk, off, x, rfl, hx, hcell⟩ := (hs.out).at_ (i := k) (by rw [hL'.out]; omega)
      have v0 : w0.cell? ⟨blk, off + k * 5, none⟩ = some (.string x.nm) := by have := hcell 0 (by omega); exact this
      have v0 := (hbw.out.cell (p := ⟨blk, off + k * 5, none⟩) (cell_some_lt v0)).trans v0
      have v1 : w0.cell? ⟨blk, off + k * 5 + 1, none⟩ = some (.slice x.ps.a x.ps.n x.ps.c) := by have := hcell 1 (by omega); exact this
      have v1 := (hbw.out.cell (p := ⟨blk, off + k * 5 + 1, none⟩) (cell_some_lt v1)).trans v1
      have v2 : w0.cell? ⟨blk, off + k * 5 + 2, none⟩ = some (.slice x.vs.a x.vs.n x.vs.c) := by have := hcell 2 (by omega); exact this
      have v2 := (hbw.out.cell (p := ⟨blk, off + k * 5 + 2, none⟩) (cell_some_lt v2)).trans v2
      have v3 : w0.cell? ⟨blk, off + k * 5 + 3, none⟩ = some (.slice x.rs.a x.rs.n x.rs.c) := by have := hcell 3 (by omega); exact this
      have v3 := (hbw.out.cell (p := ⟨blk, off + k * 5 + 3, none⟩) (cell_some_lt v3)).trans v3
      have v4 : w0.cell? ⟨blk, off + k * 5 + 4, none⟩ = some (.slice x.bd.a x.bd.n x.bd.c) := by have := hcell 4 (by omega); exact this
      have v4 := (hbw.out.cell (p := ⟨blk, off + k * 5 + 4, none⟩) (cell_some_lt v4)).trans v4
      clear hcell
      have hx' := Lib.hid hx
      obtain ⟨t, ht⟩ : ∃ t, p x = t := ⟨_, rfl⟩
      have hk2 := notF_any g hent x t b wr ((hbr'.out.cell (p := ⟨b, 0, none⟩) hbl).trans hb'.out) (by
        have h := hc'.out k x hx (wr.alloc (.cells #[.string x.nm, .slice x.ps.a x.ps.n x.ps.c, .slice x.vs.a x.vs.n x.vs.c, .slice x.rs.a x.rs.n x.rs.c, .slice x.bd.a x.bd.n x.bd.c] 54)) (hbw.out.alloc hbw.out.size _)
        rw [ht] at h
        exact h)
      unfold vlF at hk2
      have hk2 := Lib.hid hk2
      have ht' := Lib.hid ht
      clear ht hx
      go_wp2_with fail
      refine hk2.out.mono ?_
      rintro e w1 ⟨rfl, hb1⟩
      have hb1' := Lib.hid (Below.next hbr'.out hb1)
      clear hb1
      cases t
      · have hs := Lib.hid (show L.all p = false by
          rw [List.all_eq_false]
          exact ⟨x, List.mem_of_getElem? hx'.out, by rw [ht'.out]; simp⟩)
        go_wp2
        go_ret
        exact ⟨k, rfl, (fun h => by rw [hs.out] at h; cases h), (fun _ => by omega), hb1'.out⟩
      · go_wp2
        go_roundg g2
        case measure => omega
        case rel =>
          refine ⟨k + 1, by omega, by go_num, fun i y hi hv => ?_, hb1'.out⟩
          rcases Nat.lt_or_ge i k with h | h
          · exact hall'.out i y h hv
          · obtain rfl : i = k := by omega
            rw [hx'.out] at hv
            cases hv
            exact ht'.out
set_option maxRecDepth 100000 in
set_option maxHeartbeats 2000000 in
theorem hasF_any (g : Nat) (hent : ∀ args w, (callFunc g args).run Tryz.prog w = .ok (.enter g args) w) (p : FnC → Bool) (w0 : World) (L : List (FnC)) (A : Option Addr) (h : CellsAt 5 cellsF w0 L A) (c b : Nat) (W : World)
    (hW : Below w0.heap.size w0 W) (hn : L.length ≤ 1000000) (hb : W.cell? ⟨b, 0, none⟩ = some (.func (.func g) #[] #[]))
    (hc : ∀ (i : Nat) (x : FnC) , L[i]? = some x →  ∀ (W' : World), Below w0.heap.size w0 W' → Calls Tryz.prog g #[vlF x] W' (BoolPost (p x) W')) :
    Calls Tryz.prog 118 #[.slice A L.length c, .func (.func 119) #[] #[.pointer (some ⟨b, 0, none⟩)]] W (BoolPost (!L.all p) W) := by
  have hk := Lib.hid (idxF_any g hent p w0 L A h c b W hW hn hb hc)
  generalize L.all p = t at hk ⊢
  clear hc hW h hb
  go_enter Tryz.func118, Tryz.ntmps118
  go_wp2_with fail
  refine hk.out.mono ?_
  rintro e w1 ⟨v, rfl, h1, h2, hb1⟩
  have hb1' := Lib.hid hb1
  clear hb1
  cases t
  · have e0 : 0 ≤ v := h2 rfl
    have e0' := Lib.hid e0
    clear h1 h2
    go_wp2
    go_ret
    exact ⟨ret_bool (by simp [e0'.out]), hb1'.out⟩
  · have e0 : ¬ 0 ≤ v := by have := h1 rfl; omega
    have e0' := Lib.hid e0
    clear h1 h2
    go_wp2
    go_ret
    exact ⟨ret_bool (by simp [e0'.out]), hb1'.out⟩
set_option maxRecDepth 100000 in
set_option maxHeartbeats 2000000 in
theorem allF_any (g : Nat) (hent : ∀ args w, (callFunc g args).run Tryz.prog w = .ok (.enter g args) w) (p : FnC → Bool) (w0 : World) (L : List (FnC)) (A : Option Addr) (h : CellsAt 5 cellsF w0 L A) (c : Nat) (W : World)
    (hW : Below w0.heap.size w0 W) (hn : L.length ≤ 1000000)
    (hc : ∀ (i : Nat) (x : FnC) , L[i]? = some x →  ∀ (W' : World), Below w0.heap.size w0 W' → Calls Tryz.prog g #[vlF x] W' (BoolPost (p x) W')) :
    Calls Tryz.prog 70 #[.slice A L.length c, .func (.func g) #[] #[]] W (BoolPost (L.all p) W) := by
  have hb0 := Lib.hid ((Below.refl W.heap.size W).alloc (Nat.le_refl _) (.cells #[.func (.func g) #[] #[]] 106))
  have hk := Lib.hid (hasF_any g hent p w0 L A h c W.heap.size (W.alloc (.cells #[.func (.func g) #[] #[]] 106)) (hW.alloc hW.size _) hn (by rw [blk_cell (heap_alloc_new W _)]; rfl) hc)
  generalize L.all p = t at hk ⊢
  clear hc hW h
  go_enter Tryz.func70, Tryz.ntmps70
  go_wp2_with fail
  refine hk.out.mono ?_
  rintro e w1 ⟨rfl, hb1⟩
  have hb1' := Lib.hid (Below.next hb0.out hb1)
  clear hb1
  cases t
  all_goals
    go_wp2
    go_ret
    exact ⟨rfl, hb1'.out⟩

set_option maxRecDepth 100000 in
set_option maxHeartbeats 2000000 in
theorem notT_any (g : Nat) (hent : ∀ args w, (callFunc g args).run Tryz.prog w = .ok (.enter g args) w) (x : StC) (t : Bool) (b : Nat) (W : World) (hb : W.cell? ⟨b, 0, none⟩ = some (.func (.func g) #[] #[]))
    (hc : Calls Tryz.prog g #[vlT x] (W.alloc (.cells #[.int .i64 x.kd, .string x.nm, .slice x.ns.a x.ns.n x.ns.c, .int .i64 x.e.op, .int .u64 x.e.u, .string x.e.nm, .slice x.e.ar.a x.e.ar.n x.e.ar.c, .int .i64 x.a.op, .int .u64 x.a.u, .string x.a.nm, .slice x.a.ar.a x.a.ar.n x.a.ar.c, .slice x.ar.a x.ar.n x.ar.c, .int .u64 x.lo, .int .u64 x.hi, .slice x.bd.a x.bd.n x.bd.c, .slice x.el.a x.el.n x.el.c] 50)) (BoolPost t (W.alloc (.cells #[.int .i64 x.kd, .string x.nm, .slice x.ns.a x.ns.n x.ns.c, .int .i64 x.e.op, .int .u64 x.e.u, .string x.e.nm, .slice x.e.ar.a x.e.ar.n x.e.ar.c, .int .i64 x.a.op, .int .u64 x.a.u, .string x.a.nm, .slice x.a.ar.a x.a.ar.n x.a.ar.c, .slice x.ar.a x.ar.n x.ar.c, .int .u64 x.lo, .int .u64 x.hi, .slice x.bd.a x.bd.n x.bd.c, .slice x.el.a x.el.n x.el.c] 50)))) :
    Calls Tryz.prog 148 #[vlT x, .pointer (some ⟨b, 0, none⟩)] W (BoolPost (!t) W) := by
  have hb0 := Lib.hid ((Below.refl W.heap.size W).alloc (Nat.le_refl _) (.cells #[.int .i64 x.kd, .string x.nm, .slice x.ns.a x.ns.n x.ns.c, .int .i64 x.e.op, .int .u64 x.e.u, .string x.e.nm, .slice x.e.ar.a x.e.ar.n x.e.ar.c, .int .i64 x.a.op, .int .u64 x.a.u, .string x.a.nm, .slice x.a.ar.a x.a.ar.n x.a.ar.c, .slice x.ar.a x.ar.n x.ar.c, .int .u64 x.lo, .int .u64 x.hi, .slice x.bd.a x.bd.n x.bd.c, .slice x.el.a x.el.n x.el.c] 50))
  have hc := Lib.hid hc
  have hlt := cell_some_lt hb
  unfold vlT at hc ⊢
  go_enter Tryz.func148, Tryz.ntmps148
  go_wp2_with fail
  refine hc.out.mono ?_
  rintro e w1 ⟨rfl, hb1⟩
  have hfin := Lib.hid (Below.next hb0.out hb1)
  clear hb1
  cases t
  all_goals
    go_wp2
    go_ret
    exact ⟨rfl, hfin.out⟩
set_option maxRecDepth 100000 in
set_option maxHeartbeats 2000000 in
theorem idxT_any (g : Nat) (hent : ∀ args w, (callFunc g args).run Tryz.prog w = .ok (.enter g args) w) (p : StC → Bool) (w0 : World) (L : List (StC)) (A : Option Addr) (h : CellsAt 16 cellsT w0 L A) (c b : Nat) (W : World)
    (hW : Below w0.heap.size w0 W) (hn : L.length ≤ 1000000) (hb : W.cell? ⟨b, 0, none⟩ = some (.func (.func g) #[] #[]))
    (hc : ∀ (i : Nat) (x : StC) , L[i]? = some x →  ∀ (W' : World), Below w0.heap.size w0 W' → Calls Tryz.prog g #[vlT x] W' (BoolPost (p x) W')) :
    Calls Tryz.prog 165 #[.slice A L.length c, .func (.func 148) #[] #[.pointer (some ⟨b, 0, none⟩)]] W (IdxPost (L.all p) W) := by
  have hs := Lib.hid h
  have hc' := Lib.hid hc
  have hW' := Lib.hid hW
  have hbl := cell_some_lt hb
  have hb' := Lib.hid hb
  obtain ⟨n, hnn⟩ : ∃ n, L.length = n := ⟨_, rfl⟩
  rw [hnn] at hn ⊢
  have hL' := Lib.hid hnn
  clear hc hW hnn h hb
  go_enter Tryz.func165, Tryz.ntmps165
  go_wp2_with fail
  go_loopg [8] n (fun g s8 wr => ∃ k : Nat, k + g = n ∧ s8 = .int .i64 k ∧ (∀ (i : Nat) (x : StC), i < k → L[i]? = some x → p x = true) ∧ Below W.heap.size W wr)
  case atStart => exact ⟨0, by omega, rfl, fun i x h => absurd h (by omega), Below.refl _ _⟩
  case round =>
    obtain ⟨k, hkg, rfl, hall, hbr⟩ := hrel
    have hall' := Lib.hid hall
    have hbr' := Lib.hid hbr
    clear hall hbr
    cases gk with
    | zero =>
      have e0 : ¬ ((k : Int) < (n : Int)) := by omega
      have hs := Lib.hid (show L.all p = true by
        rw [List.all_eq_true]
        intro x hx
        obtain ⟨i, hi⟩ := List.getElem?_of_mem hx
        exact hall'.out i x (by have := (List.getElem?_eq_some_iff.1 hi).1; have := hL'.out; omega) hi)
      go_wp2
      go_ret
      exact ⟨-1, rfl, fun _ => rfl, (fun h => by rw [hs.out] at h; cases h), hbr'.out⟩
    | succ g2 =>
      have e0 : (k : Int) < (n : Int) := by omega
      have hbw := Lib.hid (hW'.out.trans (hbr'.out.mono hW'.out.size))
      obtain ⟨blk, off, x, rfl, hx, hcell⟩ := (hs.out).at_ (i := k) (by rw [hL'.out]; omega)
      have v0 : w0.cell? ⟨blk, off + k * 16, none⟩ = some (.int .i64 x.kd) := by have := hcell 0 (by omega); exact this
      have v0 := (hbw.out.cell (p := ⟨blk, off + k * 16, none⟩) (cell_some_lt v0)).trans v0
      have v1 : w0.cell? ⟨blk, off + k * 16 + 1, none⟩ = some (.string x.nm) := by have := hcell 1 (by omega); exact this
      have v1 := (hbw.out.cell (p := ⟨blk, off + k * 16 + 1, none⟩) (cell_some_lt v1)).trans v1
      have v2 : w0.cell? ⟨blk, off + k * 16 + 2, none⟩ = some (.slice x.ns.a x.ns.n x.ns.c) := by have := hcell 2 (by omega); exact this
      have v2 := (hbw.out.cell (p := ⟨blk, off + k * 16 + 2, none⟩) (cell_some_lt v2)).trans v2
      have v3 : w0.cell? ⟨blk, off + k * 16 + 3, none⟩ = some (.int .i64 x.e.op) := by have := hcell 3 (by omega); exact this
      have v3 := (hbw.out.cell (p := ⟨blk, off + k * 16 + 3, none⟩) (cell_some_lt v3)).trans v3
      have v4 : w0.cell? ⟨blk, off + k * 16 + 4, none⟩ = some (.int .u64 x.e.u) := by have := hcell 4 (by omega); exact this
      have v4 := (hbw.out.cell (p := ⟨blk, off + k * 16 + 4, none⟩) (cell_some_lt v4)).trans v4
      have v5 : w0.cell? ⟨blk, off + k * 16 + 5, none⟩ = some (.string x.e.nm) := by have := hcell 5 (by omega); exact this
      have v5 := (hbw.out.cell (p := ⟨blk, off + k * 16 + 5, none⟩) (cell_some_lt v5)).trans v5
      have v6 : w0.cell? ⟨blk, off + k * 16 + 6, none⟩ = some (.slice x.e.ar.a x.e.ar.n x.e.ar.c) := by have := hcell 6 (by omega); exact this
      have v6 := (hbw.out.cell (p := ⟨blk, off + k * 16 + 6, none⟩) (cell_some_lt v6)).trans v6
      have v7 : w0.cell? ⟨blk, off + k * 16 + 7, none⟩ = some (.int .i64 x.a.op) := by have := hcell 7 (by omega); exact this
      have v7 := (hbw.out.cell (p := ⟨blk, off + k * 16 + 7, none⟩) (cell_some_lt v7)).trans v7
      have v8 : w0.cell? ⟨blk, off + k * 16 + 8, none⟩ = some (.int .u64 x.a.u) := by have := hcell 8 (by omega); exact this
      have v8 := (hbw.out.cell (p := ⟨blk, off + k * 16 + 8, none⟩) (cell_some_lt v8)).trans v8
      have v9 : w0.cell? ⟨blk, off + k * 16 + 9, none⟩ = some (.string x.a.nm) := by have := hcell 9 (by omega); exact this
      have v9 := (hbw.out.cell (p := ⟨blk, off + k * 16 + 9, none⟩) (cell_some_lt v9)).trans v9
      have v10 : w0.cell? ⟨blk, off + k * 16 + 10, none⟩ = some (.slice x.a.ar.a x.a.ar.n x.a.ar.c) := by have := hcell 10 (by omega); exact this
      have v10 := (hbw.out.cell (p := ⟨blk, off + k * 16 + 10, none⟩) (cell_some_lt v10)).trans v10
      have v11 : w0.cell? ⟨blk, off + k * 16 + 11, none⟩ = some (.slice x.ar.a x.ar.n x.ar.c) := by have := hcell 11 (by omega); exact this
      have v11 := (hbw.out.cell (p := ⟨blk, off + k * 16 + 11, none⟩) (cell_some_lt v11)).trans v11
      have v12 : w0.cell? ⟨blk, off + k * 16 + 12, none⟩ = some (.int .u64 x.lo) := by have := hcell 12 (by omega); exact this
      have v12 := (hbw.out.cell (p := ⟨blk, off + k * 16 + 12, none⟩) (cell_some_lt v12)).trans v12
      have v13 : w0.cell? ⟨blk, off + k * 16 + 13, none⟩ = some (.int .u64 x.hi) := by have := hcell 13 (by omega); exact this
      have v13 := (hbw.out.cell (p := ⟨blk, off + k * 16 + 13, none⟩) (cell_some_lt v13)).trans v13
      have v14 : w0.cell? ⟨blk, off + k * 16 + 14, none⟩ = some (.slice x.bd.a x.bd.n x.bd.c) := by have := hcell 14 (by omega); exact this
      have v14 := (hbw.out.cell (p := ⟨blk, off + k * 16 + 14, none⟩) (cell_some_lt v14)).trans v14
      have v15 : w0.cell? ⟨blk, off + k * 16 + 15, none⟩ = some (.slice x.el.a x.el.n x.el.c) := by have := hcell 15 (by omega); exact this
      have v15 := (hbw.out.cell (p := ⟨blk, off + k * 16 + 15, none⟩) (cell_some_lt v15)).trans v15
      clear hcell
      have hx' := Lib.hid hx
      obtain ⟨t, ht⟩ : ∃ t, p x = t := ⟨_, rfl⟩
      have hk2 := notT_any g hent x t b wr ((hbr'.out.cell (p := ⟨b, 0, none⟩) hbl).trans hb'.out) (by
        have h := hc'.out k x hx (wr.alloc (.cells #[.int .i64 x.kd, .string x.nm, .slice x.ns.a x.ns.n x.ns.c, .int .i64 x.e.op, .int .u64 x.e.u, .string x.e.nm, .slice x.e.ar.a x.e.ar.n x.e.ar.c, .int .i64 x.a.op, .int .u64 x.a.u, .string x.a.nm, .slice x.a.ar.a x.a.ar.n x.a.ar.c, .slice x.ar.a x.ar.n x.ar.c, .int .u64 x.lo, .int .u64 x.hi, .slice x.bd.a x.bd.n x.bd.c, .slice x.el.a x.el.n x.el.c] 50)) (hbw.out.alloc hbw.out.size _)
        rw [ht] at h
        exact h)
      unfold vlT at hk2
      have hk2 := Lib.hid hk2
      have ht' := Lib.hid ht
      clear ht hx
      go_wp2_with fail
      refine hk2.out.mono ?_
      rintro e w1 ⟨rfl, hb1⟩
      have hb1' := Lib.hid (Below.next hbr'.out hb1)
      clear hb1
      cases t
      · have hs := Lib.hid (show L.all p = false by
          rw [List.all_eq_false]
          exact ⟨x, List.mem_of_getElem? hx'.out, by rw [ht'.out]; simp⟩)
        go_wp2
        go_ret
        exact ⟨k, rfl, (fun h => by rw [hs.out] at h; cases h), (fun _ => by omega), hb1'.out⟩
      · go_wp2
        go_roundg g2
        case measure => omega
        case rel =>
          refine ⟨k + 1, by omega, by go_num, fun i y hi hv => ?_, hb1'.out⟩
          rcases Nat.lt_or_ge i k with h | h
          · exact hall'.out i y h hv
          · obtain rfl : i = k := by omega
            rw [hx'.out] at hv
            cases hv
            exact ht'.out
set_option maxRecDepth 100000 in
set_option maxHeartbeats 2000000 in
theorem hasT_any (g : Nat) (hent : ∀ args w, (callFunc g args).run Tryz.prog w = .ok (.enter g args) w) (p : StC → Bool) (w0 : World) (L : List (StC)) (A : Option Addr) (h : CellsAt 16 cellsT w0 L A) (c b : Nat) (W : World)
    (hW : Below w0.heap.size w0 W) (hn : L.length ≤ 1000000) (hb : W.cell? ⟨b, 0, none⟩ = some (.func (.func g) #[] #[]))
    (hc : ∀ (i : Nat) (x : StC) , L[i]? = some x →  ∀ (W' : World), Below w0.heap.size w0 W' → Calls Tryz.prog g #[vlT x] W' (BoolPost (p x) W')) :
    Calls Tryz.prog 147 #[.slice A L.length c, .func (.func 148) #[] #[.pointer (some ⟨b, 0, none⟩)]] W (BoolPost (!L.all p) W) := by
  have hk := Lib.hid (idxT_any g hent p w0 L A h c b W hW hn hb hc)
  generalize L.all p = t at hk ⊢
  clear hc hW h hb
  go_enter Tryz.func147, Tryz.ntmps147
  go_wp2_with fail
  refine hk.out.mono ?_
  rintro e w1 ⟨v, rfl, h1, h2, hb1⟩
  have hb1' := Lib.hid hb1
  clear hb1
  cases t
  · have e0 : 0 ≤ v := h2 rfl
    have e0' := Lib.hid e0
    clear h1 h2
    go_wp2
    go_ret
    exact ⟨ret_bool (by simp [e0'.out]), hb1'.out⟩
  · have e0 : ¬ 0 ≤ v := by have := h1 rfl; omega
    have e0' := Lib.hid e0
    clear h1 h2
    go_wp2
    go_ret
    exact ⟨ret_bool (by simp [e0'.out]), hb1'.out⟩
set_option maxRecDepth 100000 in
set_option maxHeartbeats 2000000 in
theorem allT_any (g : Nat) (hent : ∀ args w, (callFunc g args).run Tryz.prog w = .ok (.enter g args) w) (p : StC → Bool) (w0 : World) (L : List (StC)) (A : Option Addr) (h : CellsAt 16 cellsT w0 L A) (c : Nat) (W : World)
    (hW : Below w0.heap.size w0 W) (hn : L.length ≤ 1000000)
    (hc : ∀ (i : Nat) (x : StC) , L[i]? = some x →  ∀ (W' : World), Below w0.heap.size w0 W' → Calls Tryz.prog g #[vlT x] W' (BoolPost (p x) W')) :
    Calls Tryz.prog 114 #[.slice A L.length c, .func (.func g) #[] #[]] W (BoolPost (L.all p) W) := by
  have hb0 := Lib.hid ((Below.refl W.heap.size W).alloc (Nat.le_refl _) (.cells #[.func (.func g) #[] #[]] 146))
  have hk := Lib.hid (hasT_any g hent p w0 L A h c W.heap.size (W.alloc (.cells #[.func (.func g) #[] #[]] 146)) (hW.alloc hW.size _) hn (by rw [blk_cell (heap_alloc_new W _)]; rfl) hc)
  generalize L.all p = t at hk ⊢
  clear hc hW h
  go_enter Tryz.func114, Tryz.ntmps114
  go_wp2_with fail
  refine hk.out.mono ?_
  rintro e w1 ⟨rfl, hb1⟩
  have hb1' := Lib.hid (Below.next hb0.out hb1)
  clear hb1
  cases t
  all_goals
    go_wp2
    go_ret
    exact ⟨rfl, hb1'.out⟩
end Go.Proofs.YtnahgfdoiflacaaGreatDoor
