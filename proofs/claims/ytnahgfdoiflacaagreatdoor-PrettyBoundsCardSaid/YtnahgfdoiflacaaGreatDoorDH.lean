/- all[T] over statements and functions. -/
import Derived.Test.YtnahgfdoiflacaaGreatDoorCB
set_option linter.unusedSimpArgs false
set_option linter.unusedVariables false
namespace Go.Proofs.YtnahgfdoiflacaaGreatDoor
open Go.RowKit Go.Lib Go.Shelf

set_option maxRecDepth 100000 in
set_option maxHeartbeats 2000000 in
theorem notTS_any (g : Nat) (hent : ∀ args w, (callFunc g args).run Tryz.prog w = .ok (.enter g args) w) (r : StC) (t : Bool) (b : Nat) (W : World) (hb : W.cell? ⟨b, 0, none⟩ = some (.func (.func g) #[] #[]))
    (hc : Calls Tryz.prog g #[vlT r] (W.alloc (.cells #[.int .i64 r.kd, .string r.nm, .slice r.ns.a r.ns.n r.ns.c, .int .i64 r.e.op, .int .u64 r.e.u, .string r.e.nm, .slice r.e.ar.a r.e.ar.n r.e.ar.c, .int .i64 r.a.op, .int .u64 r.a.u, .string r.a.nm, .slice r.a.ar.a r.a.ar.n r.a.ar.c, .slice r.ar.a r.ar.n r.ar.c, .int .u64 r.lo, .int .u64 r.hi, .slice r.bd.a r.bd.n r.bd.c, .slice r.el.a r.el.n r.el.c] 50)) (BoolPost t (W.alloc (.cells #[.int .i64 r.kd, .string r.nm, .slice r.ns.a r.ns.n r.ns.c, .int .i64 r.e.op, .int .u64 r.e.u, .string r.e.nm, .slice r.e.ar.a r.e.ar.n r.e.ar.c, .int .i64 r.a.op, .int .u64 r.a.u, .string r.a.nm, .slice r.a.ar.a r.a.ar.n r.a.ar.c, .slice r.ar.a r.ar.n r.ar.c, .int .u64 r.lo, .int .u64 r.hi, .slice r.bd.a r.bd.n r.bd.c, .slice r.el.a r.el.n r.el.c] 50)))) :
    Calls Tryz.prog 148 #[vlT r, .pointer (some ⟨b, 0, none⟩)] W (BoolPost (!t) W) := by
  have hb0 := Lib.hid ((Below.refl W.heap.size W).alloc (Nat.le_refl _) (.cells #[.int .i64 r.kd, .string r.nm, .slice r.ns.a r.ns.n r.ns.c, .int .i64 r.e.op, .int .u64 r.e.u, .string r.e.nm, .slice r.e.ar.a r.e.ar.n r.e.ar.c, .int .i64 r.a.op, .int .u64 r.a.u, .string r.a.nm, .slice r.a.ar.a r.a.ar.n r.a.ar.c, .slice r.ar.a r.ar.n r.ar.c, .int .u64 r.lo, .int .u64 r.hi, .slice r.bd.a r.bd.n r.bd.c, .slice r.el.a r.el.n r.el.c] 50))
  have hc := Lib.hid hc
  have hlt := cell_some_lt hb
  unfold vlT at hc ⊢
  go_enter Tryz.func148, Tryz.ntmps148
  go_wp2_with fail
  refine hc.out.mono ?_
  rintro e w1 ⟨rfl, hb1⟩
  have hfin := Lib.hid (Below.next hb0.out hb1)
  clear hb1
  cases t
  all_goals
    go_wp2
    go_ret
    exact ⟨rfl, hfin.out⟩
set_option maxRecDepth 100000 in
set_option maxHeartbeats 2000000 in
theorem idxTS_any (g : Nat) (hent : ∀ args w, (callFunc g args).run Tryz.prog w = .ok (.enter g args) w) (p : St → Bool) (w0 : World) (L : List (St)) (A : Option Addr) (h : StsAt w0 L A) (c b : Nat) (W : World)
    (hW : Below w0.heap.size w0 W) (hn : L.length ≤ 1000000) (hb : W.cell? ⟨b, 0, none⟩ = some (.func (.func g) #[] #[]))
    (hc : ∀ (i : Nat) (x : St) (r : StC), L[i]? = some x → SNow w0 x r → StsAt w0 x.bd r.bd.a → StsAt w0 x.el r.el.a → ∀ (W' : World), Below w0.heap.size w0 W' → Calls Tryz.prog g #[vlT r] W' (BoolPost (p x) W')) :
    Calls Tryz.prog 165 #[.slice A L.length c, .func (.func 148) #[] #[.pointer (some ⟨b, 0, none⟩)]] W (IdxPost (L.all p) W) := by
  have hs := Lib.hid h
  have hc' := Lib.hid hc
  have hW' := Lib.hid hW
  have hbl := cell_some_lt hb
  have hb' := Lib.hid hb
  obtain ⟨n, hnn⟩ : ∃ n, L.length = n := ⟨_, rfl⟩
  rw [hnn] at hn ⊢
  have hL' := Lib.hid hnn
  clear hc hW hnn h hb
  go_enter Tryz.func165, Tryz.ntmps165
  go_wp2_with fail
  go_loopg [8] n (fun g s8 wr => ∃ k : Nat, k + g = n ∧ s8 = .int .i64 k ∧ (∀ (i : Nat) (x : St), i < k → L[i]? = some x → p x = true) ∧ Below W.heap.size W wr)
  case atStart => exact ⟨0, by omega, rfl, fun i x h => absurd h (by omega), Below.refl _ _⟩
  case round =>
    obtain ⟨k, hkg, rfl, hall, hbr⟩ := hrel
    have hall' := Lib.hid hall
    have hbr' := Lib.hid hbr
    clear hall hbr
    cases gk with
    | zero =>
      have e0 : ¬ ((k : Int) < (n : Int)) := by omega
      have hs := Lib.hid (show L.all p = true by
        rw [List.all_eq_true]
        intro x hx
        obtain ⟨i, hi⟩ := List.getElem?_of_mem hx
        exact hall'.out i x (by have := (List.getElem?_eq_some_iff.1 hi).1; have := hL'.out; omega) hi)
      go_wp2
      go_ret
      exact ⟨-1, rfl, fun _ => rfl, (fun h => by rw [hs.out] at h; cases h), hbr'.out⟩
    | succ g2 =>
      have e0 : (k : Int) < (n : Int) := by omega
      have hbw := Lib.hid (hW'.out.trans (hbr'.out.mono hW'.out.size))
      obtain ⟨blk, off, x, r, rfl, hx, hcell, hxe, hxb, hxl⟩ := (hs.out).at_ (k := k) (by rw [hL'.out]; omega)
      have v0 : w0.cell? ⟨blk, off + k * 16, none⟩ = some (.int .i64 r.kd) := hcell 0 (by omega)
      have v0 := (hbw.out.cell (p := ⟨blk, off + k * 16, none⟩) (cell_some_lt v0)).trans v0
      have v1 : w0.cell? ⟨blk, off + k * 16 + 1, none⟩ = some (.string r.nm) := hcell 1 (by omega)
      have v1 := (hbw.out.cell (p := ⟨blk, off + k * 16 + 1, none⟩) (cell_some_lt v1)).trans v1
      have v2 : w0.cell? ⟨blk, off + k * 16 + 2, none⟩ = some (.slice r.ns.a r.ns.n r.ns.c) := hcell 2 (by omega)
      have v2 := (hbw.out.cell (p := ⟨blk, off + k * 16 + 2, none⟩) (cell_some_lt v2)).trans v2
      have v3 : w0.cell? ⟨blk, off + k * 16 + 3, none⟩ = some (.int .i64 r.e.op) := hcell 3 (by omega)
      have v3 := (hbw.out.cell (p := ⟨blk, off + k * 16 + 3, none⟩) (cell_some_lt v3)).trans v3
      have v4 : w0.cell? ⟨blk, off + k * 16 + 4, none⟩ = some (.int .u64 r.e.u) := hcell 4 (by omega)
      have v4 := (hbw.out.cell (p := ⟨blk, off + k * 16 + 4, none⟩) (cell_some_lt v4)).trans v4
      have v5 : w0.cell? ⟨blk, off + k * 16 + 5, none⟩ = some (.string r.e.nm) := hcell 5 (by omega)
      have v5 := (hbw.out.cell (p := ⟨blk, off + k * 16 + 5, none⟩) (cell_some_lt v5)).trans v5
      have v6 : w0.cell? ⟨blk, off + k * 16 + 6, none⟩ = some (.slice r.e.ar.a r.e.ar.n r.e.ar.c) := hcell 6 (by omega)
      have v6 := (hbw.out.cell (p := ⟨blk, off + k * 16 + 6, none⟩) (cell_some_lt v6)).trans v6
      have v7 : w0.cell? ⟨blk, off + k * 16 + 7, none⟩ = some (.int .i64 r.a.op) := hcell 7 (by omega)
      have v7 := (hbw.out.cell (p := ⟨blk, off + k * 16 + 7, none⟩) (cell_some_lt v7)).trans v7
      have v8 : w0.cell? ⟨blk, off + k * 16 + 8, none⟩ = some (.int .u64 r.a.u) := hcell 8 (by omega)
      have v8 := (hbw.out.cell (p := ⟨blk, off + k * 16 + 8, none⟩) (cell_some_lt v8)).trans v8
      have v9 : w0.cell? ⟨blk, off + k * 16 + 9, none⟩ = some (.string r.a.nm) := hcell 9 (by omega)
      have v9 := (hbw.out.cell (p := ⟨blk, off + k * 16 + 9, none⟩) (cell_some_lt v9)).trans v9
      have v10 : w0.cell? ⟨blk, off + k * 16 + 10, none⟩ = some (.slice r.a.ar.a r.a.ar.n r.a.ar.c) := hcell 10 (by omega)
      have v10 := (hbw.out.cell (p := ⟨blk, off + k * 16 + 10, none⟩) (cell_some_lt v10)).trans v10
      have v11 : w0.cell? ⟨blk, off + k * 16 + 11, none⟩ = some (.slice r.ar.a r.ar.n r.ar.c) := hcell 11 (by omega)
      have v11 := (hbw.out.cell (p := ⟨blk, off + k * 16 + 11, none⟩) (cell_some_lt v11)).trans v11
      have v12 : w0.cell? ⟨blk, off + k * 16 + 12, none⟩ = some (.int .u64 r.lo) := hcell 12 (by omega)
      have v12 := (hbw.out.cell (p := ⟨blk, off + k * 16 + 12, none⟩) (cell_some_lt v12)).trans v12
      have v13 : w0.cell? ⟨blk, off + k * 16 + 13, none⟩ = some (.int .u64 r.hi) := hcell 13 (by omega)
      have v13 := (hbw.out.cell (p := ⟨blk, off + k * 16 + 13, none⟩) (cell_some_lt v13)).trans v13
      have v14 : w0.cell? ⟨blk, off + k * 16 + 14, none⟩ = some (.slice r.bd.a r.bd.n r.bd.c) := hcell 14 (by omega)
      have v14 := (hbw.out.cell (p := ⟨blk, off + k * 16 + 14, none⟩) (cell_some_lt v14)).trans v14
      have v15 : w0.cell? ⟨blk, off + k * 16 + 15, none⟩ = some (.slice r.el.a r.el.n r.el.c) := hcell 15 (by omega)
      have v15 := (hbw.out.cell (p := ⟨blk, off + k * 16 + 15, none⟩) (cell_some_lt v15)).trans v15
      clear hcell
      have hx' := Lib.hid hx
      obtain ⟨t, ht⟩ : ∃ t, p x = t := ⟨_, rfl⟩
      have hk2 := notTS_any g hent r t b wr ((hbr'.out.cell (p := ⟨b, 0, none⟩) hbl).trans hb'.out) (by
        have h := hc'.out k x r hx hxe hxb hxl (wr.alloc (.cells #[.int .i64 r.kd, .string r.nm, .slice r.ns.a r.ns.n r.ns.c, .int .i64 r.e.op, .int .u64 r.e.u, .string r.e.nm, .slice r.e.ar.a r.e.ar.n r.e.ar.c, .int .i64 r.a.op, .int .u64 r.a.u, .string r.a.nm, .slice r.a.ar.a r.a.ar.n r.a.ar.c, .slice r.ar.a r.ar.n r.ar.c, .int .u64 r.lo, .int .u64 r.hi, .slice r.bd.a r.bd.n r.bd.c, .slice r.el.a r.el.n r.el.c] 50)) (hbw.out.alloc hbw.out.size _)
        rw [ht] at h
        exact h)
      unfold vlT at hk2
      have hk2 := Lib.hid hk2
      have ht' := Lib.hid ht
      clear ht hx hxe hxb hxl
      go_wp2_with fail
      refine hk2.out.mono ?_
      rintro e w1 ⟨rfl, hb1⟩
      have hb1' := Lib.hid (Below.next hbr'.out hb1)
      clear hb1
      cases t
      · have hs := Lib.hid (show L.all p = false by
          rw [List.all_eq_false]
          exact ⟨x, List.mem_of_getElem? hx'.out, by rw [ht'.out]; simp⟩)
        go_wp2
        go_ret
        exact ⟨k, rfl, (fun h => by rw [hs.out] at h; cases h), (fun _ => by omega), hb1'.out⟩
      · go_wp2
        go_roundg g2
        case measure => omega
        case rel =>
          refine ⟨k + 1, by omega, by go_num, fun i y hi hv => ?_, hb1'.out⟩
          rcases Nat.lt_or_ge i k with h | h
          · exact hall'.out i y h hv
          · obtain rfl : i = k := by omega
            rw [hx'.out] at hv
            cases hv
            exact ht'.out
set_option maxRecDepth 100000 in
set_option maxHeartbeats 2000000 in
theorem hasTS_any (g : Nat) (hent : ∀ args w, (callFunc g args).run Tryz.prog w = .ok (.enter g args) w) (p : St → Bool) (w0 : World) (L : List (St)) (A : Option Addr) (h : StsAt w0 L A) (c b : Nat) (W : World)
    (hW : Below w0.heap.size w0 W) (hn : L.length ≤ 1000000) (hb : W.cell? ⟨b, 0, none⟩ = some (.func (.func g) #[] #[]))
    (hc : ∀ (i : Nat) (x : St) (r : StC), L[i]? = some x → SNow w0 x r → StsAt w0 x.bd r.bd.a → StsAt w0 x.el r.el.a → ∀ (W' : World), Below w0.heap.size w0 W' → Calls Tryz.prog g #[vlT r] W' (BoolPost (p x) W')) :
    Calls Tryz.prog 147 #[.slice A L.length c, .func (.func 148) #[] #[.pointer (some ⟨b, 0, none⟩)]] W (BoolPost (!L.all p) W) := by
  have hk := Lib.hid (idxTS_any g hent p w0 L A h c b W hW hn hb hc)
  generalize L.all p = t at hk ⊢
  clear hc hW h hb
  go_enter Tryz.func147, Tryz.ntmps147
  go_wp2_with fail
  refine hk.out.mono ?_
  rintro e w1 ⟨v, rfl, h1, h2, hb1⟩
  have hb1' := Lib.hid hb1
  clear hb1
  cases t
  · have e0 : 0 ≤ v := h2 rfl
    have e0' := Lib.hid e0
    clear h1 h2
    go_wp2
    go_ret
    exact ⟨ret_bool (by simp [e0'.out]), hb1'.out⟩
  · have e0 : ¬ 0 ≤ v := by have := h1 rfl; omega
    have e0' := Lib.hid e0
    clear h1 h2
    go_wp2
    go_ret
    exact ⟨ret_bool (by simp [e0'.out]), hb1'.out⟩
set_option maxRecDepth 100000 in
set_option maxHeartbeats 2000000 in
theorem allTS_any (g : Nat) (hent : ∀ args w, (callFunc g args).run Tryz.prog w = .ok (.enter g args) w) (p : St → Bool) (w0 : World) (L : List (St)) (A : Option Addr) (h : StsAt w0 L A) (c : Nat) (W : World)
    (hW : Below w0.heap.size w0 W) (hn : L.length ≤ 1000000)
    (hc : ∀ (i : Nat) (x : St) (r : StC), L[i]? = some x → SNow w0 x r → StsAt w0 x.bd r.bd.a → StsAt w0 x.el r.el.a → ∀ (W' : World), Below w0.heap.size w0 W' → Calls Tryz.prog g #[vlT r] W' (BoolPost (p x) W')) :
    Calls Tryz.prog 114 #[.slice A L.length c, .func (.func g) #[] #[]] W (BoolPost (L.all p) W) := by
  have hb0 := Lib.hid ((Below.refl W.heap.size W).alloc (Nat.le_refl _) (.cells #[.func (.func g) #[] #[]] 146))
  have hk := Lib.hid (hasTS_any g hent p w0 L A h c W.heap.size (W.alloc (.cells #[.func (.func g) #[] #[]] 146)) (hW.alloc hW.size _) hn (by rw [blk_cell (heap_alloc_new W _)]; rfl) hc)
  generalize L.all p = t at hk ⊢
  clear hc hW h
  go_enter Tryz.func114, Tryz.ntmps114
  go_wp2_with fail
  refine hk.out.mono ?_
  rintro e w1 ⟨rfl, hb1⟩
  have hb1' := Lib.hid (Below.next hb0.out hb1)
  clear hb1
  cases t
  all_goals
    go_wp2
    go_ret
    exact ⟨rfl, hb1'.out⟩

set_option maxRecDepth 100000 in
set_option maxHeartbeats 2000000 in
theorem notFS_any (g : Nat) (hent : ∀ args w, (callFunc g args).run Tryz.prog w = .ok (.enter g args) w) (r : FnC) (t : Bool) (b : Nat) (W : World) (hb : W.cell? ⟨b, 0, none⟩ = some (.func (.func g) #[] #[]))
    (hc : Calls Tryz.prog g #[vlF r] (W.alloc (.cells #[.string r.nm, .slice r.ps.a r.ps.n r.ps.c, .slice r.vs.a r.vs.n r.vs.c, .slice r.rs.a r.rs.n r.rs.c, .slice r.bd.a r.bd.n r.bd.c] 54)) (BoolPost t (W.alloc (.cells #[.string r.nm, .slice r.ps.a r.ps.n r.ps.c, .slice r.vs.a r.vs.n r.vs.c, .slice r.rs.a r.rs.n r.rs.c, .slice r.bd.a r.bd.n r.bd.c] 54)))) :
    Calls Tryz.prog 119 #[vlF r, .pointer (some ⟨b, 0, none⟩)] W (BoolPost (!t) W) := by
  have hb0 := Lib.hid ((Below.refl W.heap.size W).alloc (Nat.le_refl _) (.cells #[.string r.nm, .slice r.ps.a r.ps.n r.ps.c, .slice r.vs.a r.vs.n r.vs.c, .slice r.rs.a r.rs.n r.rs.c, .slice r.bd.a r.bd.n r.bd.c] 54))
  have hc := Lib.hid hc
  have hlt := cell_some_lt hb
  unfold vlF at hc ⊢
  go_enter Tryz.func119, Tryz.ntmps119
  go_wp2_with fail
  refine hc.out.mono ?_
  rintro e w1 ⟨rfl, hb1⟩
  have hfin := Lib.hid (Below.next hb0.out hb1)
  clear hb1
  cases t
  all_goals
    go_wp2
    go_ret
    exact ⟨rfl, hfin.out⟩
set_option maxRecDepth 100000 in
set_option maxHeartbeats 2000000 in
theorem idxFS_any (g : Nat) (hent : ∀ args w, (callFunc g args).run Tryz.prog w = .ok (.enter g args) w) (p : Fn → Bool) (w0 : World) (L : List (Fn)) (A : Option Addr) (h : FnsAt w0 L A) (c b : Nat) (W : World)
    (hW : Below w0.heap.size w0 W) (hn : L.length ≤ 1000000) (hb : W.cell? ⟨b, 0, none⟩ = some (.func (.func g) #[] #[]))
    (hc : ∀ (i : Nat) (x : Fn) (r : FnC), L[i]? = some x → FNow w0 x r → ∀ (W' : World), Below w0.heap.size w0 W' → Calls Tryz.prog g #[vlF r] W' (BoolPost (p x) W')) :
    Calls Tryz.prog 151 #[.slice A L.length c, .func (.func 119) #[] #[.pointer (some ⟨b, 0, none⟩)]] W (IdxPost (L.all p) W) := by
  have hs := Lib.hid h
  have hc' := Lib.hid hc
  have hW' := Lib.hid hW
  have hbl := cell_some_lt hb
  have hb' := Lib.hid hb
  obtain ⟨n, hnn⟩ : ∃ n, L.length = n := ⟨_, rfl⟩
  rw [hnn] at hn ⊢
  have hL' := Lib.hid hnn
  clear hc hW hnn h hb
  go_enter Tryz.func151, Tryz.ntmps151
  go_wp2_with fail
  go_loopg [8] n (fun g s8 wr => ∃ k : Nat, k + g = n ∧ s8 = .int .i64 k ∧ (∀ (i : Nat) (x : Fn), i < k → L[i]? = some x → p x = true) ∧ Below W.heap.size W wr)
  case atStart => exact ⟨0, by omega, rfl, fun i x h => absurd h (by omega), Below.refl _ _⟩
  case round =>
    obtain ⟨k, hkg, rfl, hall, hbr⟩ := hrel
    have hall' := Lib.hid hall
    have hbr' := Lib.hid hbr
    clear hall hbr
    cases gk with
    | zero =>
      have e0 : ¬ ((k : Int) < (n : Int)) := by omega
      have hs := Lib.hid (show L.all p = true by
        rw [List.all_eq_true]
        intro x hx
        obtain ⟨i, hi⟩ := List.getElem?_of_mem hx
        exact hall'.out i x (by have := (List.getElem?_eq_some_iff.1 hi).1; have := hL'.out; omega) hi)
      go_wp2
      go_ret
      exact ⟨-1, rfl, fun _ => rfl, (fun h => by rw [hs.out] at h; cases h), hbr'.out⟩
    | succ g2 =>
      have e0 : (k : Int) < (n : Int) := by omega
      have hbw := Lib.hid (hW'.out.trans (hbr'.out.mono hW'.out.size))
      obtain ⟨blk, off, x, r, rfl, hx, hcell, hxe⟩ := (hs.out).at_ (k := k) (by rw [hL'.out]; omega)
      have v0 : w0.cell? ⟨blk, off + k * 5, none⟩ = some (.string r.nm) := hcell 0 (by omega)
      have v0 := (hbw.out.cell (p := ⟨blk, off + k * 5, none⟩) (cell_some_lt v0)).trans v0
      have v1 : w0.cell? ⟨blk, off + k * 5 + 1, none⟩ = some (.slice r.ps.a r.ps.n r.ps.c) := hcell 1 (by omega)
      have v1 := (hbw.out.cell (p := ⟨blk, off + k * 5 + 1, none⟩) (cell_some_lt v1)).trans v1
      have v2 : w0.cell? ⟨blk, off + k * 5 + 2, none⟩ = some (.slice r.vs.a r.vs.n r.vs.c) := hcell 2 (by omega)
      have v2 := (hbw.out.cell (p := ⟨blk, off + k * 5 + 2, none⟩) (cell_some_lt v2)).trans v2
      have v3 : w0.cell? ⟨blk, off + k * 5 + 3, none⟩ = some (.slice r.rs.a r.rs.n r.rs.c) := hcell 3 (by omega)
      have v3 := (hbw.out.cell (p := ⟨blk, off + k * 5 + 3, none⟩) (cell_some_lt v3)).trans v3
      have v4 : w0.cell? ⟨blk, off + k * 5 + 4, none⟩ = some (.slice r.bd.a r.bd.n r.bd.c) := hcell 4 (by omega)
      have v4 := (hbw.out.cell (p := ⟨blk, off + k * 5 + 4, none⟩) (cell_some_lt v4)).trans v4
      clear hcell
      have hx' := Lib.hid hx
      obtain ⟨t, ht⟩ : ∃ t, p x = t := ⟨_, rfl⟩
      have hk2 := notFS_any g hent r t b wr ((hbr'.out.cell (p := ⟨b, 0, none⟩) hbl).trans hb'.out) (by
        have h := hc'.out k x r hx hxe (wr.alloc (.cells #[.string r.nm, .slice r.ps.a r.ps.n r.ps.c, .slice r.vs.a r.vs.n r.vs.c, .slice r.rs.a r.rs.n r.rs.c, .slice r.bd.a r.bd.n r.bd.c] 54)) (hbw.out.alloc hbw.out.size _)
        rw [ht] at h
        exact h)
      unfold vlF at hk2
      have hk2 := Lib.hid hk2
      have ht' := Lib.hid ht
      clear ht hx hxe
      go_wp2_with fail
      refine hk2.out.mono ?_
      rintro e w1 ⟨rfl, hb1⟩
      have hb1' := Lib.hid (Below.next hbr'.out hb1)
      clear hb1
      cases t
      · have hs := Lib.hid (show L.all p = false by
          rw [List.all_eq_false]
          exact ⟨x, List.mem_of_getElem? hx'.out, by rw [ht'.out]; simp⟩)
        go_wp2
        go_ret
        exact ⟨k, rfl, (fun h => by rw [hs.out] at h; cases h), (fun _ => by omega), hb1'.out⟩
      · go_wp2
        go_roundg g2
        case measure => omega
        case rel =>
          refine ⟨k + 1, by omega, by go_num, fun i y hi hv => ?_, hb1'.out⟩
          rcases Nat.lt_or_ge i k with h | h
          · exact hall'.out i y h hv
          · obtain rfl : i = k := by omega
            rw [hx'.out] at hv
            cases hv
            exact ht'.out
set_option maxRecDepth 100000 in
set_option maxHeartbeats 2000000 in
theorem hasFS_any (g : Nat) (hent : ∀ args w, (callFunc g args).run Tryz.prog w = .ok (.enter g args) w) (p : Fn → Bool) (w0 : World) (L : List (Fn)) (A : Option Addr) (h : FnsAt w0 L A) (c b : Nat) (W : World)
    (hW : Below w0.heap.size w0 W) (hn : L.length ≤ 1000000) (hb : W.cell? ⟨b, 0, none⟩ = some (.func (.func g) #[] #[]))
    (hc : ∀ (i : Nat) (x : Fn) (r : FnC), L[i]? = some x → FNow w0 x r → ∀ (W' : World), Below w0.heap.size w0 W' → Calls Tryz.prog g #[vlF r] W' (BoolPost (p x) W')) :
    Calls Tryz.prog 118 #[.slice A L.length c, .func (.func 119) #[] #[.pointer (some ⟨b, 0, none⟩)]] W (BoolPost (!L.all p) W) := by
  have hk := Lib.hid (idxFS_any g hent p w0 L A h c b W hW hn hb hc)
  generalize L.all p = t at hk ⊢
  clear hc hW h hb
  go_enter Tryz.func118, Tryz.ntmps118
  go_wp2_with fail
  refine hk.out.mono ?_
  rintro e w1 ⟨v, rfl, h1, h2, hb1⟩
  have hb1' := Lib.hid hb1
  clear hb1
  cases t
  · have e0 : 0 ≤ v := h2 rfl
    have e0' := Lib.hid e0
    clear h1 h2
    go_wp2
    go_ret
    exact ⟨ret_bool (by simp [e0'.out]), hb1'.out⟩
  · have e0 : ¬ 0 ≤ v := by have := h1 rfl; omega
    have e0' := Lib.hid e0
    clear h1 h2
    go_wp2
    go_ret
    exact ⟨ret_bool (by simp [e0'.out]), hb1'.out⟩
set_option maxRecDepth 100000 in
set_option maxHeartbeats 2000000 in
theorem allFS_any (g : Nat) (hent : ∀ args w, (callFunc g args).run Tryz.prog w = .ok (.enter g args) w) (p : Fn → Bool) (w0 : World) (L : List (Fn)) (A : Option Addr) (h : FnsAt w0 L A) (c : Nat) (W : World)
    (hW : Below w0.heap.size w0 W) (hn : L.length ≤ 1000000)
    (hc : ∀ (i : Nat) (x : Fn) (r : FnC), L[i]? = some x → FNow w0 x r → ∀ (W' : World), Below w0.heap.size w0 W' → Calls Tryz.prog g #[vlF r] W' (BoolPost (p x) W')) :
    Calls Tryz.prog 70 #[.slice A L.length c, .func (.func g) #[] #[]] W (BoolPost (L.all p) W) := by
  have hb0 := Lib.hid ((Below.refl W.heap.size W).alloc (Nat.le_refl _) (.cells #[.func (.func g) #[] #[]] 106))
  have hk := Lib.hid (hasFS_any g hent p w0 L A h c W.heap.size (W.alloc (.cells #[.func (.func g) #[] #[]] 106)) (hW.alloc hW.size _) hn (by rw [blk_cell (heap_alloc_new W _)]; rfl) hc)
  generalize L.all p = t at hk ⊢
  clear hc hW h
  go_enter Tryz.func70, Tryz.ntmps70
  go_wp2_with fail
  refine hk.out.mono ?_
  rintro e w1 ⟨rfl, hb1⟩
  have hb1' := Lib.hid (Below.next hb0.out hb1)
  clear hb1
  cases t
  all_goals
    go_wp2
    go_ret
    exact ⟨rfl, hb1'.out⟩
end Go.Proofs.YtnahgfdoiflacaaGreatDoor
