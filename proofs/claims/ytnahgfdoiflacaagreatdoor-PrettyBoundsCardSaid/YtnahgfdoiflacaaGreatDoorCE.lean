/- Programs that came in. -/
import Derived.Test.YtnahgfdoiflacaaGreatDoorAA
import Derived.Test.YtnahgfdoiflacaaGreatDoorCB
set_option linter.unusedSimpArgs false
set_option linter.unusedVariables false
namespace Go.Proofs.YtnahgfdoiflacaaGreatDoor
open Go.ChangeShapes Go.WideShapes Go.ChangeAt Go.RowKit Go.Deep

theorem cells50 : Tryz.prog.cellsOf 50 = 16 := by kernel_rfl
theorem cells58 : Tryz.prog.cellsOf 58 = 4 := by kernel_rfl
theorem cells82 : Tryz.prog.cellsOf 82 = 4 := by kernel_rfl
theorem cells54 : Tryz.prog.cellsOf 54 = 5 := by kernel_rfl
theorem cells39 : Tryz.prog.cellsOf 39 = 2 := by kernel_rfl
theorem cells46 : Tryz.prog.cellsOf 46 = 1 := by kernel_rfl
theorem cells47 : Tryz.prog.cellsOf 47 = 1 := by kernel_rfl
theorem cells48 : Tryz.prog.cellsOf 48 = 1 := by kernel_rfl
theorem cells36 : Tryz.prog.cellsOf 36 = 1 := by kernel_rfl
theorem cells37 : Tryz.prog.cellsOf 37 = 1 := by kernel_rfl
theorem cells52 : Tryz.prog.cellsOf 52 = 1 := by kernel_rfl
theorem cells3 : Tryz.prog.cellsOf 3 = 1 := by kernel_rfl
theorem cells4 : Tryz.prog.cellsOf 4 = 1 := by kernel_rfl
theorem cells56 : Tryz.prog.cellsOf 56 = 1 := by kernel_rfl
theorem sixteen_of {cs : List Value} (h : cs.length = 16) : ∃ a0 a1 a2 a3 a4 a5 a6 a7 a8 a9 a10 a11 a12 a13 a14 a15, cs = [a0, a1, a2, a3, a4, a5, a6, a7, a8, a9, a10, a11, a12, a13, a14, a15] := by
  match cs, h with
  | [a0, a1, a2, a3, a4, a5, a6, a7, a8, a9, a10, a11, a12, a13, a14, a15], _ => exact ⟨a0, a1, a2, a3, a4, a5, a6, a7, a8, a9, a10, a11, a12, a13, a14, a15, rfl⟩
theorem five_of {cs : List Value} (h : cs.length = 5) : ∃ a0 a1 a2 a3 a4, cs = [a0, a1, a2, a3, a4] := by
  match cs, h with
  | [a0, a1, a2, a3, a4], _ => exact ⟨a0, a1, a2, a3, a4, rfl⟩
theorem two_of {cs : List Value} (h : cs.length = 2) : ∃ a0 a1, cs = [a0, a1] := by
  match cs, h with
  | [a0, a1], _ => exact ⟨a0, a1, rfl⟩
theorem CellsAt.map_ {α β : Type} {k : Nat} {cells : β → List Value} {f : α → β} {w : World} {L : List α} {A : Option Addr} (h : CellsAt k (fun x => cells (f x)) w L A) : CellsAt k cells w (L.map f) A := by
  obtain ⟨blk, off, h1, h2⟩ := h
  refine ⟨blk, off, fun h => h1 (by simpa using h), fun i x hx j hj => ?_⟩
  rw [List.getElem?_map] at hx
  obtain ⟨y, hy, rfl⟩ := Option.map_eq_some_iff.1 hx
  exact h2 i y hy j hj
section
variable {H : Type} {enc : TypeId × Value → H} {W : World}
theorem open_rows {α : Type} (d : α) {t e : TypeId} {k : Nat} (cells : α → List Value) (Q : α → Prop) (ht : Tryz.prog.underlying t = some (.slice e)) (hk : Tryz.prog.cellsOf e = k) (hlen : ∀ x, (cells x).length = k) (hk0 : 0 < k) {fuel : Nat} {a0 : Option Addr} {n cap : Nat} {x : DataW H × List MemPlace}
    (hf : DataW.trod enc Tryz.prog W 0 (fun _ => true) true fuel t [.slice a0 n cap] = some x)
    (el : ∀ (m : Nat) (cs : List Value) (y : DataW H × List MemPlace), m < fuel → DataW.trod enc Tryz.prog W 0 (fun _ => true) true m e cs = some y → ∃ q : α, cs = cells q ∧ Q q) :
    ∃ L : List α, L.length = n ∧ CellsAt k cells W L a0 ∧ ∀ q ∈ L, Q q := by
  rcases DataW.trod_slice ht hf with ⟨hcs, hx⟩ | ⟨a, len', cap', elems, rest, nn, hfu, hcs, _, hb, hl, hm, hlen', hi, _, _⟩
  · cases hcs
    exact ⟨[], rfl, CellsAt.nil _, fun q h => by simp at h⟩
  · cases hcs
    rw [hk] at hi
    have key : ∀ i, ∃ q : α, i < n → (∀ j v, (cells q)[j]? = some v → W.cell? ((a.add (i * k)).add j) = some v) ∧ Q q := by
      intro i
      by_cases hin : i < n
      · have h1 := hi i hin
        rw [List.getElem?_eq_getElem (by omega)] at h1
        obtain ⟨cs', hc, ht'⟩ := Option.bind_eq_some_iff.1 h1
        obtain ⟨q, rfl, hq⟩ := el nn cs' _ (by omega) ht'
        obtain ⟨_, hcl, hat⟩ := World.cells?_some hc
        exact ⟨q, fun _ => ⟨fun j v hj => (hat j (by have := (List.getElem?_eq_some_iff.1 hj).1; rw [hlen] at this; exact this)).trans hj, hq⟩⟩
      · exact ⟨d, fun h => absurd h hin⟩
    obtain ⟨g, hg⟩ := Classical.axiomOfChoice key
    have get : ∀ i q, ((List.range n).map g)[i]? = some q → i < n ∧ q = g i := fun i q hq => by
      rw [List.getElem?_map] at hq
      obtain ⟨i', hi', rfl⟩ := Option.map_eq_some_iff.1 hq
      have hlt' : i < n := by have := (List.getElem?_eq_some_iff.1 hi').1; simpa using this
      rw [List.getElem?_range hlt'] at hi'
      cases hi'
      exact ⟨hlt', rfl⟩
    refine ⟨(List.range n).map g, by simp, ?_, fun q hq => ?_⟩
    · by_cases hn' : 0 < n
      · obtain ⟨ab, ao, spot⟩ := a
        have h0 := (hg 0 hn').1 0 _ (List.getElem?_eq_getElem (by rw [hlen]; omega))
        have hspot : spot = none := by simpa [Addr.add] using World.cell?_spot h0
        subst hspot
        refine ⟨ab, ao, fun _ => rfl, fun i q hq j hj => ?_⟩
        obtain ⟨hlt', rfl⟩ := get i q hq
        have h1 := (hg i hlt').1 j _ (List.getElem?_eq_getElem (by rw [hlen]; exact hj))
        rw [Lib.add_plain, Lib.add_plain] at h1
        rw [List.getElem?_eq_getElem (by rw [hlen]; exact hj)]
        exact h1
      · obtain rfl : n = 0 := by omega
        exact CellsAt.nil _
    · obtain ⟨i, hi'⟩ := List.getElem?_of_mem hq
      obtain ⟨hlt', rfl⟩ := get i q hi'
      exact (hg i hlt').2
theorem var_of {fuel : Nat} {cs : List Value} {x : DataW H × List MemPlace} (hf : DataW.trod enc Tryz.prog W 0 (fun _ => true) true fuel 58 cs = some x) : ∃ q : VarC, cs = cellsV q ∧ VarOk q := by
  obtain ⟨xs, n, hfu, _, hcl, hlen, hx⟩ := DataW.trod_struct Tryz.underlying58 hf
  rw [cells58] at hcl
  obtain ⟨v0, v1, v2, v3, rfl⟩ := four_of hcl
  have hlen : xs.length = 4 := hlen
  obtain ⟨y0, h0⟩ := some_of_get (hx 0 _ rfl) (by omega)
  simp only [List.getElem_toArray, List.getElem_cons_zero, List.getElem_cons_succ] at h0
  rw [cells9] at h0
  have h0 : DataW.trod enc Tryz.prog W 0 (fun _ => true) true n 9 [v0] = some y0 := h0
  obtain ⟨y1, h1⟩ := some_of_get (hx 1 _ rfl) (by omega)
  simp only [List.getElem_toArray, List.getElem_cons_zero, List.getElem_cons_succ] at h1
  rw [cells56] at h1
  have h1 : DataW.trod enc Tryz.prog W 0 (fun _ => true) true n 56 [v1] = some y1 := h1
  obtain ⟨y2, h2⟩ := some_of_get (hx 2 _ rfl) (by omega)
  simp only [List.getElem_toArray, List.getElem_cons_zero, List.getElem_cons_succ] at h2
  rw [cells3] at h2
  have h2 : DataW.trod enc Tryz.prog W 0 (fun _ => true) true n 3 [v2] = some y2 := h2
  obtain ⟨y3, h3⟩ := some_of_get (hx 3 _ rfl) (by omega)
  simp only [List.getElem_toArray, List.getElem_cons_zero, List.getElem_cons_succ] at h3
  rw [cells4] at h3
  have h3 : DataW.trod enc Tryz.prog W 0 (fun _ => true) true n 4 [v3] = some y3 := h3
  obtain ⟨k0, e0, _, _⟩ := DataW.trod_string Tryz.underlying9 h0
  cases e0
  obtain ⟨k1, e1, _, b1⟩ := DataW.trod_int Tryz.underlying56 h1
  cases e1
  have b1 := bounds_i64 b1
  obtain ⟨k2, e2, _, b2⟩ := DataW.trod_int Tryz.underlying3 h2
  cases e2
  have b2 := bounds_i64 b2
  obtain ⟨k3, e3, _⟩ := DataW.trod_bool Tryz.underlying4 h3
  cases e3
  exact ⟨⟨k0, k1, k2, k3⟩, rfl, b2⟩
theorem reg_of {fuel : Nat} {cs : List Value} {x : DataW H × List MemPlace} (hf : DataW.trod enc Tryz.prog W 0 (fun _ => true) true fuel 82 cs = some x) : ∃ q : RegC, cs = cellsR q ∧ RegOk q := by
  obtain ⟨xs, n, hfu, _, hcl, hlen, hx⟩ := DataW.trod_struct Tryz.underlying82 hf
  rw [cells82] at hcl
  obtain ⟨v0, v1, v2, v3, rfl⟩ := four_of hcl
  have hlen : xs.length = 4 := hlen
  obtain ⟨y0, h0⟩ := some_of_get (hx 0 _ rfl) (by omega)
  simp only [List.getElem_toArray, List.getElem_cons_zero, List.getElem_cons_succ] at h0
  rw [cells9] at h0
  have h0 : DataW.trod enc Tryz.prog W 0 (fun _ => true) true n 9 [v0] = some y0 := h0
  obtain ⟨y1, h1⟩ := some_of_get (hx 1 _ rfl) (by omega)
  simp only [List.getElem_toArray, List.getElem_cons_zero, List.getElem_cons_succ] at h1
  rw [cells3] at h1
  have h1 : DataW.trod enc Tryz.prog W 0 (fun _ => true) true n 3 [v1] = some y1 := h1
  obtain ⟨y2, h2⟩ := some_of_get (hx 2 _ rfl) (by omega)
  simp only [List.getElem_toArray, List.getElem_cons_zero, List.getElem_cons_succ] at h2
  rw [cells3] at h2
  have h2 : DataW.trod enc Tryz.prog W 0 (fun _ => true) true n 3 [v2] = some y2 := h2
  obtain ⟨y3, h3⟩ := some_of_get (hx 3 _ rfl) (by omega)
  simp only [List.getElem_toArray, List.getElem_cons_zero, List.getElem_cons_succ] at h3
  rw [cells4] at h3
  have h3 : DataW.trod enc Tryz.prog W 0 (fun _ => true) true n 4 [v3] = some y3 := h3
  obtain ⟨k0, e0, _, _⟩ := DataW.trod_string Tryz.underlying9 h0
  cases e0
  obtain ⟨k1, e1, _, b1⟩ := DataW.trod_int Tryz.underlying3 h1
  cases e1
  have b1 := bounds_i64 b1
  obtain ⟨k2, e2, _, b2⟩ := DataW.trod_int Tryz.underlying3 h2
  cases e2
  have b2 := bounds_i64 b2
  obtain ⟨k3, e3, _⟩ := DataW.trod_bool Tryz.underlying4 h3
  cases e3
  exact ⟨⟨k0, k1, k2, k3⟩, rfl, b1, b2⟩
theorem open_vars {fuel : Nat} {a0 : Option Addr} {n cap : Nat} {x : DataW H × List MemPlace} (hf : DataW.trod enc Tryz.prog W 0 (fun _ => true) true fuel 52 [.slice a0 n cap] = some x) : ∃ L : List VarC, L.length = n ∧ CellsAt 4 cellsV W L a0 ∧ ∀ q ∈ L, VarOk q :=
  open_rows ⟨⟨#[]⟩, 0, 0, false⟩ cellsV VarOk Tryz.underlying52 cells58 cellsV_len (by omega) hf fun m cs y _ h => var_of h
theorem open_regs {fuel : Nat} {a0 : Option Addr} {n cap : Nat} {x : DataW H × List MemPlace} (hf : DataW.trod enc Tryz.prog W 0 (fun _ => true) true fuel 36 [.slice a0 n cap] = some x) : ∃ L : List RegC, L.length = n ∧ CellsAt 4 cellsR W L a0 ∧ ∀ q ∈ L, RegOk q :=
  open_rows ⟨⟨#[]⟩, 0, 0, false⟩ cellsR RegOk Tryz.underlying36 cells82 cellsR_len (by omega) hf fun m cs y _ h => reg_of h
theorem open_names {fuel : Nat} {a0 : Option Addr} {n cap : Nat} {x : DataW H × List MemPlace} (hf : DataW.trod enc Tryz.prog W 0 (fun _ => true) true fuel 47 [.slice a0 n cap] = some x) : ∃ L : List ByteArray, L.length = n ∧ CellsAt 1 cellsS W L a0 := by
  obtain ⟨L, h1, h2, _⟩ := open_rows ⟨#[]⟩ cellsS (fun _ => True) Tryz.underlying47 cells9 cellsS_len (by omega) hf fun m cs y _ h => by
    obtain ⟨s, e, _, _⟩ := DataW.trod_string Tryz.underlying9 h
    exact ⟨s, e, trivial⟩
  exact ⟨L, h1, h2⟩
/-- what lies of one statement -/
def SIs (W : World) (q : StC × St) : Prop := SNow W q.2 q.1 ∧ StsAt W q.2.bd q.1.bd.a ∧ StsAt W q.2.el q.1.el.a
theorem open_sts_fuel : ∀ (fuel : Nat) {a0 : Option Addr} {n cap : Nat} {x : DataW H × List MemPlace}, DataW.trod enc Tryz.prog W 0 (fun _ => true) true fuel 48 [.slice a0 n cap] = some x → ∃ L : List St, L.length = n ∧ StsAt W L a0 := by
  intro fuel
  induction fuel using Nat.strongRecOn with
  | _ fuel ih =>
    intro a0 n cap x hf
    obtain ⟨L, h1, h2, h3⟩ := open_rows (W := W) (⟨0, ⟨#[]⟩, ⟨none, 0, 0⟩, ⟨0, 0, ⟨#[]⟩, ⟨none, 0, 0⟩⟩, ⟨0, 0, ⟨#[]⟩, ⟨none, 0, 0⟩⟩, ⟨none, 0, 0⟩, 0, 0, ⟨none, 0, 0⟩, ⟨none, 0, 0⟩⟩, St.node 0 ⟨#[]⟩ [] (.node 0 0 ⟨#[]⟩ []) (.node 0 0 ⟨#[]⟩ []) [] 0 0 [] []) (fun q : StC × St => cellsT q.1) (SIs W) Tryz.underlying48 cells50 (fun q => rfl) (by omega) hf (by
      intro m cs y hm hf
      obtain ⟨xs, n, hfu, _, hcl, hlen, hx⟩ := DataW.trod_struct Tryz.underlying50 hf
      rw [cells50] at hcl
      obtain ⟨v0, v1, v2, v3, v4, v5, v6, v7, v8, v9, v10, v11, v12, v13, v14, v15, rfl⟩ := sixteen_of hcl
      have hlen : xs.length = 10 := hlen
      obtain ⟨y0, h0⟩ := some_of_get (hx 0 _ rfl) (by omega)
      simp only [List.getElem_toArray, List.getElem_cons_zero, List.getElem_cons_succ] at h0
      rw [cells46] at h0
      have h0 : DataW.trod enc Tryz.prog W 0 (fun _ => true) true n 46 [v0] = some y0 := h0
      obtain ⟨y1, h1⟩ := some_of_get (hx 1 _ rfl) (by omega)
      simp only [List.getElem_toArray, List.getElem_cons_zero, List.getElem_cons_succ] at h1
      rw [cells9] at h1
      have h1 : DataW.trod enc Tryz.prog W 0 (fun _ => true) true n 9 [v1] = some y1 := h1
      obtain ⟨y2, h2⟩ := some_of_get (hx 2 _ rfl) (by omega)
      simp only [List.getElem_toArray, List.getElem_cons_zero, List.getElem_cons_succ] at h2
      rw [cells47] at h2
      have h2 : DataW.trod enc Tryz.prog W 0 (fun _ => true) true n 47 [v2] = some y2 := h2
      obtain ⟨y3, h3⟩ := some_of_get (hx 3 _ rfl) (by omega)
      simp only [List.getElem_toArray, List.getElem_cons_zero, List.getElem_cons_succ] at h3
      rw [cells26] at h3
      have h3 : DataW.trod enc Tryz.prog W 0 (fun _ => true) true n 26 [v3, v4, v5, v6] = some y3 := h3
      obtain ⟨y4, h4⟩ := some_of_get (hx 4 _ rfl) (by omega)
      simp only [List.getElem_toArray, List.getElem_cons_zero, List.getElem_cons_succ] at h4
      rw [cells26] at h4
      have h4 : DataW.trod enc Tryz.prog W 0 (fun _ => true) true n 26 [v7, v8, v9, v10] = some y4 := h4
      obtain ⟨y5, h5⟩ := some_of_get (hx 5 _ rfl) (by omega)
      simp only [List.getElem_toArray, List.getElem_cons_zero, List.getElem_cons_succ] at h5
      rw [cells24] at h5
      have h5 : DataW.trod enc Tryz.prog W 0 (fun _ => true) true n 24 [v11] = some y5 := h5
      obtain ⟨y6, h6⟩ := some_of_get (hx 6 _ rfl) (by omega)
      simp only [List.getElem_toArray, List.getElem_cons_zero, List.getElem_cons_succ] at h6
      rw [cells23] at h6
      have h6 : DataW.trod enc Tryz.prog W 0 (fun _ => true) true n 23 [v12] = some y6 := h6
      obtain ⟨y7, h7⟩ := some_of_get (hx 7 _ rfl) (by omega)
      simp only [List.getElem_toArray, List.getElem_cons_zero, List.getElem_cons_succ] at h7
      rw [cells23] at h7
      have h7 : DataW.trod enc Tryz.prog W 0 (fun _ => true) true n 23 [v13] = some y7 := h7
      obtain ⟨y8, h8⟩ := some_of_get (hx 8 _ rfl) (by omega)
      simp only [List.getElem_toArray, List.getElem_cons_zero, List.getElem_cons_succ] at h8
      rw [cells48] at h8
      have h8 : DataW.trod enc Tryz.prog W 0 (fun _ => true) true n 48 [v14] = some y8 := h8
      obtain ⟨y9, h9⟩ := some_of_get (hx 9 _ rfl) (by omega)
      simp only [List.getElem_toArray, List.getElem_cons_zero, List.getElem_cons_succ] at h9
      rw [cells48] at h9
      have h9 : DataW.trod enc Tryz.prog W 0 (fun _ => true) true n 48 [v15] = some y9 := h9
      obtain ⟨k0, e0, _, b0⟩ := DataW.trod_int Tryz.underlying46 h0
      cases e0
      have b0 := bounds_i64 b0
      obtain ⟨k1, e1, _, _⟩ := DataW.trod_string Tryz.underlying9 h1
      cases e1
      obtain ⟨A2, n2, c2, rfl⟩ := slice_val Tryz.underlying47 h2
      obtain ⟨op3, eu3, en3, B3, ek3, C3, m3, z3, hm3, ec3, hu3, h243⟩ := ex_of h3
      cases ec3
      obtain ⟨L3, hL3, hW3⟩ := open_exs_fuel m3 h243
      obtain ⟨op4, eu4, en4, B4, ek4, C4, m4, z4, hm4, ec4, hu4, h244⟩ := ex_of h4
      cases ec4
      obtain ⟨L4, hL4, hW4⟩ := open_exs_fuel m4 h244
      obtain ⟨A5, n5, c5, rfl⟩ := slice_val Tryz.underlying24 h5
      obtain ⟨u6, e6, _, b6⟩ := DataW.trod_int Tryz.underlying23 h6
      cases e6
      obtain ⟨k6, rfl⟩ := Int.eq_ofNat_of_zero_le (bounds_u64 b6).1
      have b6 := (bounds_u64 b6).2
      obtain ⟨u7, e7, _, b7⟩ := DataW.trod_int Tryz.underlying23 h7
      cases e7
      obtain ⟨k7, rfl⟩ := Int.eq_ofNat_of_zero_le (bounds_u64 b7).1
      have b7 := (bounds_u64 b7).2
      obtain ⟨A8, n8, c8, rfl⟩ := slice_val Tryz.underlying48 h8
      obtain ⟨A9, n9, c9, rfl⟩ := slice_val Tryz.underlying48 h9
      obtain ⟨Ln, hLn, hWn⟩ := open_names h2
      obtain ⟨La, hLa, hWa⟩ := open_exs_fuel n h5
      obtain ⟨Lb, hLb, hWb⟩ := ih n (by omega) h8
      obtain ⟨Le, hLe, hWe⟩ := ih n (by omega) h9
      subst hLn hLa hLb hLe hL3 hL4
      exact ⟨(⟨k0, k1, ⟨A2, _, c2⟩, ⟨op3, eu3, en3, ⟨B3, _, C3⟩⟩, ⟨op4, eu4, en4, ⟨B4, _, C4⟩⟩, ⟨A5, _, c5⟩, k6, k7, ⟨A8, _, c8⟩, ⟨A9, _, c9⟩⟩, .node k0 k1 Ln (.node op3 eu3 en3 L3) (.node op4 eu4 en4 L4) La k6 k7 Lb Le), rfl,
        ⟨rfl, rfl, rfl, hWn, ⟨rfl, rfl, rfl, rfl, ExsAt.mk_ (e := .node op3 eu3 en3 L3) hW3, hu3⟩, ⟨rfl, rfl, rfl, rfl, ExsAt.mk_ (e := .node op4 eu4 en4 L4) hW4, hu4⟩, rfl, hWa, rfl, rfl, show k6 < _ by omega, show k7 < _ by omega, rfl, rfl⟩, hWb, hWe⟩)
    refine ⟨L.map Prod.snd, by simpa using h1, .mk (L.map Prod.fst) h2.map_ (by simp) ?_ ?_ ?_⟩
    all_goals
      intro i x r hx hr
      rw [List.getElem?_map] at hx hr
      obtain ⟨q, hq, rfl⟩ := Option.map_eq_some_iff.1 hx
      rw [hq] at hr
      cases hr
      have hs := h3 q (List.mem_of_getElem? hq)
    · exact hs.1
    · exact hs.2.1
    · exact hs.2.2
theorem open_fns {fuel : Nat} {a0 : Option Addr} {n cap : Nat} {x : DataW H × List MemPlace} (hf : DataW.trod enc Tryz.prog W 0 (fun _ => true) true fuel 37 [.slice a0 n cap] = some x) : ∃ L : List Fn, L.length = n ∧ FnsAt W L a0 := by
  obtain ⟨L, h1, h2, h3⟩ := open_rows (W := W) (⟨⟨#[]⟩, ⟨none, 0, 0⟩, ⟨none, 0, 0⟩, ⟨none, 0, 0⟩, ⟨none, 0, 0⟩⟩, Fn.mk ⟨#[]⟩ [] [] [] []) (fun q : FnC × Fn => cellsF q.1) (fun q => FNow W q.2 q.1) Tryz.underlying37 cells54 (fun q => rfl) (by omega) hf (by
    intro m cs y hm hf
    obtain ⟨xs, n, hfu, _, hcl, hlen, hx⟩ := DataW.trod_struct Tryz.underlying54 hf
    rw [cells54] at hcl
    obtain ⟨v0, v1, v2, v3, v4, rfl⟩ := five_of hcl
    have hlen : xs.length = 5 := hlen
    obtain ⟨y0, h0⟩ := some_of_get (hx 0 _ rfl) (by omega)
    simp only [List.getElem_toArray, List.getElem_cons_zero, List.getElem_cons_succ] at h0
    rw [cells9] at h0
    have h0 : DataW.trod enc Tryz.prog W 0 (fun _ => true) true n 9 [v0] = some y0 := h0
    obtain ⟨y1, h1⟩ := some_of_get (hx 1 _ rfl) (by omega)
    simp only [List.getElem_toArray, List.getElem_cons_zero, List.getElem_cons_succ] at h1
    rw [cells52] at h1
    have h1 : DataW.trod enc Tryz.prog W 0 (fun _ => true) true n 52 [v1] = some y1 := h1
    obtain ⟨y2, h2⟩ := some_of_get (hx 2 _ rfl) (by omega)
    simp only [List.getElem_toArray, List.getElem_cons_zero, List.getElem_cons_succ] at h2
    rw [cells52] at h2
    have h2 : DataW.trod enc Tryz.prog W 0 (fun _ => true) true n 52 [v2] = some y2 := h2
    obtain ⟨y3, h3⟩ := some_of_get (hx 3 _ rfl) (by omega)
    simp only [List.getElem_toArray, List.getElem_cons_zero, List.getElem_cons_succ] at h3
    rw [cells47] at h3
    have h3 : DataW.trod enc Tryz.prog W 0 (fun _ => true) true n 47 [v3] = some y3 := h3
    obtain ⟨y4, h4⟩ := some_of_get (hx 4 _ rfl) (by omega)
    simp only [List.getElem_toArray, List.getElem_cons_zero, List.getElem_cons_succ] at h4
    rw [cells48] at h4
    have h4 : DataW.trod enc Tryz.prog W 0 (fun _ => true) true n 48 [v4] = some y4 := h4
    obtain ⟨k0, e0, _, _⟩ := DataW.trod_string Tryz.underlying9 h0
    cases e0
    obtain ⟨A1, n1, c1, rfl⟩ := slice_val Tryz.underlying52 h1
    obtain ⟨A2, n2, c2, rfl⟩ := slice_val Tryz.underlying52 h2
    obtain ⟨A3, n3, c3, rfl⟩ := slice_val Tryz.underlying47 h3
    obtain ⟨A4, n4, c4, rfl⟩ := slice_val Tryz.underlying48 h4
    obtain ⟨Lp, hLp, hWp, hKp⟩ := open_vars h1
    obtain ⟨Lv, hLv, hWv, hKv⟩ := open_vars h2
    obtain ⟨Lr, hLr, hWr⟩ := open_names h3
    obtain ⟨Lb, hLb, hWb⟩ := open_sts_fuel n h4
    subst hLp hLv hLr hLb
    exact ⟨(⟨k0, ⟨A1, _, c1⟩, ⟨A2, _, c2⟩, ⟨A3, _, c3⟩, ⟨A4, _, c4⟩⟩, ⟨k0, Lp, Lv, Lr, Lb⟩), rfl, ⟨rfl, rfl, hWp, rfl, hWv, rfl, hWr, rfl, hWb, hKp, hKv⟩⟩)
  refine ⟨L.map Prod.snd, by simpa using h1, L.map Prod.fst, h2.map_, by simp, ?_⟩
  intro i x r hx hr
  rw [List.getElem?_map] at hx hr
  obtain ⟨q, hq, rfl⟩ := Option.map_eq_some_iff.1 hx
  rw [hq] at hr
  cases hr
  exact h3 q (List.mem_of_getElem? hq)
set_option maxRecDepth 100000 in
theorem open_prog {r : Reach} {b0 : Nat} {v : Value} {d : DataW H} {p : List MemPlace} (hv : Value.okWide Tryz.prog W r b0 39 v) (hk : DataW.Trod enc Tryz.prog W 0 (fun _ => true) true 39 v d p) :
    ∃ (g : Pg) (A : Option Addr) (c : Nat) (B : Option Addr) (d : Nat), v = pgV g A c B d ∧ CellsAt 4 cellsR W g.rs A ∧ FnsAt W g.fs B ∧ ∀ q ∈ g.rs, RegOk q := by
  obtain ⟨fuel, hf⟩ := hk
  obtain ⟨fs, hfs⟩ : ∃ fs, Tryz.prog.underlying 39 = some (.struct fs) := ⟨_, Tryz.underlying39⟩
  obtain ⟨cs, rfl, hsz⟩ := okWide_struct hfs hv
  have hf : DataW.trod enc Tryz.prog W 0 (fun _ => true) true fuel 39 cs.toList = some (d, p) := by simpa [Value.cells] using hf
  obtain ⟨cl, hcl0⟩ : ∃ cl, cs.toList = cl := ⟨_, rfl⟩
  rw [hcl0] at hf
  obtain ⟨xs, n, hfu, _, hcl, hlen, hx⟩ := DataW.trod_struct Tryz.underlying39 hf
  rw [cells39] at hcl
  obtain ⟨v0, v1, rfl⟩ := two_of hcl
  have hlen : xs.length = 2 := hlen
  obtain ⟨y0, h0⟩ := some_of_get (hx 0 _ rfl) (by omega)
  simp only [List.getElem_toArray, List.getElem_cons_zero, List.getElem_cons_succ] at h0
  rw [cells36] at h0
  have h0 : DataW.trod enc Tryz.prog W 0 (fun _ => true) true n 36 [v0] = some y0 := h0
  obtain ⟨y1, h1⟩ := some_of_get (hx 1 _ rfl) (by omega)
  simp only [List.getElem_toArray, List.getElem_cons_zero, List.getElem_cons_succ] at h1
  rw [cells37] at h1
  have h1 : DataW.trod enc Tryz.prog W 0 (fun _ => true) true n 37 [v1] = some y1 := h1
  obtain ⟨A0, n0, c0, rfl⟩ := slice_val Tryz.underlying36 h0
  obtain ⟨A1, n1, c1, rfl⟩ := slice_val Tryz.underlying37 h1
  obtain ⟨Lr, hLr, hWr, hKr⟩ := open_regs h0
  obtain ⟨Lf, hLf, hWf⟩ := open_fns h1
  subst hLr hLf
  refine ⟨⟨Lr, Lf⟩, A0, c0, A1, c1, ?_, hWr, hWf, hKr⟩
  unfold pgV
  congr 1
  apply Array.toList_inj.1
  rw [hcl0]
end
end Go.Proofs.YtnahgfdoiflacaaGreatDoor
