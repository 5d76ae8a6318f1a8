/- Instructions and addresses that came in. -/
import Derived.Test.YtmimmnjdgpdjlaaGreatDoorAC
import Derived.ProofKit
import Derived.OpenShut
import Derived.Deep.DeepHandedRow
import Derived.ChangeSlices
import Derived.Deep.Slices
set_option linter.unusedSimpArgs false
set_option linter.unusedVariables false
namespace Go.Proofs.YtmimmnjdgpdjlaaGreatDoor
open Go.ChangeShapes Go.WideShapes Go.ChangeAt Go.RowKit Go.Deep

theorem cells32 : Tryz.prog.cellsOf 32 = 13 := by kernel_rfl
theorem cells30 : Tryz.prog.cellsOf 30 = 5 := by kernel_rfl
theorem cells2 : Tryz.prog.cellsOf 2 = 1 := by kernel_rfl
theorem cells3 : Tryz.prog.cellsOf 3 = 1 := by kernel_rfl
theorem cells4 : Tryz.prog.cellsOf 4 = 1 := by kernel_rfl
theorem cells23 : Tryz.prog.cellsOf 23 = 1 := by kernel_rfl
theorem cells24 : Tryz.prog.cellsOf 24 = 1 := by kernel_rfl
theorem cells25 : Tryz.prog.cellsOf 25 = 1 := by kernel_rfl
theorem cells26 : Tryz.prog.cellsOf 26 = 1 := by kernel_rfl
theorem cells27 : Tryz.prog.cellsOf 27 = 1 := by kernel_rfl
theorem cells28 : Tryz.prog.cellsOf 28 = 1 := by kernel_rfl
theorem some_of_get {α : Type} {x : Option α} {xs : List α} {i : Nat} (h : x = xs[i]?) (hi : i < xs.length) : ∃ y, x = some y := ⟨xs[i], h.trans (List.getElem?_eq_getElem hi)⟩
theorem thirteen_of {cs : List Value} (h : cs.length = 13) : ∃ v0 v1 v2 v3 v4 v5 v6 v7 v8 v9 v10 v11 v12, cs = [v0, v1, v2, v3, v4, v5, v6, v7, v8, v9, v10, v11, v12] := by
  match cs, h with
  | [v0, v1, v2, v3, v4, v5, v6, v7, v8, v9, v10, v11, v12], _ => exact ⟨v0, v1, v2, v3, v4, v5, v6, v7, v8, v9, v10, v11, v12, rfl⟩
theorem five_of {cs : List Value} (h : cs.length = 5) : ∃ v0 v1 v2 v3 v4, cs = [v0, v1, v2, v3, v4] := by
  match cs, h with
  | [v0, v1, v2, v3, v4], _ => exact ⟨v0, v1, v2, v3, v4, rfl⟩
section
variable {H : Type} {enc : TypeId × Value → H} {W : World}
theorem addr_of {fuel : Nat} {cs : List Value} {x : DataW H × List MemPlace} (hf : DataW.trod enc Tryz.prog W 0 (fun _ => true) true fuel 30 cs = some x) :
    ∃ (ba ix : Int) (hb hi : Bool) (dp : Int), cs = [.int .i64 ba, .int .i64 ix, .bool hb, .bool hi, .int .i64 dp] ∧ -9223372036854775808 ≤ dp ∧ dp ≤ 9223372036854775807 := by
  obtain ⟨xs, n, hfu, _, hcl, hlen, hx⟩ := DataW.trod_struct Tryz.underlying30 hf
  rw [cells30] at hcl
  obtain ⟨v0, v1, v2, v3, v4, rfl⟩ := five_of hcl
  have hlen : xs.length = 5 := hlen
  obtain ⟨y0, h0⟩ := some_of_get (hx 0 _ rfl) (by omega)
  simp only [List.getElem_toArray, List.getElem_cons_zero, List.getElem_cons_succ] at h0
  rw [cells27] at h0
  have h0 : DataW.trod enc Tryz.prog W 0 (fun _ => true) true n 27 [v0] = some y0 := h0
  obtain ⟨y1, h1⟩ := some_of_get (hx 1 _ rfl) (by omega)
  simp only [List.getElem_toArray, List.getElem_cons_zero, List.getElem_cons_succ] at h1
  rw [cells27] at h1
  have h1 : DataW.trod enc Tryz.prog W 0 (fun _ => true) true n 27 [v1] = some y1 := h1
  obtain ⟨y2, h2⟩ := some_of_get (hx 2 _ rfl) (by omega)
  simp only [List.getElem_toArray, List.getElem_cons_zero, List.getElem_cons_succ] at h2
  rw [cells4] at h2
  have h2 : DataW.trod enc Tryz.prog W 0 (fun _ => true) true n 4 [v2] = some y2 := h2
  obtain ⟨y3, h3⟩ := some_of_get (hx 3 _ rfl) (by omega)
  simp only [List.getElem_toArray, List.getElem_cons_zero, List.getElem_cons_succ] at h3
  rw [cells4] at h3
  have h3 : DataW.trod enc Tryz.prog W 0 (fun _ => true) true n 4 [v3] = some y3 := h3
  obtain ⟨y4, h4⟩ := some_of_get (hx 4 _ rfl) (by omega)
  simp only [List.getElem_toArray, List.getElem_cons_zero, List.getElem_cons_succ] at h4
  rw [cells2] at h4
  have h4 : DataW.trod enc Tryz.prog W 0 (fun _ => true) true n 2 [v4] = some y4 := h4
  obtain ⟨k0, e0, _, b0⟩ := DataW.trod_int Tryz.underlying27 h0
  cases e0
  obtain ⟨k1, e1, _, b1⟩ := DataW.trod_int Tryz.underlying27 h1
  cases e1
  obtain ⟨k2, e2, _⟩ := DataW.trod_bool Tryz.underlying4 h2
  cases e2
  obtain ⟨k3, e3, _⟩ := DataW.trod_bool Tryz.underlying4 h3
  cases e3
  obtain ⟨k4, e4, _, b4⟩ := DataW.trod_int Tryz.underlying2 h4
  cases e4
  have b := bounds_i64 b4
  exact ⟨k0, k1, k2, k3, k4, rfl, b.1, by have := b.2; omega⟩
theorem in_of {fuel : Nat} {cs : List Value} {x : DataW H × List MemPlace} (hf : DataW.trod enc Tryz.prog W 0 (fun _ => true) true fuel 32 cs = some x) : ∃ q : In, cs = inCells q ∧ Fit q := by
  obtain ⟨xs, n, hfu, _, hcl, hlen, hx⟩ := DataW.trod_struct Tryz.underlying32 hf
  rw [cells32] at hcl
  obtain ⟨v0, v1, v2, v3, v4, v5, v6, v7, v8, v9, v10, v11, v12, rfl⟩ := thirteen_of hcl
  have hlen : xs.length = 9 := hlen
  obtain ⟨y0, h0⟩ := some_of_get (hx 0 _ rfl) (by omega)
  simp only [List.getElem_toArray, List.getElem_cons_zero, List.getElem_cons_succ] at h0
  rw [cells23] at h0
  have h0 : DataW.trod enc Tryz.prog W 0 (fun _ => true) true n 23 [v0] = some y0 := h0
  obtain ⟨y1, h1⟩ := some_of_get (hx 1 _ rfl) (by omega)
  simp only [List.getElem_toArray, List.getElem_cons_zero, List.getElem_cons_succ] at h1
  rw [cells24] at h1
  have h1 : DataW.trod enc Tryz.prog W 0 (fun _ => true) true n 24 [v1] = some y1 := h1
  obtain ⟨y2, h2⟩ := some_of_get (hx 2 _ rfl) (by omega)
  simp only [List.getElem_toArray, List.getElem_cons_zero, List.getElem_cons_succ] at h2
  rw [cells25] at h2
  have h2 : DataW.trod enc Tryz.prog W 0 (fun _ => true) true n 25 [v2] = some y2 := h2
  obtain ⟨y3, h3⟩ := some_of_get (hx 3 _ rfl) (by omega)
  simp only [List.getElem_toArray, List.getElem_cons_zero, List.getElem_cons_succ] at h3
  rw [cells26] at h3
  have h3 : DataW.trod enc Tryz.prog W 0 (fun _ => true) true n 26 [v3] = some y3 := h3
  obtain ⟨y4, h4⟩ := some_of_get (hx 4 _ rfl) (by omega)
  simp only [List.getElem_toArray, List.getElem_cons_zero, List.getElem_cons_succ] at h4
  rw [cells27] at h4
  have h4 : DataW.trod enc Tryz.prog W 0 (fun _ => true) true n 27 [v4] = some y4 := h4
  obtain ⟨y5, h5⟩ := some_of_get (hx 5 _ rfl) (by omega)
  simp only [List.getElem_toArray, List.getElem_cons_zero, List.getElem_cons_succ] at h5
  rw [cells27] at h5
  have h5 : DataW.trod enc Tryz.prog W 0 (fun _ => true) true n 27 [v5] = some y5 := h5
  obtain ⟨y6, h6⟩ := some_of_get (hx 6 _ rfl) (by omega)
  simp only [List.getElem_toArray, List.getElem_cons_zero, List.getElem_cons_succ] at h6
  rw [cells28] at h6
  have h6 : DataW.trod enc Tryz.prog W 0 (fun _ => true) true n 28 [v6] = some y6 := h6
  obtain ⟨y7, h7⟩ := some_of_get (hx 7 _ rfl) (by omega)
  simp only [List.getElem_toArray, List.getElem_cons_zero, List.getElem_cons_succ] at h7
  rw [cells30] at h7
  have h7 : DataW.trod enc Tryz.prog W 0 (fun _ => true) true n 30 [v7, v8, v9, v10, v11] = some y7 := h7
  obtain ⟨y8, h8⟩ := some_of_get (hx 8 _ rfl) (by omega)
  simp only [List.getElem_toArray, List.getElem_cons_zero, List.getElem_cons_succ] at h8
  rw [cells3] at h8
  have h8 : DataW.trod enc Tryz.prog W 0 (fun _ => true) true n 3 [v12] = some y8 := h8
  obtain ⟨k0, e0, _, b0⟩ := DataW.trod_int Tryz.underlying23 h0
  cases e0
  obtain ⟨k1, e1, _, b1⟩ := DataW.trod_int Tryz.underlying24 h1
  cases e1
  obtain ⟨k2, e2, _, b2⟩ := DataW.trod_int Tryz.underlying25 h2
  cases e2
  obtain ⟨k3, e3, _, b3⟩ := DataW.trod_int Tryz.underlying26 h3
  cases e3
  obtain ⟨k4, e4, _, b4⟩ := DataW.trod_int Tryz.underlying27 h4
  cases e4
  obtain ⟨k5, e5, _, b5⟩ := DataW.trod_int Tryz.underlying27 h5
  cases e5
  obtain ⟨k6, e6, _, b6⟩ := DataW.trod_int Tryz.underlying28 h6
  cases e6
  obtain ⟨ba, ix, hb, hi, dp, ea, d0, d1⟩ := addr_of h7
  cases ea
  obtain ⟨k8, e8, _, b8⟩ := DataW.trod_int Tryz.underlying3 h8
  cases e8
  obtain ⟨u, rfl⟩ := Int.eq_ofNat_of_zero_le (bounds_u64 b6).1
  have b6 := (bounds_u64 b6).2
  exact ⟨⟨k0, k1, k2, k3, k4, k5, u, ba, ix, hb, hi, dp, k8⟩, rfl, by dsimp only; omega, d0, d1⟩
theorem open_rows {α : Type} (d : α) {t e : TypeId} {k : Nat} (cells : α → List Value) (Q : α → Prop) (ht : Tryz.prog.underlying t = some (.slice e)) (hk : Tryz.prog.cellsOf e = k) (hlen : ∀ x, (cells x).length = k) (hk0 : 0 < k) {fuel : Nat} {a0 : Option Addr} {n cap : Nat} {x : DataW H × List MemPlace}
    (hf : DataW.trod enc Tryz.prog W 0 (fun _ => true) true fuel t [.slice a0 n cap] = some x)
    (el : ∀ (m : Nat) (cs : List Value) (y : DataW H × List MemPlace), m < fuel → DataW.trod enc Tryz.prog W 0 (fun _ => true) true m e cs = some y → ∃ q : α, cs = cells q ∧ Q q) :
    ∃ L : List α, L.length = n ∧ CellsAt k cells W L a0 ∧ ∀ q ∈ L, Q q := by
  rcases DataW.trod_slice ht hf with ⟨hcs, hx⟩ | ⟨a, len', cap', elems, rest, nn, hfu, hcs, _, hb, hl, hm, hlen', hi, _, _⟩
  · cases hcs
    exact ⟨[], rfl, CellsAt.nil _, fun q h => by simp at h⟩
  · cases hcs
    rw [hk] at hi
    have key : ∀ i, ∃ q : α, i < n → (∀ j v, (cells q)[j]? = some v → W.cell? ((a.add (i * k)).add j) = some v) ∧ Q q := by
      intro i
      by_cases hin : i < n
      · have h1 := hi i hin
        rw [List.getElem?_eq_getElem (by omega)] at h1
        obtain ⟨cs', hc, ht'⟩ := Option.bind_eq_some_iff.1 h1
        obtain ⟨q, rfl, hq⟩ := el nn cs' _ (by omega) ht'
        obtain ⟨_, hcl, hat⟩ := World.cells?_some hc
        exact ⟨q, fun _ => ⟨fun j v hj => (hat j (by have := (List.getElem?_eq_some_iff.1 hj).1; rw [hlen] at this; exact this)).trans hj, hq⟩⟩
      · exact ⟨d, fun h => absurd h hin⟩
    obtain ⟨g, hg⟩ := Classical.axiomOfChoice key
    have get : ∀ i q, ((List.range n).map g)[i]? = some q → i < n ∧ q = g i := fun i q hq => by
      rw [List.getElem?_map] at hq
      obtain ⟨i', hi', rfl⟩ := Option.map_eq_some_iff.1 hq
      have hlt' : i < n := by have := (List.getElem?_eq_some_iff.1 hi').1; simpa using this
      rw [List.getElem?_range hlt'] at hi'
      cases hi'
      exact ⟨hlt', rfl⟩
    refine ⟨(List.range n).map g, by simp, ?_, fun q hq => ?_⟩
    · by_cases hn' : 0 < n
      · obtain ⟨ab, ao, spot⟩ := a
        have h0 := (hg 0 hn').1 0 _ (List.getElem?_eq_getElem (by rw [hlen]; omega))
        have hspot : spot = none := by simpa [Addr.add] using World.cell?_spot h0
        subst hspot
        refine ⟨ab, ao, fun _ => rfl, fun i q hq j hj => ?_⟩
        obtain ⟨hlt', rfl⟩ := get i q hq
        have h1 := (hg i hlt').1 j _ (List.getElem?_eq_getElem (by rw [hlen]; exact hj))
        rw [Lib.add_plain, Lib.add_plain] at h1
        rw [List.getElem?_eq_getElem (by rw [hlen]; exact hj)]
        exact h1
      · obtain rfl : n = 0 := by omega
        exact CellsAt.nil _
    · obtain ⟨i, hi'⟩ := List.getElem?_of_mem hq
      obtain ⟨hlt', rfl⟩ := get i q hi'
      exact (hg i hlt').2
theorem open_ins {a0 : Option Addr} {n cap : Nat} {d : DataW H} {p : List MemPlace} (hk : DataW.Trod enc Tryz.prog W 0 (fun _ => true) true 42 (.slice a0 n cap) d p) : ∃ L : List In, L.length = n ∧ InsAt W L a0 ∧ ∀ q ∈ L, Fit q := by
  obtain ⟨fuel, hf⟩ := hk
  exact open_rows (inZ 0) inCells Fit Tryz.underlying42 cells32 inCells_len (by omega) (by simpa [Value.cells] using hf) fun m cs y _ h => in_of h
set_option maxRecDepth 100000 in
theorem open_in {r : Reach} {b0 : Nat} {v : Value} {d : DataW H} {p : List MemPlace} (hv : Value.okWide Tryz.prog W r b0 32 v) (hk : DataW.Trod enc Tryz.prog W 0 (fun _ => true) true 32 v d p) : ∃ i : In, v = inV i ∧ Fit i := by
  obtain ⟨fuel, hf⟩ := hk
  obtain ⟨fs, hfs⟩ : ∃ fs, Tryz.prog.underlying 32 = some (.struct fs) := ⟨_, Tryz.underlying32⟩
  obtain ⟨cs, rfl, hsz⟩ := okWide_struct hfs hv
  obtain ⟨q, hc, hq⟩ := in_of hf
  refine ⟨q, ?_, hq⟩
  have hc : cs.toList = inCells q := by simpa [Value.cells] using hc
  unfold inV inC
  congr 1
  apply Array.toList_inj.1
  rw [hc]; rfl
set_option maxRecDepth 100000 in
theorem open_addr {r : Reach} {b0 : Nat} {v : Value} {d : DataW H} {p : List MemPlace} (hv : Value.okWide Tryz.prog W r b0 30 v) (hk : DataW.Trod enc Tryz.prog W 0 (fun _ => true) true 30 v d p) : ∃ (ba ix : Int) (hb hi : Bool) (dp : Int), v = adV ba ix hb hi dp ∧ -9223372036854775808 ≤ dp ∧ dp ≤ 9223372036854775807 := by
  obtain ⟨fuel, hf⟩ := hk
  obtain ⟨fs, hfs⟩ : ∃ fs, Tryz.prog.underlying 30 = some (.struct fs) := ⟨_, Tryz.underlying30⟩
  obtain ⟨cs, rfl, hsz⟩ := okWide_struct hfs hv
  obtain ⟨ba, ix, hb, hi, dp, hc, h0, h1⟩ := addr_of hf
  refine ⟨ba, ix, hb, hi, dp, ?_, h0, h1⟩
  have hc : cs.toList = [.int .i64 ba, .int .i64 ix, .bool hb, .bool hi, .int .i64 dp] := by simpa [Value.cells] using hc
  unfold adV
  congr 1
  apply Array.toList_inj.1
  rw [hc]
end
end Go.Proofs.YtmimmnjdgpdjlaaGreatDoor
