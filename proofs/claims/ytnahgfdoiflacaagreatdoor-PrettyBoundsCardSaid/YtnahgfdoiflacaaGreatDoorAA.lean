/- Expressions that came in. -/
import Derived.Test.YtnahgfdoiflacaaGreatDoorM
import Derived.ProofKit
import Derived.OpenShut
import Derived.Deep.DeepHandedRow
import Derived.ChangeSlices
import Derived.Deep.Slices
set_option linter.unusedSimpArgs false
set_option linter.unusedVariables false
namespace Go.Proofs.YtnahgfdoiflacaaGreatDoor
open Go.ChangeShapes Go.WideShapes Go.ChangeAt Go.RowKit Go.Deep

theorem cells26 : Tryz.prog.cellsOf 26 = 4 := by kernel_rfl
theorem cells22 : Tryz.prog.cellsOf 22 = 1 := by kernel_rfl
theorem cells23 : Tryz.prog.cellsOf 23 = 1 := by kernel_rfl
theorem cells9 : Tryz.prog.cellsOf 9 = 1 := by kernel_rfl
theorem cells24 : Tryz.prog.cellsOf 24 = 1 := by kernel_rfl
theorem some_of_get {α : Type} {x : Option α} {xs : List α} {i : Nat} (h : x = xs[i]?) (hi : i < xs.length) : ∃ y, x = some y := ⟨xs[i], h.trans (List.getElem?_eq_getElem hi)⟩
theorem four_of {cs : List Value} (h : cs.length = 4) : ∃ a b c d, cs = [a, b, c, d] := by
  match cs, h with
  | [a, b, c, d], _ => exact ⟨a, b, c, d, rfl⟩
section
variable {H : Type} {enc : TypeId × Value → H} {W : World}
theorem slice_val {t e : TypeId} {fuel : Nat} {v : Value} {x : DataW H × List MemPlace} (ht : Tryz.prog.underlying t = some (.slice e)) (h : DataW.trod enc Tryz.prog W 0 (fun _ => true) true fuel t [v] = some x) : ∃ A n c, v = .slice A n c := by
  rcases DataW.trod_slice ht h with ⟨hcs, _⟩ | ⟨a, len, cap, _, _, _, _, hcs, _⟩
  · cases hcs; exact ⟨_, _, _, rfl⟩
  · cases hcs; exact ⟨_, _, _, rfl⟩
theorem ex_of {fuel : Nat} {cs : List Value} {x : DataW H × List MemPlace} (hf : DataW.trod enc Tryz.prog W 0 (fun _ => true) true fuel 26 cs = some x) :
    ∃ (op : Int) (u : Nat) (nm : ByteArray) (B : Option Addr) (k C m : Nat) (y : DataW H × List MemPlace), fuel = m + 1 ∧ cs = [.int .i64 op, .int .u64 u, .string nm, .slice B k C] ∧ u < 18446744073709551616 ∧ DataW.trod enc Tryz.prog W 0 (fun _ => true) true m 24 [.slice B k C] = some y := by
  obtain ⟨xs, n, hfu, _, hcl, hlen, hx⟩ := DataW.trod_struct Tryz.underlying26 hf
  rw [cells26] at hcl
  obtain ⟨v0, v1, v2, v3, rfl⟩ := four_of hcl
  have hlen : xs.length = 4 := hlen
  obtain ⟨y0, h0⟩ := some_of_get (hx 0 _ rfl) (by omega)
  obtain ⟨y1, h1⟩ := some_of_get (hx 1 _ rfl) (by omega)
  obtain ⟨y2, h2⟩ := some_of_get (hx 2 _ rfl) (by omega)
  obtain ⟨y3, h3⟩ := some_of_get (hx 3 _ rfl) (by omega)
  simp only [List.getElem_toArray, List.getElem_cons_zero, List.getElem_cons_succ] at h0 h1 h2 h3
  rw [cells22] at h0
  rw [cells23] at h1
  rw [cells9] at h2
  rw [cells24] at h3
  obtain ⟨k, e0, _, _⟩ := DataW.trod_int Tryz.underlying22 (show DataW.trod enc Tryz.prog W 0 (fun _ => true) true n 22 [v0] = some y0 from h0)
  obtain ⟨u, e1, _, k1⟩ := DataW.trod_int Tryz.underlying23 (show DataW.trod enc Tryz.prog W 0 (fun _ => true) true n 23 [v1] = some y1 from h1)
  obtain ⟨s, e2, _, _⟩ := DataW.trod_string Tryz.underlying9 (show DataW.trod enc Tryz.prog W 0 (fun _ => true) true n 9 [v2] = some y2 from h2)
  have h3 : DataW.trod enc Tryz.prog W 0 (fun _ => true) true n 24 [v3] = some y3 := h3
  obtain ⟨B, kk, C, rfl⟩ := slice_val Tryz.underlying24 h3
  cases e0
  cases e1
  cases e2
  obtain ⟨u', rfl⟩ := Int.eq_ofNat_of_zero_le (bounds_u64 k1).1
  have := (bounds_u64 k1).2
  exact ⟨k, u', s, B, kk, C, n, y3, hfu, rfl, by omega, h3⟩
theorem open_exs_fuel : ∀ (fuel : Nat) {a0 : Option Addr} {n cap : Nat} {x : DataW H × List MemPlace}, DataW.trod enc Tryz.prog W 0 (fun _ => true) true fuel 24 [.slice a0 n cap] = some x → ∃ L : List Ex, L.length = n ∧ ExsAt W L a0 := by
  intro fuel
  induction fuel using Nat.strongRecOn with
  | _ fuel ih =>
    intro a0 n cap x hf
    rcases DataW.trod_slice Tryz.underlying24 hf with ⟨hcs, hx⟩ | ⟨a, len', cap', elems, rest, nn, hfu, hcs, _, hb, hl, hm, hlen, hi, _, _⟩
    · cases hcs
      exact ⟨[], rfl, (ExAt.mk (op := 0) (u := 0) (nm := ⟨#[]⟩) 0 0 (fun _ => none) (fun _ => 0) (fun h => absurd h (by simp)) (fun i x hx => by simp at hx) (fun i x hx => by simp at hx) (fun i x hx => by simp at hx)).args⟩
    · cases hcs
      rw [cells26] at hi
      have key : ∀ i, ∃ q : Ex × Option Addr × Nat, i < n → (∀ j v, ([.int .i64 q.1.op, .int .u64 q.1.u, .string q.1.nm, .slice q.2.1 q.1.ars.length q.2.2] : List Value)[j]? = some v → W.cell? ((a.add (i * 4)).add j) = some v) ∧ q.1.u < 18446744073709551616 ∧ ExsAt W q.1.ars q.2.1 := by
        intro i
        by_cases hin : i < n
        · have h1 := hi i hin
          rw [List.getElem?_eq_getElem (by omega)] at h1
          obtain ⟨cs', hc, ht⟩ := Option.bind_eq_some_iff.1 h1
          obtain ⟨op, u, nm, B, k, C, m, y, hm1, rfl, hu, h24⟩ := ex_of ht
          obtain ⟨L, hL, hW⟩ := ih m (by omega) h24
          obtain ⟨_, hcl, hat⟩ := World.cells?_some hc
          subst hL
          exact ⟨⟨.node op u nm L, B, C⟩, fun _ => ⟨fun j v hj => (hat j (by have := (List.getElem?_eq_some_iff.1 hj).1; simpa using this)).trans hj, hu, hW⟩⟩
        · exact ⟨⟨.node 0 0 ⟨#[]⟩ [], none, 0⟩, fun h => absurd h hin⟩
      obtain ⟨g, hg⟩ := Classical.axiomOfChoice key
      refine ⟨(List.range n).map fun i => (g i).1, by simp, ?_⟩
      by_cases hn' : 0 < n
      · obtain ⟨ab, ao, spot⟩ := a
        have h0 := (hg 0 hn').1 0 _ rfl
        have hspot : spot = none := by simpa [Addr.add] using World.cell?_spot h0
        subst hspot
        have get : ∀ i q, ((List.range n).map fun i => (g i).1)[i]? = some q → i < n ∧ q = (g i).1 := fun i q hq => by
          rw [List.getElem?_map] at hq
          obtain ⟨i', hi', rfl⟩ := Option.map_eq_some_iff.1 hq
          have hlt' : i < n := by have := (List.getElem?_eq_some_iff.1 hi').1; simpa using this
          rw [List.getElem?_range hlt'] at hi'
          cases hi'
          exact ⟨hlt', rfl⟩
        refine ⟨ab, ao, fun i => (g i).2.1, fun i => (g i).2.2, fun _ => rfl, fun i q hq => ?_, fun i q hq => ?_, fun i q hq => ?_⟩
        · obtain ⟨hlt', rfl⟩ := get i q hq
          have h1 := fun j v (hj : ([.int .i64 (g i).1.op, .int .u64 (g i).1.u, .string (g i).1.nm, .slice (g i).2.1 (g i).1.ars.length (g i).2.2] : List Value)[j]? = some v) => (hg i hlt').1 j v hj
          have h1 : ∀ j v, ([.int .i64 (g i).1.op, .int .u64 (g i).1.u, .string (g i).1.nm, .slice (g i).2.1 (g i).1.ars.length (g i).2.2] : List Value)[j]? = some v → W.cell? ⟨ab, ao + i * 4 + j, none⟩ = some v := fun j v hj => by
            have := h1 j v hj
            rwa [Lib.add_plain, Lib.add_plain] at this
          exact ⟨h1 0 _ rfl, h1 1 _ rfl, h1 2 _ rfl, h1 3 _ rfl⟩
        · obtain ⟨hlt', rfl⟩ := get i q hq
          exact (hg i hlt').2.1
        · obtain ⟨hlt', rfl⟩ := get i q hq
          exact ((hg i hlt').2.2).mk_
      · have hz : n = 0 := by omega
        subst hz
        exact (ExAt.mk (op := 0) (u := 0) (nm := ⟨#[]⟩) 0 0 (fun _ => none) (fun _ => 0) (fun h => absurd h (by simp)) (fun i x hx => by simp at hx) (fun i x hx => by simp at hx) (fun i x hx => by simp at hx)).args
set_option maxRecDepth 100000 in
theorem open_ex {r : Reach} {b0 : Nat} {v : Value} {d : DataW H} {p : List MemPlace} (hv : Value.okWide Tryz.prog W r b0 26 v) (hk : DataW.Trod enc Tryz.prog W 0 (fun _ => true) true 26 v d p) :
    ∃ e A c, v = exV e A c ∧ ExAt W e A ∧ e.u < 18446744073709551616 := by
  obtain ⟨fuel, hf⟩ := hk
  obtain ⟨fs, hfs⟩ : ∃ fs, Tryz.prog.underlying 26 = some (.struct fs) := ⟨_, Tryz.underlying26⟩
  obtain ⟨cs, rfl, hsz⟩ := okWide_struct hfs hv
  obtain ⟨op, u, nm, B, k, C, m, y, hm1, hc, hu, h24⟩ := ex_of hf
  obtain ⟨L, hL, hW⟩ := open_exs_fuel m h24
  subst hL
  refine ⟨.node op u nm L, B, C, ?_, ExsAt.mk_ (e := .node op u nm L) hW, hu⟩
  have hc : cs.toList = [.int .i64 op, .int .u64 u, .string nm, .slice B L.length C] := by simpa [Value.cells] using hc
  unfold exV
  congr 1
  apply Array.toList_inj.1
  rw [hc]; rfl
end
end Go.Proofs.YtnahgfdoiflacaaGreatDoor
