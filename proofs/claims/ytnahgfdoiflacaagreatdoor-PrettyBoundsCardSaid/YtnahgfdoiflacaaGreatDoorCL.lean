/- Programs that came in: their sizes. -/
import Derived.Test.YtnahgfdoiflacaaGreatDoorCE
set_option linter.unusedSimpArgs false
set_option linter.unusedVariables false
namespace Go.Proofs.YtnahgfdoiflacaaGreatDoor
open Go.ChangeShapes Go.WideShapes Go.ChangeAt Go.RowKit Go.Deep

theorem bytes82_pos : 1 ≤ Tryz.prog.bytesOf 82 := of_decide_eq_true (by kernel_rfl)
theorem bytes54_pos : 1 ≤ Tryz.prog.bytesOf 54 := of_decide_eq_true (by kernel_rfl)
theorem reach_le : reachBytes ≤ 1000000000000000 := of_decide_eq_true (by kernel_rfl)
section
variable {H : Type} {enc : TypeId × Value → H} {W : World}
theorem slice_len {t e : TypeId} {fuel : Nat} {A : Option Addr} {n cap : Nat} {x : DataW H × List MemPlace} (ht : Tryz.prog.underlying t = some (.slice e)) (hb : 1 ≤ Tryz.prog.bytesOf e) (hf : DataW.trod enc Tryz.prog W 0 (fun _ => true) true fuel t [.slice A n cap] = some x)
    (hs : ∀ k ∈ x.1.weights Tryz.prog t, k ≤ reachBytes) : n ≤ 1000000000000000 := by
  rcases DataW.trod_slice ht hf with ⟨hcs, hx⟩ | ⟨a, len', cap', elems, rest, nn, hfu, hcs, hx, _, hl, hm, hlen', hi, _, _⟩
  · cases hcs
    omega
  · cases hcs
    subst hx
    simp only [DataW.weights, ht] at hs
    have h1 := hs _ (List.mem_cons_self)
    rw [List.length_map, List.length_map] at h1
    have h2 : (elems.length + rest.length) * 1 ≤ (elems.length + rest.length) * Tryz.prog.bytesOf e := Nat.mul_le_mul_left _ hb
    have := reach_le
    omega
theorem sized_field {ts : List TypeId} {ds : List (DataW H)} {j : Nat} {t : TypeId} {d : DataW H} (ht : ts[j]? = some t) (hd : ds[j]? = some d) (h : ∀ k ∈ DataW.weightsEach Tryz.prog ts ds, k ≤ reachBytes) : ∀ k ∈ d.weights Tryz.prog t, k ≤ reachBytes := fun k hk => h k (DataW.weights_mem_each ht hd k hk)
theorem fst_at {xs : List (DataW H × List MemPlace)} {i : Nat} {y : DataW H × List MemPlace} (h : xs[i]? = some y) : (xs.map (·.1))[i]? = some y.1 := by rw [List.getElem?_map, h]; rfl
/-- a program's regions and functions are not many -/
theorem prog_sz {g : Pg} {A B : Option Addr} {c e : Nat} {d : DataW H} {p : List MemPlace} (hk : DataW.Trod enc Tryz.prog W 0 (fun _ => true) true 39 (pgV g A c B e) d p) (hs : ∀ k ∈ d.weights Tryz.prog 39, k ≤ reachBytes) : g.rs.length ≤ 1000000000000000 ∧ g.fs.length ≤ 1000000000000000 := by
  obtain ⟨fuel, hf⟩ := hk
  have hf : DataW.trod enc Tryz.prog W 0 (fun _ => true) true fuel 39 [.slice A g.rs.length c, .slice B g.fs.length e] = some (d, p) := by simpa [Value.cells, pgV] using hf
  obtain ⟨xs, n, _, hx0, hcl, hlen, hx⟩ := DataW.trod_struct Tryz.underlying39 hf
  have hlen : xs.length = 2 := hlen
  simp only [Prod.mk.injEq] at hx0
  obtain ⟨rfl, _⟩ := hx0
  obtain ⟨y0, g0⟩ : ∃ y, xs[0]? = some y := ⟨_, List.getElem?_eq_getElem (by omega)⟩
  obtain ⟨y1, g1⟩ : ∃ y, xs[1]? = some y := ⟨_, List.getElem?_eq_getElem (by omega)⟩
  have q0 := (hx 0 _ rfl).trans g0
  have q1 := (hx 1 _ rfl).trans g1
  simp only [List.getElem_toArray, List.getElem_cons_zero, List.getElem_cons_succ] at q0 q1
  rw [cells36] at q0
  rw [cells37] at q1
  simp only [DataW.weights, Tryz.underlying39] at hs
  exact ⟨slice_len Tryz.underlying36 bytes82_pos (show DataW.trod enc Tryz.prog W 0 (fun _ => true) true n 36 [.slice A g.rs.length c] = some y0 from q0) (sized_field (j := 0) rfl (fst_at g0) hs),
    slice_len Tryz.underlying37 bytes54_pos (show DataW.trod enc Tryz.prog W 0 (fun _ => true) true n 37 [.slice B g.fs.length e] = some y1 from q1) (sized_field (j := 1) rfl (fst_at g1) hs)⟩
end
end Go.Proofs.YtnahgfdoiflacaaGreatDoor
