/- What came in is not too large. -/
import Derived.Test.YtkbmckmlnphpmaaGreatDoorBA
import Derived.SizedLaws
set_option linter.unusedSimpArgs false
set_option linter.unusedVariables false
namespace Go.Proofs.YtkbmckmlnphpmaaGreatDoor
open Go.ChangeShapes Go.WideShapes Go.ChangeAt Go.RowKit Go.Deep

/-- an asking's parts have at most 2^44 things -/
def AskLe (a : Ask) : Prop := a.args.length ≤ 17592186044416 ∧ a.regs.length ≤ 17592186044416 ∧ ∀ ws ∈ a.regs, ws.length ≤ 17592186044416
theorem reach_eq : reachBytes = 140737488351232 := rfl
theorem bytes40 : Tryz.prog.bytesOf 40 = 8 := by kernel_rfl
theorem bytes22 : Tryz.prog.bytesOf 22 = 24 := by kernel_rfl
theorem bytes42 : Tryz.prog.bytesOf 42 = 72 := by kernel_rfl
section
variable {H : Type} {enc : TypeId × Value → H} {W : World}
theorem mem_all {e : TypeId} : ∀ {ds : List (DataW H)} {d : DataW H}, d ∈ ds → ∀ k ∈ d.weights Tryz.prog e, k ∈ DataW.weightsAll Tryz.prog e ds
  | d0 :: ds, d, h, k, hk => by
    simp only [DataW.weightsAll, List.mem_append]
    rcases List.mem_cons.1 h with rfl | h
    · exact .inl hk
    · exact .inr (mem_all h k hk)
/-- a slice's length -/
theorem slice_sz {t e : TypeId} {fuel : Nat} {A : Option Addr} {n cap : Nat} {x : DataW H × List MemPlace} (ht : Tryz.prog.underlying t = some (.slice e)) (hf : DataW.trod enc Tryz.prog W 0 (fun _ => true) true fuel t [.slice A n cap] = some x)
    (hs : ∀ k ∈ x.1.weights Tryz.prog t, k ≤ reachBytes) : n * Tryz.prog.bytesOf e ≤ reachBytes ∧
      ∀ i, i < n → ∃ (a : Addr) (cs' : List Value) (f' : Nat) (y : DataW H × List MemPlace), A = some a ∧ W.cells? 0 (a.add (i * Tryz.prog.cellsOf e)) (Tryz.prog.cellsOf e) = some cs' ∧ DataW.trod enc Tryz.prog W 0 (fun _ => true) true f' e cs' = some y ∧ ∀ k ∈ y.1.weights Tryz.prog e, k ≤ reachBytes := by
  rcases open_slice ht hf with ⟨hcs, hx⟩ | ⟨a, len', cap', m, nn, D, Pl, hcs, hb, hl, hm, hmm, hx, hi⟩
  · simp at hcs
    obtain ⟨rfl, rfl, rfl⟩ := hcs
    exact ⟨by omega, fun i h => absurd h (Nat.not_lt_zero _)⟩
  · simp at hcs
    obtain ⟨rfl, rfl, rfl⟩ := hcs
    simp only [if_true] at hmm
    subst hmm
    subst hx
    simp only [DataW.weights, ht] at hs
    refine ⟨?_, fun i hin => ?_⟩
    · have h1 := hs _ (List.mem_cons_self)
      rw [List.length_map, List.length_map, List.length_range, List.length_range] at h1
      refine Nat.le_trans (Nat.mul_le_mul_right _ ?_) h1
      omega
    · obtain ⟨cs', hc, htr⟩ := hi i (by omega)
      refine ⟨a, cs', nn, _, rfl, hc, htr, fun k hk => hs k (List.mem_cons_of_mem _ (List.mem_append_left _ (mem_all (List.mem_map.2 ⟨i, List.mem_range.2 hin, rfl⟩) k hk)))⟩
theorem words_sz {fuel : Nat} {A : Option Addr} {n cap : Nat} {x : DataW H × List MemPlace} (hf : DataW.trod enc Tryz.prog W 0 (fun _ => true) true fuel 22 [.slice A n cap] = some x) (hs : ∀ k ∈ x.1.weights Tryz.prog 22, k ≤ reachBytes) : n ≤ 17592186044416 := by
  have h := (slice_sz Tryz.underlying22 hf hs).1
  rw [bytes40, reach_eq] at h
  omega
theorem rows_sz {fuel : Nat} {A : Option Addr} {n cap : Nat} {x : DataW H × List MemPlace} {L : List (List Int)} (hf : DataW.trod enc Tryz.prog W 0 (fun _ => true) true fuel 37 [.slice A n cap] = some x) (hs : ∀ k ∈ x.1.weights Tryz.prog 37, k ≤ reachBytes) (hO : WsO W A L) (hL : L.length = n) :
    n ≤ 17592186044416 ∧ ∀ ws ∈ L, ws.length ≤ 17592186044416 := by
  obtain ⟨h, hi⟩ := slice_sz Tryz.underlying37 hf hs
  rw [bytes22, reach_eq] at h
  refine ⟨by omega, fun ws hws => ?_⟩
  obtain ⟨i, hget⟩ := List.getElem?_of_mem hws
  have hin : i < n := by rw [← hL]; exact (List.getElem?_eq_some_iff.1 hget).1
  obtain ⟨a, cs', f', y, hA, hc, htr, hsy⟩ := hi i hin
  obtain ⟨blk, off, e, hcell⟩ := hO (by omega)
  obtain ⟨A', c, h1, _, _⟩ := hcell i ws hget
  rw [hA] at e
  cases e
  rw [cells22] at hc
  obtain ⟨_, hcl, hat⟩ := World.cells?_some hc
  have h2 := hat 0 (by omega)
  rw [Lib.add_plain, Lib.add_plain, Nat.mul_one, Nat.add_zero, h1] at h2
  have hcs : cs' = [.slice A' ws.length c] := by
    match cs', hcl, h2 with
    | [v], _, h2 => cases h2; rfl
  subst hcs
  exact words_sz htr hsy
theorem sized_field {ts : List TypeId} {ds : List (DataW H)} {j : Nat} {t : TypeId} {d : DataW H} (ht : ts[j]? = some t) (hd : ds[j]? = some d) (h : ∀ k ∈ DataW.weightsEach Tryz.prog ts ds, k ≤ reachBytes) : ∀ k ∈ d.weights Tryz.prog t, k ≤ reachBytes := fun k hk => h k (DataW.weights_mem_each ht hd k hk)
theorem fst_at {xs : List (DataW H × List MemPlace)} {i : Nat} {y : DataW H × List MemPlace} (h : xs[i]? = some y) : (xs.map (·.1))[i]? = some y.1 := by rw [List.getElem?_map, h]; rfl
theorem ask_sz {fuel : Nat} {a : Ask} {A1 A2 : Option Addr} {c1 c2 : Nat} {x : DataW H × List MemPlace} (hf : DataW.trod enc Tryz.prog W 0 (fun _ => true) true fuel 42 (askCells a A1 c1 A2 c2) = some x) (hs : ∀ k ∈ x.1.weights Tryz.prog 42, k ≤ reachBytes) (hO : AskO W a A1 A2) : AskLe a := by
  obtain ⟨xs, n, _, hx0, hcl, hlen, hx⟩ := DataW.trod_struct Tryz.underlying42 hf
  have hlen : xs.length = 4 := hlen
  subst hx0
  obtain ⟨y1, g1⟩ : ∃ y, xs[1]? = some y := ⟨_, List.getElem?_eq_getElem (by omega)⟩
  have h1 := (hx 1 _ rfl).trans g1
  simp only [List.getElem_toArray, List.getElem_cons_zero, List.getElem_cons_succ] at h1
  rw [cells39] at h1
  have hs1 : ∀ k ∈ y1.1.weights Tryz.prog 39, k ≤ reachBytes := by
    simp only [DataW.weights, Tryz.underlying42] at hs
    exact sized_field (j := 1) rfl (fst_at g1) hs
  obtain ⟨zs, m, _, hz0, _, hzl, hz⟩ := DataW.trod_struct Tryz.underlying39 (show DataW.trod enc Tryz.prog W 0 (fun _ => true) true n 39 [.slice A1 a.args.length c1, .slice A2 a.regs.length c2] = some y1 from h1)
  have hzl : zs.length = 2 := hzl
  subst hz0
  obtain ⟨z0, k0⟩ : ∃ y, zs[0]? = some y := ⟨_, List.getElem?_eq_getElem (by omega)⟩
  obtain ⟨z1, k1⟩ : ∃ y, zs[1]? = some y := ⟨_, List.getElem?_eq_getElem (by omega)⟩
  have q0 := (hz 0 _ rfl).trans k0
  have q1 := (hz 1 _ rfl).trans k1
  simp only [List.getElem_toArray, List.getElem_cons_zero, List.getElem_cons_succ] at q0 q1
  rw [cells22] at q0
  rw [cells37] at q1
  simp only [DataW.weights, Tryz.underlying39] at hs1
  have r1 := words_sz (show DataW.trod enc Tryz.prog W 0 (fun _ => true) true m 22 [.slice A1 a.args.length c1] = some z0 from q0) (sized_field (j := 0) rfl (fst_at k0) hs1)
  have r2 := rows_sz (show DataW.trod enc Tryz.prog W 0 (fun _ => true) true m 37 [.slice A2 a.regs.length c2] = some z1 from q1) (sized_field (j := 1) rfl (fst_at k1) hs1) hO.regs rfl
  exact ⟨r1, r2⟩
theorem asks_sz {fuel : Nat} {A : Option Addr} {n cap : Nat} {x : DataW H × List MemPlace} {L : List Ask} (hf : DataW.trod enc Tryz.prog W 0 (fun _ => true) true fuel 48 [.slice A n cap] = some x) (hs : ∀ k ∈ x.1.weights Tryz.prog 48, k ≤ reachBytes) (hO : AsksO W A L) (hL : L.length = n) :
    n ≤ 17592186044416 ∧ ∀ a ∈ L, AskLe a := by
  obtain ⟨h, hi⟩ := slice_sz Tryz.underlying48 hf hs
  rw [bytes42, reach_eq] at h
  refine ⟨by omega, fun a ha => ?_⟩
  obtain ⟨i, hget⟩ := List.getElem?_of_mem ha
  have hin : i < n := by rw [← hL]; exact (List.getElem?_eq_some_iff.1 hget).1
  obtain ⟨p, cs', f', y, hA, hc, htr, hsy⟩ := hi i hin
  obtain ⟨blk, off, e, hcell⟩ := hO (by omega)
  obtain ⟨A1, c1, A2, c2, h1, h3⟩ := hcell i a hget
  rw [hA] at e
  cases e
  rw [cells42] at hc
  obtain ⟨_, hcl, hat⟩ := World.cells?_some hc
  have hcs : cs' = askCells a A1 c1 A2 c2 := by
    apply List.ext_getElem?
    intro j
    by_cases hj : j < 5
    · have h2 := hat j hj
      rw [Lib.add_plain, Lib.add_plain] at h2
      obtain ⟨v, hv⟩ : ∃ v, (askCells a A1 c1 A2 c2)[j]? = some v := ⟨_, List.getElem?_eq_getElem (by simpa [askCells] using hj)⟩
      rw [h1 j v hv] at h2
      rw [hv, ← h2]
    · rw [List.getElem?_eq_none (by omega), List.getElem?_eq_none (by simp [askCells]; omega)]
  subst hcs
  exact ask_sz htr hsy h3
end
end Go.Proofs.YtkbmckmlnphpmaaGreatDoor
