/- What lists of lists of words, and steps, that came in give. -/
import Derived.Test.YtageahpgcjnkpaaO
import Derived.Test.YtageahpgcjnkpaaY
import Derived.Deep.Matrix
set_option linter.unusedSimpArgs false
set_option linter.unusedVariables false
namespace Go.Proofs.Ytageahpgcjnkpaa
open Go.ChangeShapes Go.WideShapes Go.ChangeAt Go.RowKit Go.Deep

structure RowsIn (w : World) (A : Option Addr) (n cap : Nat) (W : List (List Int)) : Prop where
  hl : W.length = n
  hw : WsAt w A W
  hc : n ≤ cap
  hcm : cap ≤ 9223372036854775807
structure StepsIn (w : World) (A : Option Addr) (n cap : Nat) (S : List Stp) : Prop where
  hs : StepsAt w A n S
  hc : n ≤ cap
  hcm : cap ≤ 9223372036854775807
theorem RowsIn.below {w w' : World} {A : Option Addr} {n cap : Nat} {W : List (List Int)} (h : RowsIn w A n cap W) (hb : Below w.heap.size w w') : RowsIn w' A n cap W := ⟨h.hl, h.hw.below hb, h.hc, h.hcm⟩
theorem StepsIn.below {w w' : World} {A : Option Addr} {n cap : Nat} {W : List Stp} (h : StepsIn w A n cap W) (hb : Below w.heap.size w w') : StepsIn w' A n cap W := ⟨h.hs.below hb, h.hc, h.hcm⟩

theorem u48 : Try.prog.underlying 48 = some (.slice 80) := by kernel_rfl
theorem u80 : Try.prog.underlying 80 = some (.slice 30) := by kernel_rfl
theorem u30 : Try.prog.underlying 30 = some (.int .u64) := by kernel_rfl
theorem u55 : Try.prog.underlying 55 = some (.slice 97) := by kernel_rfl
theorem cells80 : Try.prog.cellsOf 80 = 1 := by kernel_rfl
theorem cells30 : Try.prog.cellsOf 30 = 1 := by kernel_rfl
theorem cells97 : Try.prog.cellsOf 97 = 3 := by kernel_rfl

theorem open_rows {H : Type} {enc : TypeId × Value → H} {W : World} {a0 : Option Addr} {n cap : Nat} {d : DataW H} {p : List MemPlace}
    (hk : DataW.Trod enc Try.prog W 0 (fun _ => true) true 48 (.slice a0 n cap) d p) (hlt : ∀ x ∈ p, x.block < W.heap.size) : ∃ L, RowsIn W a0 n cap L := by
  obtain ⟨fuel, hf⟩ := hk
  rcases open_int_rows u48 u80 u30 cells80 cells30 hf with ⟨hcs, hx⟩ | ⟨a, len', cap', A, Ln, C, Z, hcs, hb, hl, hm, hx, hr⟩
  · simp [Value.cells] at hcs
    obtain ⟨rfl, rfl, rfl⟩ := hcs
    exact ⟨[], rfl, fun h => absurd h (by simp), Nat.le_refl _, by omega⟩
  · simp [Value.cells] at hcs
    obtain ⟨rfl, rfl, rfl⟩ := hcs
    refine ⟨(List.range n).map fun i => (Z i).take (Ln i), by simp, fun hn => ?_, hl, hm⟩
    have hn' : 0 < n := by simpa using hn
    obtain ⟨ab, ao, spot⟩ := a
    obtain ⟨hc0, _⟩ := hr 0 (by omega)
    have hspot : spot = none := by simpa [Addr.add] using World.cell?_spot hc0
    subst hspot
    refine ⟨ab, ao, rfl, fun i ws hws => ?_⟩
    rw [List.getElem?_map] at hws
    obtain ⟨i', hi', rfl⟩ := Option.map_eq_some_iff.1 hws
    have hlt' : i < n := by have := (List.getElem?_eq_some_iff.1 hi').1; simpa using this
    rw [List.getElem?_range hlt'] at hi'
    cases hi'
    obtain ⟨hc, hle, hcm, hzl, hwf, hnone, hcell⟩ := hr i (by omega)
    have hlen : ((Z i).take (Ln i)).length = Ln i := by rw [List.length_take, hzl]; omega
    rw [Addr.add_lit] at hc
    rw [hlen]
    refine ⟨A i, C i, hc, hle, hcm, fun x hx => ?_, fun hp => ?_⟩
    · exact bounds_u64 (hwf x (List.mem_of_mem_take hx))
    · rw [hlen] at hp
      cases hA : A i with
      | none => have := hnone hA; omega
      | some a' =>
        obtain ⟨bb, bo, bs⟩ := a'
        obtain ⟨_, hcl⟩ := hcell _ hA
        have h0 := hcl 0 (by omega)
        have hsp : bs = none := by simpa [Addr.add] using World.cell?_spot h0
        subst hsp
        refine ⟨bb, bo, rfl, fun j x hx => ?_⟩
        have hj : j < Ln i := by have := (List.getElem?_eq_some_iff.1 hx).1; omega
        have h1 := hcl j (by omega)
        rw [Addr.add_lit] at h1
        rw [List.getElem?_take, if_pos hj] at hx
        rw [List.getD_eq_getElem?_getD, hx] at h1
        exact h1

def stepFields (fs : Array Field) : Bool := fs.toList.map (fun f => (f.type, f.offset)) == [(3, 0), (30, 1), (30, 2)]
theorem und97 : ∃ fs, Try.prog.underlying 97 = some (.struct fs) ∧ stepFields fs = true := by
  have h : (match Try.prog.underlying 97 with | some (.struct fs) => stepFields fs | _ => false) = true := by kernel_rfl
  split at h
  · rename_i fs hfs
    exact ⟨fs, hfs, h⟩
  · cases h
theorem fields3 {fs : Array Field} (h : stepFields fs = true) : fs.size = 3 ∧ oneCellFields Try.prog fs = true ∧ (∃ f, fs[0]? = some f ∧ f.type = 3) ∧ (∃ f, fs[1]? = some f ∧ f.type = 30) ∧ (∃ f, fs[2]? = some f ∧ f.type = 30) := by
  obtain ⟨l⟩ := fs
  match l, h with
  | [], h => cases h
  | [a], h => simp [stepFields] at h
  | [a, b], h => simp [stepFields] at h
  | [a, b, c], h =>
    simp [stepFields] at h
    obtain ⟨⟨a1, a2⟩, ⟨b1, b2⟩, c1, c2⟩ := h
    refine ⟨rfl, ?_, ⟨a, rfl, a1⟩, ⟨b, rfl, b1⟩, ⟨c, rfl, c1⟩⟩
    unfold oneCellFields
    simp [List.range, List.range.loop, a1, a2, b1, b2, c1, c2, cells3, cells30]
  | a :: b :: c :: d :: l, h => simp [stepFields] at h

theorem open_steps {H : Type} {enc : TypeId × Value → H} {W : World} {a0 : Option Addr} {n cap : Nat} {d : DataW H} {p : List MemPlace}
    (hk : DataW.Trod enc Try.prog W 0 (fun _ => true) true 55 (.slice a0 n cap) d p) (hlt : ∀ x ∈ p, x.block < W.heap.size) : ∃ L, StepsIn W a0 n cap L := by
  obtain ⟨fuel, hf⟩ := hk
  obtain ⟨fs, hfs, hfb⟩ := und97
  obtain ⟨hsz, hone, ⟨f0, e0, t0⟩, ⟨f1, e1, t1⟩, ⟨f2, e2, t2⟩⟩ := fields3 hfb
  rcases open_slice_fields u55 hfs hone (by rw [cells97, hsz]) hf with ⟨hcs, hx⟩ | ⟨a, len', cap', m, D, Pl, hcs, _, hl, hm, hmm, hx, hi⟩
  · simp [Value.cells] at hcs
    obtain ⟨rfl, rfl, rfl⟩ := hcs
    exact ⟨[], ⟨rfl, by simp, fun h => absurd h (by omega)⟩, Nat.le_refl _, by omega⟩
  · simp [Value.cells] at hcs
    obtain ⟨rfl, rfl, rfl⟩ := hcs
    simp only [if_true] at hmm
    subst hmm
    simp only [Prod.mk.injEq] at hx
    obtain ⟨rfl, rfl⟩ := hx
    have key : ∀ i, i < n → ∃ s : Stp, s.Wf ∧ W.cell? (a.add (i * 3 + 0)) = some (.int .i64 s.kind) ∧ W.cell? (a.add (i * 3 + 1)) = some (.int .u64 s.addr) ∧ W.cell? (a.add (i * 3 + 2)) = some (.int .u64 s.x) := by
      intro i hin
      obtain ⟨ys, nn, _, _, _, hj⟩ := hi i (by omega)
      rw [hsz] at hj
      obtain ⟨v0, y0, hc0, _, hv0⟩ := hj 0 f0 e0
      obtain ⟨v1, y1, hc1, _, hv1⟩ := hj 1 f1 e1
      obtain ⟨v2, y2, hc2, _, hv2⟩ := hj 2 f2 e2
      rw [t0] at hv0
      rw [t1] at hv1
      rw [t2] at hv2
      obtain ⟨x1, h1, _, hw1⟩ := DataW.trod_int Try.underlying3 hv0
      obtain ⟨x2, h2, _, hw2⟩ := DataW.trod_int u30 hv1
      obtain ⟨x3, h3, _, hw3⟩ := DataW.trod_int u30 hv2
      cases h1
      cases h2
      cases h3
      exact ⟨⟨x1, x2, x3⟩, ⟨bounds_i64 hw1, bounds_u64 hw2, bounds_u64 hw3⟩, hc0, hc1, hc2⟩
    by_cases h0 : n = 0
    · subst h0
      exact ⟨[], ⟨rfl, by simp, fun h => absurd h (by omega)⟩, hl, hm⟩
    · obtain ⟨ab, ao, spot⟩ := a
      obtain ⟨r0, _, hc0, _⟩ := key 0 (by omega)
      have hspot : spot = none := by simpa [Addr.add] using World.cell?_spot hc0
      subst hspot
      have hch : ∀ i, ∃ s : Stp, i < n → s.Wf ∧ W.cell? ⟨ab, ao + i * 3, none⟩ = some (.int .i64 s.kind) ∧ W.cell? ⟨ab, ao + i * 3 + 1, none⟩ = some (.int .u64 s.addr) ∧ W.cell? ⟨ab, ao + i * 3 + 2, none⟩ = some (.int .u64 s.x) := by
        intro i
        by_cases hin : i < n
        · obtain ⟨r, hw, k0, k1, k2⟩ := key i hin
          refine ⟨r, fun _ => ⟨hw, ?_⟩⟩
          rw [Addr.add_lit] at k0 k1 k2
          exact ⟨k0, k1, k2⟩
        · exact ⟨default, fun h => absurd h hin⟩
      obtain ⟨g, hg⟩ := Classical.axiomOfChoice hch
      refine ⟨(List.range n).map g, ⟨by simp, ?_, fun _ => ⟨ab, ao, rfl, ?_⟩⟩, hl, hm⟩
      · intro r hr
        obtain ⟨i, hi', rfl⟩ := List.mem_map.1 hr
        exact (hg i (List.mem_range.1 hi')).1
      · intro i r hr
        rw [List.getElem?_map] at hr
        obtain ⟨i', hi', rfl⟩ := Option.map_eq_some_iff.1 hr
        have hlt' : i < n := by have := (List.getElem?_eq_some_iff.1 hi').1; simpa using this
        rw [List.getElem?_range hlt'] at hi'
        cases hi'
        exact (hg i hlt').2
end Go.Proofs.Ytageahpgcjnkpaa
