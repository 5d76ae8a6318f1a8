/- What a slice of regions that came in gives (turned by program from the text of memories' own chapter). -/
import Derived.Test.YtkbmckmlnphpmaaGreatDoorMA
import Derived.ProofKit
import Derived.OpenShut
import Derived.Deep.Slices
import Derived.Deep.Fields
import Derived.ChangeSame
set_option linter.unusedSimpArgs false
set_option linter.unusedVariables false
namespace Go.Proofs.YtkbmckmlnphpmaaGreatDoor.Me
open Go.ChangeShapes Go.WideShapes Go.ChangeAt Go.RowKit Go.Deep
/-- a slice of regions that came in -/
def RegsIn (W : World) (A : Option Addr) (n cap : Nat) (L : List Reg) : Prop := RegsAt W W.heap.size A n L ∧ n ≤ cap ∧ cap ≤ 9223372036854775807


section
variable {H : Type} {enc : TypeId × Value → H} {P : Program} {w : World} {base : Nat} {spare : Nat → Bool} {held : Bool}
theorem open_slice_fields {t e : TypeId} {fs : Array Field} {fuel : Nat} {cs : List Value} {x : DataW H × List MemPlace} (ht : P.underlying t = some (.slice e)) (he : P.underlying e = some (.struct fs))
    (hone : oneCellFields P fs = true) (hC : P.cellsOf e = fs.size) (h : DataW.trod enc P w base spare held fuel t cs = some x) :
    (cs = [.slice none 0 0] ∧ x = (.nil, [])) ∨
    ∃ (a : Addr) (len cap m : Nat) (D : Nat → DataW H) (Pl : Nat → List MemPlace), cs = [.slice (some a) len cap] ∧ base ≤ a.block ∧ len ≤ cap ∧ cap ≤ maxLen ∧ m = (if spare a.block then cap else len) ∧
      x = (.slice ((List.range len).map D) ((List.range (m - len)).map fun j => D (len + j)), MemPlace.row a (m * fs.size) ++ (List.range m).flatMap Pl) ∧
      ∀ i, i < m → ∃ (ys : List (DataW H × List MemPlace)) (n : Nat), D i = .agg (ys.map (·.1)) ∧ Pl i = ys.flatMap (·.2) ∧ ys.length = fs.size ∧
        ∀ (j : Nat) (f : Field), fs[j]? = some f → ∃ (v : Value) (y : DataW H × List MemPlace), w.cell? (a.add (i * fs.size + j)) = some v ∧ ys[j]? = some y ∧ DataW.trod enc P w base spare held n f.type [v] = some y := by
  rcases open_slice ht h with h0 | ⟨a, len, cap, m, n, D, Pl, hcs, hb, hl, hm, hmm, hx, hi⟩
  · exact .inl h0
  · refine .inr ⟨a, len, cap, m, D, Pl, hcs, hb, hl, hm, hmm, by rw [hC] at hx; exact hx, fun i him => ?_⟩
    obtain ⟨cs', hc, ht'⟩ := hi i him
    rw [hC] at hc
    obtain ⟨ys, n', hn', hy, hlen, hyl, hf⟩ := DataW.trod_struct he ht'
    obtain ⟨_, hcl, hat⟩ := World.cells?_some hc
    simp only [Prod.mk.injEq] at hy
    refine ⟨ys, n', hy.1, hy.2, hyl, fun j f hj => ?_⟩
    obtain ⟨ho, hk⟩ := hone_of hone j f hj
    have hjl : j < fs.size := (Array.getElem?_eq_some_iff.1 hj).1
    have hcell := hat j hjl
    have hv : cs'[j]? = some (cs'[j]'(by omega)) := List.getElem?_eq_getElem (by omega)
    have h1 := hf j f hj
    rw [ho, hk] at h1
    have hone' : (cs'.drop j).take 1 = [cs'[j]'(by omega)] := by
      rw [List.drop_eq_getElem_cons (by omega)]
      rfl
    rw [hone'] at h1
    have hys : ys[j]? = some (ys[j]'(by omega)) := List.getElem?_eq_getElem (by omega)
    refine ⟨_, _, ?_, hys, h1.trans hys⟩
    rw [← Go.Deep.add_add, hcell, hv]
end

def regFields (fs : Array Field) : Bool := fs.toList.map (fun f => (f.type, f.offset)) == [(9, 0), (3, 1), (3, 2), (4, 3)]
theorem und67 : ∃ fs, Tryz.prog.underlying 123 = some (.struct fs) ∧ regFields fs = true := by
  have h : (match Tryz.prog.underlying 123 with | some (.struct fs) => regFields fs | _ => false) = true := by kernel_rfl
  split at h
  · rename_i fs hfs
    exact ⟨fs, hfs, h⟩
  · cases h
theorem cells67 : Tryz.prog.cellsOf 123 = 4 := by kernel_rfl
theorem cells9 : Tryz.prog.cellsOf 9 = 1 := by kernel_rfl
theorem cells3 : Tryz.prog.cellsOf 3 = 1 := by kernel_rfl
theorem cells4 : Tryz.prog.cellsOf 4 = 1 := by kernel_rfl
theorem fields4 {fs : Array Field} (h : regFields fs = true) : fs.size = 4 ∧ oneCellFields Tryz.prog fs = true ∧ (∃ f, fs[0]? = some f ∧ f.type = 9) ∧ (∃ f, fs[1]? = some f ∧ f.type = 3) ∧ (∃ f, fs[2]? = some f ∧ f.type = 3) ∧ (∃ f, fs[3]? = some f ∧ f.type = 4) := by
  obtain ⟨l⟩ := fs
  match l, h with
  | [], h => cases h
  | [a], h => simp [regFields] at h
  | [a, b], h => simp [regFields] at h
  | [a, b, c], h => simp [regFields] at h
  | [a, b, c, d], h =>
    simp [regFields] at h
    obtain ⟨⟨a1, a2⟩, ⟨b1, b2⟩, ⟨c1, c2⟩, d1, d2⟩ := h
    refine ⟨rfl, ?_, ⟨a, rfl, a1⟩, ⟨b, rfl, b1⟩, ⟨c, rfl, c1⟩, ⟨d, rfl, d1⟩⟩
    unfold oneCellFields
    simp [List.range, List.range.loop, a1, a2, b1, b2, c1, c2, d1, d2, cells9, cells3, cells4]
  | a :: b :: c :: d :: e :: l, h => simp [regFields] at h

theorem open_regs {H : Type} {enc : TypeId × Value → H} {W : World} {a0 : Option Addr} {n cap : Nat} {d : DataW H} {p : List MemPlace}
    (hk : DataW.Trod enc Tryz.prog W 0 (fun _ => true) true 79 (.slice a0 n cap) d p) (hlt : ∀ x ∈ p, x.block < W.heap.size) : ∃ L, RegsIn W a0 n cap L := by
  obtain ⟨fuel, hf⟩ := hk
  obtain ⟨fs, hfs, hfb⟩ := und67
  obtain ⟨hsz, hone, ⟨f0, e0, t0⟩, ⟨f1, e1, t1⟩, ⟨f2, e2, t2⟩, ⟨f3, e3, t3⟩⟩ := fields4 hfb
  rcases open_slice_fields Tryz.underlying79 hfs hone (by rw [cells67, hsz]) hf with ⟨hcs, hx⟩ | ⟨a, len', cap', m, D, Pl, hcs, _, hl, hm, hmm, hx, hi⟩
  · simp [Value.cells] at hcs
    obtain ⟨rfl, rfl, rfl⟩ := hcs
    exact ⟨[], ⟨rfl, by simp, fun h => absurd h (by omega)⟩, Nat.le_refl _, by omega⟩
  · simp [Value.cells] at hcs
    obtain ⟨rfl, rfl, rfl⟩ := hcs
    simp only [if_true] at hmm
    subst hmm
    simp only [Prod.mk.injEq] at hx
    obtain ⟨rfl, rfl⟩ := hx
    have key : ∀ i, i < n → ∃ r : Reg, r.Wf ∧ W.cell? (a.add (i * 4 + 0)) = some (.string r.name) ∧ W.cell? (a.add (i * 4 + 1)) = some (.int .i64 r.addr) ∧ W.cell? (a.add (i * 4 + 2)) = some (.int .i64 r.size) ∧ W.cell? (a.add (i * 4 + 3)) = some (.bool r.sec) := by
      intro i hin
      obtain ⟨ys, nn, _, _, _, hj⟩ := hi i (by omega)
      rw [hsz] at hj
      obtain ⟨v0, y0, hc0, _, hv0⟩ := hj 0 f0 e0
      obtain ⟨v1, y1, hc1, _, hv1⟩ := hj 1 f1 e1
      obtain ⟨v2, y2, hc2, _, hv2⟩ := hj 2 f2 e2
      obtain ⟨v3, y3, hc3, _, hv3⟩ := hj 3 f3 e3
      rw [t0] at hv0
      rw [t1] at hv1
      rw [t2] at hv2
      rw [t3] at hv3
      obtain ⟨s, h0, _, hs⟩ := DataW.trod_string Tryz.underlying9 hv0
      obtain ⟨x1, h1, _, hw1⟩ := DataW.trod_int Tryz.underlying3 hv1
      obtain ⟨x2, h2, _, hw2⟩ := DataW.trod_int Tryz.underlying3 hv2
      obtain ⟨b, h3, _⟩ := DataW.trod_bool Tryz.underlying4 hv3
      cases h0
      cases h1
      cases h2
      cases h3
      exact ⟨⟨s, x1, x2, b⟩, ⟨bounds_i64 hw1, bounds_i64 hw2, hs⟩, hc0, hc1, hc2, hc3⟩
    by_cases h0 : n = 0
    · subst h0
      exact ⟨[], ⟨rfl, by simp, fun h => absurd h (by omega)⟩, hl, hm⟩
    · obtain ⟨ab, ao, spot⟩ := a
      obtain ⟨r0, _, hc0, _⟩ := key 0 (by omega)
      have hspot : spot = none := by simpa [Addr.add] using World.cell?_spot hc0
      subst hspot
      have hch : ∀ i, ∃ r : Reg, i < n → r.Wf ∧ RegAt W ab (ao + i * 4) r := by
        intro i
        by_cases hin : i < n
        · obtain ⟨r, hw, k0, k1, k2, k3⟩ := key i hin
          refine ⟨r, fun _ => ⟨hw, ?_⟩⟩
          rw [Addr.add_lit] at k0 k1 k2 k3
          exact ⟨k0, k1, k2, k3⟩
        · exact ⟨default, fun h => absurd h hin⟩
      obtain ⟨g, hg⟩ := Classical.axiomOfChoice hch
      refine ⟨(List.range n).map g, ⟨by simp, ?_, fun _ => ⟨ab, ao, rfl, ?_, ?_⟩⟩, hl, hm⟩
      · intro r hr
        obtain ⟨i, hi', rfl⟩ := List.mem_map.1 hr
        exact (hg i (List.mem_range.1 hi')).1
      · rw [Addr.add_lit] at hc0
        exact World.block_lt_of_cell? W _ hc0
      · intro i r hr
        rw [List.getElem?_map] at hr
        obtain ⟨i', hi', rfl⟩ := Option.map_eq_some_iff.1 hr
        have hlt' : i < n := by have := (List.getElem?_eq_some_iff.1 hi').1; simpa using this
        rw [List.getElem?_range hlt'] at hi'
        cases hi'
        exact (hg i hlt').2
end Go.Proofs.YtkbmckmlnphpmaaGreatDoor.Me
