/- What came in: things seen, askings. What came in is not too large. -/
import Derived.Test.YtkbmckmlnphpmaaGreatDoorAM
import Derived.Test.YtkbmckmlnphpmaaGreatDoorAR
import Derived.Test.YtkbmckmlnphpmaaGreatDoorAF
import Derived.Deep.Matrix
import Derived.Deep.Slices
import Derived.SizedLaws
set_option linter.unusedSimpArgs false
set_option linter.unusedVariables false
namespace Go.Proofs.YtkbmckmlnphpmaaGreatDoor
open Go.ChangeShapes Go.WideShapes Go.ChangeAt Go.RowKit Go.Deep

/-- a slice that came in, its rows as long as may be -/
def WsO (w : World) (A : Option Addr) (W : List (List Int)) : Prop :=
  0 < W.length → ∃ blk off, A = some ⟨blk, off, none⟩ ∧ ∀ i ws, W[i]? = some ws → ∃ A' c, w.cell? ⟨blk, off + i, none⟩ = some (.slice A' ws.length c) ∧ ws.length ≤ 9223372036854775807 ∧ WAt w A' ws
theorem WsO.below {w w' : World} {A : Option Addr} {W : List (List Int)} (h : WsO w A W) (hb : Below w.heap.size w w') : WsO w' A W := by
  intro hn
  obtain ⟨blk, off, e, hc⟩ := h hn
  refine ⟨blk, off, e, fun i ws hws => ?_⟩
  obtain ⟨A', c, h1, h2, h4⟩ := hc i ws hws
  exact ⟨A', c, (hb.cell (p := ⟨blk, off + i, none⟩) (cell_some_lt h1)).trans h1, h2, h4.below hb⟩
theorem WsO.wsAt {w : World} {A : Option Addr} {W : List (List Int)} (h : WsO w A W) (hl : ∀ ws ∈ W, ws.length ≤ 4000000) : WsAt w A W := by
  intro hn
  obtain ⟨blk, off, e, hc⟩ := h hn
  refine ⟨blk, off, e, fun i ws hws => ?_⟩
  obtain ⟨A', c, h1, h2, h4⟩ := hc i ws hws
  exact ⟨A', c, h1, hl ws (List.mem_of_getElem? hws), h4⟩
theorem WsO.at_ {w : World} {A : Option Addr} {W : List (List Int)} (h : WsO w A W) {k : Nat} (hk : k < W.length) :
    ∃ blk off ws A' c, A = some ⟨blk, off, none⟩ ∧ W[k]? = some ws ∧ w.cell? ⟨blk, off + k, none⟩ = some (.slice A' ws.length c) ∧ ws.length ≤ 9223372036854775807 ∧ WAt w A' ws := by
  obtain ⟨blk, off, e, hc⟩ := h (by omega)
  have e1 : W[k]? = some W[k] := List.getElem?_eq_getElem hk
  obtain ⟨A', c, h1, h2, h4⟩ := hc k _ e1
  exact ⟨blk, off, _, A', c, e, e1, h1, h2, h4⟩
/-- an asking that came in -/
structure AskO (w : World) (a : Ask) (A1 A2 : Option Addr) : Prop where
  args : WAt w A1 a.args
  regs : WsO w A2 a.regs
  al : a.args.length ≤ 9223372036854775807
  rl : a.regs.length ≤ 9223372036854775807
  k : -9223372036854775808 ≤ a.k ∧ a.k ≤ 9223372036854775807
  st : 0 ≤ a.st ∧ a.st ≤ 18446744073709551615
  fu : -9223372036854775808 ≤ a.fu ∧ a.fu ≤ 9223372036854775807
theorem AskO.below {w w' : World} {a : Ask} {A1 A2 : Option Addr} (h : AskO w a A1 A2) (hb : Below w.heap.size w w') : AskO w' a A1 A2 := ⟨h.args.below hb, h.regs.below hb, h.al, h.rl, h.k, h.st, h.fu⟩
/-- a slice of askings that came in -/
def AsksO (w : World) (A : Option Addr) (L : List Ask) : Prop :=
  0 < L.length → ∃ blk off, A = some ⟨blk, off, none⟩ ∧ ∀ (i : Nat) (a : Ask), L[i]? = some a → ∃ A1 c1 A2 c2, (∀ j v, (askCells a A1 c1 A2 c2)[j]? = some v → w.cell? ⟨blk, off + i * 5 + j, none⟩ = some v) ∧ AskO w a A1 A2
theorem AsksO.below {w w' : World} {A : Option Addr} {L : List Ask} (h : AsksO w A L) (hb : Below w.heap.size w w') : AsksO w' A L := by
  intro hn
  obtain ⟨blk, off, e, hc⟩ := h hn
  refine ⟨blk, off, e, fun i a hi => ?_⟩
  obtain ⟨A1, c1, A2, c2, h1, h2⟩ := hc i a hi
  exact ⟨A1, c1, A2, c2, fun j v hj => (hb.cell (p := ⟨blk, off + i * 5 + j, none⟩) (cell_some_lt (h1 j v hj))).trans (h1 j v hj), h2.below hb⟩

theorem cells22 : Tryz.prog.cellsOf 22 = 1 := by kernel_rfl
theorem cells37 : Tryz.prog.cellsOf 37 = 1 := by kernel_rfl
theorem cells36 : Tryz.prog.cellsOf 36 = 1 := by kernel_rfl
theorem cells39 : Tryz.prog.cellsOf 39 = 2 := by kernel_rfl
theorem cells42 : Tryz.prog.cellsOf 42 = 5 := by kernel_rfl
theorem cells84 : Tryz.prog.cellsOf 84 = 3 := by kernel_rfl
theorem cells3 : Tryz.prog.cellsOf 3 = 1 := by kernel_rfl
theorem cells4 : Tryz.prog.cellsOf 4 = 1 := by kernel_rfl

section
variable {H : Type} {enc : TypeId × Value → H} {W : World}
theorem words_of {fuel : Nat} {c : Value} {x : DataW H × List MemPlace} (hf : DataW.trod enc Tryz.prog W 0 (fun _ => true) true fuel 22 [c] = some x) : ∃ A n cap L, c = .slice A n cap ∧ L.length = n ∧ WAt W A L ∧ n ≤ 9223372036854775807 := by
  rcases open_ints Tryz.underlying22 Tryz.underlying40 cells40 hf with ⟨hcs, hx⟩ | ⟨a, len', cap', zs, hcs, _, hl, hm, hz, hx, hcell, hwf⟩
  · obtain rfl : c = .slice none 0 0 := by simpa using hcs
    exact ⟨none, 0, 0, [], rfl, rfl, ⟨(fun x hx => by cases hx), fun h => absurd h (Nat.lt_irrefl 0)⟩, by omega⟩
  · obtain rfl : c = .slice (some a) len' cap' := by simpa using hcs
    simp only [if_true] at hz
    have hlen : (zs.take len').length = len' := by rw [List.length_take]; omega
    unfold maxLen at hm
    refine ⟨some a, len', cap', zs.take len', rfl, hlen, ⟨fun x hx => bounds_u64 (hwf x (List.mem_of_mem_take hx)), fun hn => ?_⟩, by omega⟩
    rw [hlen] at hn
    obtain ⟨bb, bo, bs⟩ := a
    have h0 := hcell 0 (by omega)
    have hsp : bs = none := by simpa [Addr.add] using World.cell?_spot h0
    subst hsp
    refine ⟨bb, bo, rfl, fun j x hx => ?_⟩
    have hj : j < len' := by have := (List.getElem?_eq_some_iff.1 hx).1; omega
    have h1 := hcell j (by omega)
    rw [Lib.add_plain] at h1
    rw [List.getElem?_take, if_pos hj] at hx
    rw [List.getD_eq_getElem?_getD, hx] at h1
    exact h1
theorem rows_of {fuel : Nat} {c : Value} {x : DataW H × List MemPlace} (hf : DataW.trod enc Tryz.prog W 0 (fun _ => true) true fuel 37 [c] = some x) : ∃ A n cap L, c = .slice A n cap ∧ L.length = n ∧ WsO W A L ∧ n ≤ 9223372036854775807 := by
  rcases open_int_rows Tryz.underlying37 Tryz.underlying22 Tryz.underlying40 cells22 cells40 hf with ⟨hcs, hx⟩ | ⟨a, len', cap', A, Ln, C, Z, hcs, hb, hl, hm, hx, hr⟩
  · obtain rfl : c = .slice none 0 0 := by simpa using hcs
    exact ⟨none, 0, 0, [], rfl, rfl, fun h => absurd h (Nat.lt_irrefl 0), by omega⟩
  · obtain rfl : c = .slice (some a) len' cap' := by simpa using hcs
    have hm2 := hm
    unfold maxLen at hm2
    refine ⟨some a, len', cap', (List.range len').map fun i => (Z i).take (Ln i), rfl, by simp, fun hn => ?_, by omega⟩
    have hn' : 0 < len' := by simpa using hn
    obtain ⟨ab, ao, spot⟩ := a
    obtain ⟨hc0, _⟩ := hr 0 (by omega)
    have hspot : spot = none := by simpa [Addr.add] using World.cell?_spot hc0
    subst hspot
    refine ⟨ab, ao, rfl, fun i ws hws => ?_⟩
    rw [List.getElem?_map] at hws
    obtain ⟨i', hi', rfl⟩ := Option.map_eq_some_iff.1 hws
    have hlt' : i < len' := by have := (List.getElem?_eq_some_iff.1 hi').1; simpa using this
    rw [List.getElem?_range hlt'] at hi'
    cases hi'
    obtain ⟨hc, hle, hcm, hzl, hwf, hnone, hcell⟩ := hr i (by omega)
    have hlen : ((Z i).take (Ln i)).length = Ln i := by rw [List.length_take, hzl]; omega
    rw [Lib.add_plain] at hc
    rw [hlen]
    unfold maxLen at hcm
    refine ⟨A i, C i, hc, by omega, fun x hx => bounds_u64 (hwf x (List.mem_of_mem_take hx)), fun hp => ?_⟩
    rw [hlen] at hp
    cases hA : A i with
    | none => have := hnone hA; omega
    | some a' =>
      obtain ⟨bb, bo, bs⟩ := a'
      obtain ⟨_, hcl⟩ := hcell _ hA
      have h0 := hcl 0 (by omega)
      have hsp : bs = none := by simpa [Addr.add] using World.cell?_spot h0
      subst hsp
      refine ⟨bb, bo, rfl, fun j x hx => ?_⟩
      have hj : j < Ln i := by have := (List.getElem?_eq_some_iff.1 hx).1; omega
      have h1 := hcl j (by omega)
      rw [Lib.add_plain] at h1
      rw [List.getElem?_take, if_pos hj] at hx
      rw [List.getD_eq_getElem?_getD, hx] at h1
      exact h1
theorem some_of {x : Option (DataW H × List MemPlace)} {xs : List (DataW H × List MemPlace)} {i : Nat} (h : x = xs[i]?) (hi : i < xs.length) : ∃ y, x = some y := ⟨xs[i], h.trans (List.getElem?_eq_getElem hi)⟩
theorem five_of {cs : List Value} (h : cs.length = 5) : ∃ a b c d e, cs = [a, b, c, d, e] := by
  match cs, h with
  | [a, b, c, d, e], _ => exact ⟨a, b, c, d, e, rfl⟩
theorem three_of {cs : List Value} (h : cs.length = 3) : ∃ a b c, cs = [a, b, c] := by
  match cs, h with
  | [a, b, c], _ => exact ⟨a, b, c, rfl⟩
theorem ask_of {fuel : Nat} {cs : List Value} {x : DataW H × List MemPlace} (hf : DataW.trod enc Tryz.prog W 0 (fun _ => true) true fuel 42 cs = some x) : ∃ a A1 c1 A2 c2, cs = askCells a A1 c1 A2 c2 ∧ AskO W a A1 A2 := by
  obtain ⟨xs, n, _, _, hcl, hlen, hx⟩ := DataW.trod_struct Tryz.underlying42 hf
  rw [cells42] at hcl
  obtain ⟨v0, v1, v2, v3, v4, rfl⟩ := five_of hcl
  have hlen : xs.length = 4 := hlen
  obtain ⟨y0, h0⟩ := some_of (hx 0 _ rfl) (by omega)
  obtain ⟨y1, h1⟩ := some_of (hx 1 _ rfl) (by omega)
  obtain ⟨y2, h2⟩ := some_of (hx 2 _ rfl) (by omega)
  obtain ⟨y3, h3⟩ := some_of (hx 3 _ rfl) (by omega)
  simp only [List.getElem_toArray, List.getElem_cons_zero, List.getElem_cons_succ] at h0 h1 h2 h3
  rw [cells36] at h0
  rw [cells39] at h1
  rw [cells40] at h2
  rw [cells3] at h3
  obtain ⟨k, e0, _, k0⟩ := DataW.trod_int Tryz.underlying36 (show DataW.trod enc Tryz.prog W 0 (fun _ => true) true n 36 [v0] = some y0 from h0)
  obtain ⟨st, e3, _, k3⟩ := DataW.trod_int Tryz.underlying40 (show DataW.trod enc Tryz.prog W 0 (fun _ => true) true n 40 [v3] = some y2 from h2)
  obtain ⟨fu, e4, _, k4⟩ := DataW.trod_int Tryz.underlying3 (show DataW.trod enc Tryz.prog W 0 (fun _ => true) true n 3 [v4] = some y3 from h3)
  obtain ⟨zs, m, _, _, _, hzl, hz⟩ := DataW.trod_struct Tryz.underlying39 (show DataW.trod enc Tryz.prog W 0 (fun _ => true) true n 39 [v1, v2] = some y1 from h1)
  have hzl : zs.length = 2 := hzl
  obtain ⟨z0, q0⟩ := some_of (hz 0 _ rfl) (by omega)
  obtain ⟨z1, q1⟩ := some_of (hz 1 _ rfl) (by omega)
  simp only [List.getElem_toArray, List.getElem_cons_zero, List.getElem_cons_succ] at q0 q1
  rw [cells22] at q0
  rw [cells37] at q1
  obtain ⟨A1, n1, c1, L1, rfl, rfl, hw, hn1⟩ := words_of (show DataW.trod enc Tryz.prog W 0 (fun _ => true) true m 22 [v1] = some z0 from q0)
  obtain ⟨A2, n2, c2, L2, rfl, rfl, hr, hn2⟩ := rows_of (show DataW.trod enc Tryz.prog W 0 (fun _ => true) true m 37 [v2] = some z1 from q1)
  cases e0
  cases e3
  cases e4
  exact ⟨⟨k, L1, L2, st, fu⟩, A1, c1, A2, c2, rfl, hw, hr, hn1, hn2, bounds_i64 k0, bounds_u64 k3, bounds_i64 k4⟩
set_option maxRecDepth 100000 in
theorem open_ask {r : Reach} {b0 : Nat} {v : Value} {d : DataW H} {p : List MemPlace} (hv : Value.okWide Tryz.prog W r b0 42 v) (hk : DataW.Trod enc Tryz.prog W 0 (fun _ => true) true 42 v d p) :
    ∃ a A1 c1 A2 c2, v = askVal a A1 c1 A2 c2 ∧ AskO W a A1 A2 := by
  obtain ⟨fuel, hf⟩ := hk
  obtain ⟨fs, hfs⟩ : ∃ fs, Tryz.prog.underlying 42 = some (.struct fs) := ⟨_, Tryz.underlying42⟩
  obtain ⟨cs, rfl, hsz⟩ := okWide_struct hfs hv
  obtain ⟨a, A1, c1, A2, c2, hc, ha⟩ := ask_of hf
  refine ⟨a, A1, c1, A2, c2, ?_, ha⟩
  have hc : cs.toList = askCells a A1 c1 A2 c2 := by simpa [Value.cells] using hc
  unfold askVal
  congr 1
  apply Array.toList_inj.1
  rw [hc]; rfl
theorem open_asks {a0 : Option Addr} {n cap : Nat} {d : DataW H} {p : List MemPlace} (hk : DataW.Trod enc Tryz.prog W 0 (fun _ => true) true 48 (.slice a0 n cap) d p) : ∃ L : List Ask, L.length = n ∧ AsksO W a0 L ∧ n ≤ 9223372036854775807 := by
  obtain ⟨fuel, hf⟩ := hk
  rcases open_slice Tryz.underlying48 hf with ⟨hcs, hx⟩ | ⟨a, len', cap', m, nn, D, Pl, hcs, hb, hl, hm, hmm, hx, hi⟩
  · simp [Value.cells] at hcs
    obtain ⟨rfl, rfl, rfl⟩ := hcs
    exact ⟨[], rfl, fun h => absurd h (Nat.lt_irrefl 0), by omega⟩
  · simp [Value.cells] at hcs
    obtain ⟨rfl, rfl, rfl⟩ := hcs
    simp only [if_true] at hmm
    subst hmm
    rw [cells42] at hi
    unfold maxLen at hm
    have key : ∀ i, ∃ q : Ask × Option Addr × Nat × Option Addr × Nat, i < n → (∀ j v, (askCells q.1 q.2.1 q.2.2.1 q.2.2.2.1 q.2.2.2.2)[j]? = some v → W.cell? ((a.add (i * 5)).add j) = some v) ∧ AskO W q.1 q.2.1 q.2.2.2.1 := by
      intro i
      by_cases hin : i < n
      · obtain ⟨cs', hc, ht⟩ := hi i (by omega)
        obtain ⟨q, A1, c1, A2, c2, rfl, hq⟩ := ask_of ht
        obtain ⟨_, hcl, hat⟩ := World.cells?_some hc
        exact ⟨⟨q, A1, c1, A2, c2⟩, fun _ => ⟨fun j v hj => (hat j (by have := (List.getElem?_eq_some_iff.1 hj).1; simpa [askCells] using this)).trans hj, hq⟩⟩
      · exact ⟨⟨⟨0, [], [], 0, 0⟩, none, 0, none, 0⟩, fun h => absurd h hin⟩
    obtain ⟨g, hg⟩ := Classical.axiomOfChoice key
    refine ⟨(List.range n).map fun i => (g i).1, by simp, fun hn => ?_, by omega⟩
    have hn' : 0 < n := by simpa using hn
    obtain ⟨ab, ao, spot⟩ := a
    have h0 := (hg 0 hn').1 0 _ rfl
    have hspot : spot = none := by simpa [Addr.add] using World.cell?_spot h0
    subst hspot
    refine ⟨ab, ao, rfl, fun i q hq => ?_⟩
    rw [List.getElem?_map] at hq
    obtain ⟨i', hi', rfl⟩ := Option.map_eq_some_iff.1 hq
    have hlt' : i < n := by have := (List.getElem?_eq_some_iff.1 hi').1; simpa using this
    rw [List.getElem?_range hlt'] at hi'
    cases hi'
    refine ⟨(g i).2.1, (g i).2.2.1, (g i).2.2.2.1, (g i).2.2.2.2, fun j v hj => ?_, (hg i hlt').2⟩
    have h1 := (hg i hlt').1 j v hj
    rw [Lib.add_plain, Lib.add_plain] at h1
    exact h1
theorem open_seens {a0 : Option Addr} {n cap : Nat} {d : DataW H} {p : List MemPlace} (hk : DataW.Trod enc Tryz.prog W 0 (fun _ => true) true 53 (.slice a0 n cap) d p) : ∃ L : List Sn, L.length = n ∧ SnAt W a0 L := by
  obtain ⟨fuel, hf⟩ := hk
  rcases open_slice Tryz.underlying53 hf with ⟨hcs, hx⟩ | ⟨a, len', cap', m, nn, D, Pl, hcs, hb, hl, hm, hmm, hx, hi⟩
  · simp [Value.cells] at hcs
    obtain ⟨rfl, rfl, rfl⟩ := hcs
    exact ⟨[], rfl, (fun x hx => by cases hx), fun h => absurd h (Nat.lt_irrefl 0)⟩
  · simp [Value.cells] at hcs
    obtain ⟨rfl, rfl, rfl⟩ := hcs
    simp only [if_true] at hmm
    subst hmm
    rw [cells84] at hi
    have key : ∀ i, ∃ q : Sn, i < n → (0 ≤ q.a ∧ q.a ≤ 18446744073709551615) ∧ W.cell? ((a.add (i * 3)).add 0) = some (.bool q.j) ∧ W.cell? ((a.add (i * 3)).add 1) = some (.bool q.t) ∧ W.cell? ((a.add (i * 3)).add 2) = some (.int .u64 q.a) := by
      intro i
      by_cases hin : i < n
      · obtain ⟨cs', hc, ht⟩ := hi i (by omega)
        obtain ⟨xs, n', _, _, hcl, hlen, hx⟩ := DataW.trod_struct Tryz.underlying84 ht
        rw [cells84] at hcl
        obtain ⟨v0, v1, v2, rfl⟩ := three_of hcl
        have hlen : xs.length = 3 := hlen
        obtain ⟨y0, h0⟩ := some_of (hx 0 _ rfl) (by omega)
        obtain ⟨y1, h1⟩ := some_of (hx 1 _ rfl) (by omega)
        obtain ⟨y2, h2⟩ := some_of (hx 2 _ rfl) (by omega)
        simp only [List.getElem_toArray, List.getElem_cons_zero, List.getElem_cons_succ] at h0 h1 h2
        rw [cells4] at h0 h1
        rw [cells40] at h2
        obtain ⟨j, e0, _⟩ := DataW.trod_bool Tryz.underlying4 (show DataW.trod enc Tryz.prog W 0 (fun _ => true) true n' 4 [v0] = some y0 from h0)
        obtain ⟨t, e1, _⟩ := DataW.trod_bool Tryz.underlying4 (show DataW.trod enc Tryz.prog W 0 (fun _ => true) true n' 4 [v1] = some y1 from h1)
        obtain ⟨x2, e2, _, k2⟩ := DataW.trod_int Tryz.underlying40 (show DataW.trod enc Tryz.prog W 0 (fun _ => true) true n' 40 [v2] = some y2 from h2)
        cases e0
        cases e1
        cases e2
        obtain ⟨_, _, hat⟩ := World.cells?_some hc
        exact ⟨⟨j, t, x2⟩, fun _ => ⟨bounds_u64 k2, hat 0 (by simp), hat 1 (by simp), hat 2 (by simp)⟩⟩
      · exact ⟨⟨false, false, 0⟩, fun h => absurd h hin⟩
    obtain ⟨g, hg⟩ := Classical.axiomOfChoice key
    refine ⟨(List.range n).map g, by simp, fun x hx => ?_, fun hn => ?_⟩
    · obtain ⟨i, hi', rfl⟩ := List.mem_map.1 hx
      exact (hg i (List.mem_range.1 hi')).1
    have hn' : 0 < n := by simpa using hn
    obtain ⟨ab, ao, spot⟩ := a
    have h0 := (hg 0 hn').2.1
    have hspot : spot = none := by simpa [Addr.add] using World.cell?_spot h0
    subst hspot
    refine ⟨ab, ao, rfl, fun i q hq => ?_⟩
    rw [List.getElem?_map] at hq
    obtain ⟨i', hi', rfl⟩ := Option.map_eq_some_iff.1 hq
    have hlt' : i < n := by have := (List.getElem?_eq_some_iff.1 hi').1; simpa using this
    rw [List.getElem?_range hlt'] at hi'
    cases hi'
    obtain ⟨_, k0, k1, k2⟩ := hg i hlt'
    simp only [Lib.add_plain] at k0 k1 k2
    exact ⟨k0, k1, k2⟩
end
end Go.Proofs.YtkbmckmlnphpmaaGreatDoor
namespace Go.Proofs.YtkbmckmlnphpmaaGreatDoor
open Go.ChangeShapes Go.WideShapes Go.ChangeAt Go.RowKit Go.Deep

/-- an asking's parts have at most 2^44 things -/
def AskLe (a : Ask) : Prop := a.args.length ≤ 17592186044416 ∧ a.regs.length ≤ 17592186044416 ∧ ∀ ws ∈ a.regs, ws.length ≤ 17592186044416
theorem reach_eq : reachBytes = 140737488351232 := rfl
theorem bytes40 : Tryz.prog.bytesOf 40 = 8 := by kernel_rfl
theorem bytes22 : Tryz.prog.bytesOf 22 = 24 := by kernel_rfl
theorem bytes42 : Tryz.prog.bytesOf 42 = 72 := by kernel_rfl
section
variable {H : Type} {enc : TypeId × Value → H} {W : World}
theorem mem_all {e : TypeId} : ∀ {ds : List (DataW H)} {d : DataW H}, d ∈ ds → ∀ k ∈ d.weights Tryz.prog e, k ∈ DataW.weightsAll Tryz.prog e ds
  | d0 :: ds, d, h, k, hk => by
    simp only [DataW.weightsAll, List.mem_append]
    rcases List.mem_cons.1 h with rfl | h
    · exact .inl hk
    · exact .inr (mem_all h k hk)
/-- a slice's length -/
theorem slice_sz {t e : TypeId} {fuel : Nat} {A : Option Addr} {n cap : Nat} {x : DataW H × List MemPlace} (ht : Tryz.prog.underlying t = some (.slice e)) (hf : DataW.trod enc Tryz.prog W 0 (fun _ => true) true fuel t [.slice A n cap] = some x)
    (hs : ∀ k ∈ x.1.weights Tryz.prog t, k ≤ reachBytes) : n * Tryz.prog.bytesOf e ≤ reachBytes ∧
      ∀ i, i < n → ∃ (a : Addr) (cs' : List Value) (f' : Nat) (y : DataW H × List MemPlace), A = some a ∧ W.cells? 0 (a.add (i * Tryz.prog.cellsOf e)) (Tryz.prog.cellsOf e) = some cs' ∧ DataW.trod enc Tryz.prog W 0 (fun _ => true) true f' e cs' = some y ∧ ∀ k ∈ y.1.weights Tryz.prog e, k ≤ reachBytes := by
  rcases open_slice ht hf with ⟨hcs, hx⟩ | ⟨a, len', cap', m, nn, D, Pl, hcs, hb, hl, hm, hmm, hx, hi⟩
  · simp at hcs
    obtain ⟨rfl, rfl, rfl⟩ := hcs
    exact ⟨by omega, fun i h => absurd h (Nat.not_lt_zero _)⟩
  · simp at hcs
    obtain ⟨rfl, rfl, rfl⟩ := hcs
    simp only [if_true] at hmm
    subst hmm
    subst hx
    simp only [DataW.weights, ht] at hs
    refine ⟨?_, fun i hin => ?_⟩
    · have h1 := hs _ (List.mem_cons_self)
      rw [List.length_map, List.length_map, List.length_range, List.length_range] at h1
      refine Nat.le_trans (Nat.mul_le_mul_right _ ?_) h1
      omega
    · obtain ⟨cs', hc, htr⟩ := hi i (by omega)
      refine ⟨a, cs', nn, _, rfl, hc, htr, fun k hk => hs k (List.mem_cons_of_mem _ (List.mem_append_left _ (mem_all (List.mem_map.2 ⟨i, List.mem_range.2 hin, rfl⟩) k hk)))⟩
theorem words_sz {fuel : Nat} {A : Option Addr} {n cap : Nat} {x : DataW H × List MemPlace} (hf : DataW.trod enc Tryz.prog W 0 (fun _ => true) true fuel 22 [.slice A n cap] = some x) (hs : ∀ k ∈ x.1.weights Tryz.prog 22, k ≤ reachBytes) : n ≤ 17592186044416 := by
  have h := (slice_sz Tryz.underlying22 hf hs).1
  rw [bytes40, reach_eq] at h
  omega
theorem rows_sz {fuel : Nat} {A : Option Addr} {n cap : Nat} {x : DataW H × List MemPlace} {L : List (List Int)} (hf : DataW.trod enc Tryz.prog W 0 (fun _ => true) true fuel 37 [.slice A n cap] = some x) (hs : ∀ k ∈ x.1.weights Tryz.prog 37, k ≤ reachBytes) (hO : WsO W A L) (hL : L.length = n) :
    n ≤ 17592186044416 ∧ ∀ ws ∈ L, ws.length ≤ 17592186044416 := by
  obtain ⟨h, hi⟩ := slice_sz Tryz.underlying37 hf hs
  rw [bytes22, reach_eq] at h
  refine ⟨by omega, fun ws hws => ?_⟩
  obtain ⟨i, hget⟩ := List.getElem?_of_mem hws
  have hin : i < n := by rw [← hL]; exact (List.getElem?_eq_some_iff.1 hget).1
  obtain ⟨a, cs', f', y, hA, hc, htr, hsy⟩ := hi i hin
  obtain ⟨blk, off, e, hcell⟩ := hO (by omega)
  obtain ⟨A', c, h1, _, _⟩ := hcell i ws hget
  rw [hA] at e
  cases e
  rw [cells22] at hc
  obtain ⟨_, hcl, hat⟩ := World.cells?_some hc
  have h2 := hat 0 (by omega)
  rw [Lib.add_plain, Lib.add_plain, Nat.mul_one, Nat.add_zero, h1] at h2
  have hcs : cs' = [.slice A' ws.length c] := by
    match cs', hcl, h2 with
    | [v], _, h2 => cases h2; rfl
  subst hcs
  exact words_sz htr hsy
theorem sized_field {ts : List TypeId} {ds : List (DataW H)} {j : Nat} {t : TypeId} {d : DataW H} (ht : ts[j]? = some t) (hd : ds[j]? = some d) (h : ∀ k ∈ DataW.weightsEach Tryz.prog ts ds, k ≤ reachBytes) : ∀ k ∈ d.weights Tryz.prog t, k ≤ reachBytes := fun k hk => h k (DataW.weights_mem_each ht hd k hk)
theorem fst_at {xs : List (DataW H × List MemPlace)} {i : Nat} {y : DataW H × List MemPlace} (h : xs[i]? = some y) : (xs.map (·.1))[i]? = some y.1 := by rw [List.getElem?_map, h]; rfl
theorem ask_sz {fuel : Nat} {a : Ask} {A1 A2 : Option Addr} {c1 c2 : Nat} {x : DataW H × List MemPlace} (hf : DataW.trod enc Tryz.prog W 0 (fun _ => true) true fuel 42 (askCells a A1 c1 A2 c2) = some x) (hs : ∀ k ∈ x.1.weights Tryz.prog 42, k ≤ reachBytes) (hO : AskO W a A1 A2) : AskLe a := by
  obtain ⟨xs, n, _, hx0, hcl, hlen, hx⟩ := DataW.trod_struct Tryz.underlying42 hf
  have hlen : xs.length = 4 := hlen
  subst hx0
  obtain ⟨y1, g1⟩ : ∃ y, xs[1]? = some y := ⟨_, List.getElem?_eq_getElem (by omega)⟩
  have h1 := (hx 1 _ rfl).trans g1
  simp only [List.getElem_toArray, List.getElem_cons_zero, List.getElem_cons_succ] at h1
  rw [cells39] at h1
  have hs1 : ∀ k ∈ y1.1.weights Tryz.prog 39, k ≤ reachBytes := by
    simp only [DataW.weights, Tryz.underlying42] at hs
    exact sized_field (j := 1) rfl (fst_at g1) hs
  obtain ⟨zs, m, _, hz0, _, hzl, hz⟩ := DataW.trod_struct Tryz.underlying39 (show DataW.trod enc Tryz.prog W 0 (fun _ => true) true n 39 [.slice A1 a.args.length c1, .slice A2 a.regs.length c2] = some y1 from h1)
  have hzl : zs.length = 2 := hzl
  subst hz0
  obtain ⟨z0, k0⟩ : ∃ y, zs[0]? = some y := ⟨_, List.getElem?_eq_getElem (by omega)⟩
  obtain ⟨z1, k1⟩ : ∃ y, zs[1]? = some y := ⟨_, List.getElem?_eq_getElem (by omega)⟩
  have q0 := (hz 0 _ rfl).trans k0
  have q1 := (hz 1 _ rfl).trans k1
  simp only [List.getElem_toArray, List.getElem_cons_zero, List.getElem_cons_succ] at q0 q1
  rw [cells22] at q0
  rw [cells37] at q1
  simp only [DataW.weights, Tryz.underlying39] at hs1
  have r1 := words_sz (show DataW.trod enc Tryz.prog W 0 (fun _ => true) true m 22 [.slice A1 a.args.length c1] = some z0 from q0) (sized_field (j := 0) rfl (fst_at k0) hs1)
  have r2 := rows_sz (show DataW.trod enc Tryz.prog W 0 (fun _ => true) true m 37 [.slice A2 a.regs.length c2] = some z1 from q1) (sized_field (j := 1) rfl (fst_at k1) hs1) hO.regs rfl
  exact ⟨r1, r2⟩
theorem asks_sz {fuel : Nat} {A : Option Addr} {n cap : Nat} {x : DataW H × List MemPlace} {L : List Ask} (hf : DataW.trod enc Tryz.prog W 0 (fun _ => true) true fuel 48 [.slice A n cap] = some x) (hs : ∀ k ∈ x.1.weights Tryz.prog 48, k ≤ reachBytes) (hO : AsksO W A L) (hL : L.length = n) :
    n ≤ 17592186044416 ∧ ∀ a ∈ L, AskLe a := by
  obtain ⟨h, hi⟩ := slice_sz Tryz.underlying48 hf hs
  rw [bytes42, reach_eq] at h
  refine ⟨by omega, fun a ha => ?_⟩
  obtain ⟨i, hget⟩ := List.getElem?_of_mem ha
  have hin : i < n := by rw [← hL]; exact (List.getElem?_eq_some_iff.1 hget).1
  obtain ⟨p, cs', f', y, hA, hc, htr, hsy⟩ := hi i hin
  obtain ⟨blk, off, e, hcell⟩ := hO (by omega)
  obtain ⟨A1, c1, A2, c2, h1, h3⟩ := hcell i a hget
  rw [hA] at e
  cases e
  rw [cells42] at hc
  obtain ⟨_, hcl, hat⟩ := World.cells?_some hc
  have hcs : cs' = askCells a A1 c1 A2 c2 := by
    apply List.ext_getElem?
    intro j
    by_cases hj : j < 5
    · have h2 := hat j hj
      rw [Lib.add_plain, Lib.add_plain] at h2
      obtain ⟨v, hv⟩ : ∃ v, (askCells a A1 c1 A2 c2)[j]? = some v := ⟨_, List.getElem?_eq_getElem (by simpa [askCells] using hj)⟩
      rw [h1 j v hv] at h2
      rw [hv, ← h2]
    · rw [List.getElem?_eq_none (by omega), List.getElem?_eq_none (by simp [askCells]; omega)]
  subst hcs
  exact ask_sz htr hsy h3
end
end Go.Proofs.YtkbmckmlnphpmaaGreatDoor
