/- Lines and columns: line.on; Line. -/
import Derived.Test.YtmkfoknhjjgipaaDoorF
set_option linter.unusedSimpArgs false
set_option linter.unusedVariables false
namespace Go.Proofs.YtmkfoknhjjgipaaDoor
open Go.RowKit Go.Lib Go.Shelf

/-- a line and a column, told on by a byte -/
def lcS (p : Nat × Nat) (b : UInt8) : Nat × Nat := if b.toNat = 10 then (p.1 + 1, 1) else (p.1, p.2 + 1)
def lcF (p : Nat × Nat) (l : List UInt8) : Nat × Nat := l.foldl lcS p
theorem lcF_snoc (p : Nat × Nat) (l : List UInt8) (b : UInt8) : lcF p (l ++ [b]) = lcS (lcF p l) b := by simp [lcF]
theorem lcF_app (p : Nat × Nat) (l m : List UInt8) : lcF p (l ++ m) = lcF (lcF p l) m := by simp [lcF]
theorem lcF_le (l : List UInt8) : ∀ p, (lcF p l).1 ≤ p.1 + l.length ∧ (lcF p l).2 ≤ p.2 + l.length + 1 := by
  induction l with
  | nil => intro p; exact ⟨Nat.le_refl _, Nat.le_succ _⟩
  | cons b l ih =>
    intro p
    obtain ⟨h1, h2⟩ := ih (lcS p b)
    have e : lcF p (b :: l) = lcF (lcS p b) l := rfl
    rw [e, List.length_cons]
    have h3 : (lcS p b).1 ≤ p.1 + 1 ∧ (lcS p b).2 ≤ p.2 + 1 := by
      unfold lcS
      split
      · exact ⟨Nat.le_refl _, Nat.succ_le_succ (Nat.zero_le _)⟩
      · exact ⟨Nat.le_succ _, Nat.le_refl _⟩
    omega
/-- only one block is another -/
structure Only (c : Nat) (w w' : World) : Prop where
  os : w'.os = w.os
  tape : w'.tape = w.tape
  output : w'.output = w.output
  size : w'.heap.size = w.heap.size
  block : ∀ k, k ≠ c → w'.heap[k]? = w.heap[k]?
theorem Only.refl (c : Nat) (w : World) : Only c w w := ⟨rfl, rfl, rfl, rfl, fun _ _ => rfl⟩
theorem Only.set {c : Nat} {w w' : World} (h : Only c w w') (o : Nat) (v : Value) : Only c w (w'.setCell ⟨c, o, none⟩ v) :=
  ⟨h.os, h.tape, h.output, (Go.Deep.nblk_setCell _ _ _).trans h.size, fun k hk => (Go.Deep.blk_setCell_other _ _ _ _ hk).trans (h.block k hk)⟩
theorem Only.below {B c : Nat} {a w w' : World} (h : Only c w w') (hb : Below B a w) (hc : B ≤ c) : Below B a w' :=
  ⟨h.os.trans hb.os, h.tape.trans hb.tape, h.output.trans hb.output, by rw [h.size]; exact hb.size, fun k hk => (h.block k (by omega)).trans (hb.block k hk)⟩
def lineB (a l c : Nat) : Obj := .cells #[.int .i64 a, .int .i64 l, .int .i64 c] 45
theorem box3 {W : World} {b : Nat} {v0 v1 v2 : Value} {t : TypeId} (h : W.heap[b]? = some (.cells #[v0, v1, v2] t (0, 0))) :
    W.cell? ⟨b, 0, none⟩ = some v0 ∧ W.cell? ⟨b, 1, none⟩ = some v1 ∧ W.cell? ⟨b, 2, none⟩ = some v2 ∧ ∀ k, W.frozen? ⟨b, k, none⟩ = false :=
  ⟨by rw [blk_cell h]; rfl, by rw [blk_cell h]; rfl, by rw [blk_cell h]; rfl, fun k => by simp [World.frozen?, h]⟩
theorem set3_0 {W : World} {b : Nat} {v0 v1 v2 v : Value} {t : TypeId} (h : W.heap[b]? = some (.cells #[v0, v1, v2] t (0, 0))) : (W.setCell ⟨b, 0, none⟩ v).heap[b]? = some (.cells #[v, v1, v2] t (0, 0)) := by
  simp [World.setCell, Array.getElem?_modify, h]
theorem set3_1 {W : World} {b : Nat} {v0 v1 v2 v : Value} {t : TypeId} (h : W.heap[b]? = some (.cells #[v0, v1, v2] t (0, 0))) : (W.setCell ⟨b, 1, none⟩ v).heap[b]? = some (.cells #[v0, v, v2] t (0, 0)) := by
  simp [World.setCell, Array.getElem?_modify, h]
theorem set3_2 {W : World} {b : Nat} {v0 v1 v2 v : Value} {t : TypeId} (h : W.heap[b]? = some (.cells #[v0, v1, v2] t (0, 0))) : (W.setCell ⟨b, 2, none⟩ v).heap[b]? = some (.cells #[v0, v1, v] t (0, 0)) := by
  simp [World.setCell, Array.getElem?_modify, h]

set_option maxRecDepth 100000 in
set_option maxHeartbeats 4000000 in
theorem on_any (s : ByteArray) (hs : s.size ≤ 2000000) (c a n l0 c0 : Nat) (t : Int) (w : World) (hT : t = ((a + n : Nat) : Int) ∨ n = 0 ∧ t ≤ (a : Int)) (hn : a + n ≤ s.size) (hl : l0 ≤ 2000001) (hc : c0 ≤ 2000001)
    (hb : w.heap[c]? = some (lineB a l0 c0)) :
    Calls Tryd.prog 14 #[.pointer (some ⟨c, 0, none⟩), .string s, .int .i64 t] w fun e w' => e = .returned (.tuple #[]) ∧ Only c w w' ∧ w'.heap[c]? = some (lineB (a + n) (lcF (l0, c0) ((s.data.toList.drop a).take n)).1 (lcF (l0, c0) ((s.data.toList.drop a).take n)).2) := by
  have hb := Lib.hid hb
  have hT := Lib.hid hT
  go_enter Tryd.func14, Tryd.ntmps14
  go_wp2_with fail
  go_loopg [] n (fun g wr => ∃ k : Nat, k + g = n ∧ Only c w wr ∧ wr.heap[c]? = some (lineB (a + k) (lcF (l0, c0) ((s.data.toList.drop a).take k)).1 (lcF (l0, c0) ((s.data.toList.drop a).take k)).2))
  case atStart => exact ⟨0, by omega, Only.refl _ _, hb.out⟩
  case round =>
    obtain ⟨k, hkg, ho, hbk⟩ := hrel
    have hlen : (s.data.toList.drop a).length = s.size - a := by rw [List.length_drop, size_list]
    have hle := lcF_le ((s.data.toList.drop a).take k) (l0, c0)
    have hlk : ((s.data.toList.drop a).take k).length ≤ k := by rw [List.length_take]; omega
    obtain ⟨L, hL⟩ : ∃ L, lcF (l0, c0) ((s.data.toList.drop a).take k) = L := ⟨_, rfl⟩
    rw [hL] at hbk hle
    obtain ⟨L1, L2⟩ := L
    obtain ⟨hle1, hle2⟩ := hle
    dsimp only at hbk hle1 hle2
    obtain ⟨x0, x1, x2, xf⟩ := box3 hbk
    have hbk := Lib.hid hbk
    have ho := Lib.hid ho
    have hL := Lib.hid hL
    cases gk with
    | zero =>
      obtain rfl : k = n := by omega
      have hfin := Lib.hid (show wr.heap[c]? = some (lineB (a + k) (lcF (l0, c0) ((s.data.toList.drop a).take k)).1 (lcF (l0, c0) ((s.data.toList.drop a).take k)).2) by rw [hL.out]; exact hbk.out)
      have e0 : ¬ (((a + k : Nat) : Int) < t) := by rcases hT.out with h | ⟨h, h2⟩ <;> omega
      go_wp2
      refine Go.bodyPost_end (results_none rfl _ _ _) rfl ?_

      exact ⟨rfl, ho.out, hbk.out⟩
    | succ g2 =>
      obtain rfl : t = ((a + n : Nat) : Int) := by rcases hT.out with h | ⟨h, h2⟩ <;> omega
      have hk : a + k < s.size := by omega
      have e0 : ((a + k : Nat) : Int) < ((a + n : Nat) : Int) := by omega
      have hget : (s.data.toList.drop a)[k]? = some (s[a + k]'hk) := by rw [drop_get]; exact get_list s (a + k) hk
      have hnext : lcF (l0, c0) ((s.data.toList.drop a).take (k + 1)) = lcS (L1, L2) (s[a + k]'hk) := by
        rw [List.take_add_one, hget, Option.toList_some, lcF_snoc, hL.out]
      have hnext := Lib.hid hnext
      clear hget
      by_cases h10 : (s[a + k]'hk).toNat = 10
      · have e10 : ((s[a + k]'hk).toNat : Int) = 10 := by omega
        have hn2 := Lib.hid (show lcF (l0, c0) ((s.data.toList.drop a).take (k + 1)) = (L1 + 1, 1) by rw [hnext.out]; unfold lcS; rw [if_pos h10])
        have w1 : IntKind.i64.wrap ((L1 : Int) + 1) = ((L1 + 1 : Nat) : Int) := by rw [IntKind.wrap_i64]; omega
        have w2 : IntKind.i64.wrap ((L2 : Int) + 1) = ((L2 + 1 : Nat) : Int) := by rw [IntKind.wrap_i64]; omega
        have w3 : IntKind.i64.wrap (((a + k : Nat) : Int) + 1) = ((a + (k + 1) : Nat) : Int) := by rw [IntKind.wrap_i64]; omega
        clear h10
        go_wp2
        go_roundg g2
        case measure => omega
        case rel =>
          refine ⟨k + 1, by omega, (((ho.out.set _ _).set _ _).set _ _).set _ _, ?_⟩
          rw [hn2.out, set3_0 (set3_2 (set3_1 (set3_2 hbk.out)))]
          unfold lineB
          rfl
      · have e10 : ¬ ((s[a + k]'hk).toNat : Int) = 10 := by omega
        have hn2 := Lib.hid (show lcF (l0, c0) ((s.data.toList.drop a).take (k + 1)) = (L1, L2 + 1) by rw [hnext.out]; unfold lcS; rw [if_neg h10])
        have w2 : IntKind.i64.wrap ((L2 : Int) + 1) = ((L2 + 1 : Nat) : Int) := by rw [IntKind.wrap_i64]; omega
        have w3 : IntKind.i64.wrap (((a + k : Nat) : Int) + 1) = ((a + (k + 1) : Nat) : Int) := by rw [IntKind.wrap_i64]; omega
        clear h10
        go_wp2
        go_roundg g2
        case measure => omega
        case rel =>
          refine ⟨k + 1, by omega, (ho.out.set _ _).set _ _, ?_⟩
          rw [hn2.out, set3_0 (set3_2 hbk.out)]
          unfold lineB
          rfl
end Go.Proofs.YtmkfoknhjjgipaaDoor
