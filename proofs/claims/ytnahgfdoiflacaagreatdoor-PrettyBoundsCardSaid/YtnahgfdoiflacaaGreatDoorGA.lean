/- PrettyBounds: expressions as deep as one likes. -/
import Derived.Test.YtnahgfdoiflacaaGreatDoorY
import Derived.Deep.LoopGhost
set_option linter.unusedSimpArgs false
set_option linter.unusedVariables false
namespace Go.Proofs.YtnahgfdoiflacaaGreatDoor
open Go.RowKit Go.Lib Go.Shelf

/-- x behind k signs -/
def deepE : Nat → Ex
  | 0 => .node 2 0 xT []
  | k + 1 => .node 4 0 ⟨#[]⟩ [deepE k]
/-- such an expression's fields; its operands lie behind block x -/
def DeepRow (x : Nat) (w : World) : Nat → Int → ByteArray → Option Addr → Nat → Nat → Prop
  | 0, o, s, A, n, c => o = 2 ∧ s = xT ∧ A = none ∧ n = 0 ∧ c = 0
  | k + 1, o, s, A, n, c => o = 4 ∧ s = ⟨#[]⟩ ∧ n = 1 ∧ c = 1 ∧ ∃ (blk : Nat) (o' : Int) (s' : ByteArray) (A' : Option Addr) (n' c' : Nat), A = some ⟨blk, 0, none⟩ ∧ x < blk ∧
      w.heap[blk]? = some (.cells #[.int .i64 o', .int .u64 0, .string s', .slice A' n' c'] 26 (0, 0)) ∧ DeepRow x w k o' s' A' n' c'
theorem DeepRow.keep {x : Nat} {w w' : World} (h : ∀ b, x < b → b < w.heap.size → w'.heap[b]? = w.heap[b]?) : ∀ {k : Nat} {o : Int} {s : ByteArray} {A : Option Addr} {n c : Nat}, DeepRow x w k o s A n c → DeepRow x w' k o s A n c
  | 0, _, _, _, _, _, hd => hd
  | k + 1, _, _, _, _, _, ⟨h1, h2, h3, h4, blk, o', s', A', n', c', h5, h6, h7, h8⟩ =>
    ⟨h1, h2, h3, h4, blk, o', s', A', n', c', h5, h6, (h blk h6 (blk_lt h7)).trans h7, DeepRow.keep h h8⟩
theorem DeepRow.fields {x : Nat} {w : World} : ∀ {k : Nat} {o : Int} {s : ByteArray} {A : Option Addr} {n c : Nat}, DeepRow x w k o s A n c → (deepE k).op = o ∧ (deepE k).u = 0 ∧ (deepE k).nm = s ∧ (deepE k).ars.length = n
  | 0, _, _, _, _, _, ⟨h1, h2, _, h4, _⟩ => ⟨h1.symm, rfl, h2.symm, h4.symm⟩
  | k + 1, _, _, _, _, _, ⟨h1, h2, h3, _⟩ => ⟨h1.symm, rfl, h2.symm, h3.symm⟩
theorem DeepRow.ex {x : Nat} {w : World} : ∀ {k : Nat} {o : Int} {s : ByteArray} {A : Option Addr} {n c : Nat}, DeepRow x w k o s A n c → ExAt w (deepE k) A
  | 0, _, _, _, _, _, _ => .mk 0 0 (fun _ => none) (fun _ => 0) (fun h => by simp at h) (fun i y h => by simp at h) (fun i y h => by simp at h) (fun i y h => by simp at h)
  | k + 1, _, _, _, _, _, ⟨_, _, _, _, blk, o', s', A', n', c', h5, _, h7, h8⟩ => by
    obtain ⟨e1, e2, e3, e4⟩ := h8.fields
    have ih := h8.ex
    obtain ⟨b0, b1, b2, b3, _⟩ := box4 h7
    refine .mk blk 0 (fun _ => A') (fun _ => c') (fun _ => h5) (fun i y h => ?_) (fun i y h => ?_) (fun i y h => ?_)
    · obtain ⟨rfl, rfl⟩ : i = 0 ∧ y = deepE k := by
        cases i with
        | zero => exact ⟨rfl, (Option.some.inj h).symm⟩
        | succ i => simp at h
      rw [e1, e2, e3, e4]
      exact ⟨by simpa using b0, by simpa using b1, by simpa using b2, by simpa using b3⟩
    · obtain rfl : y = deepE k := by
        cases i with
        | zero => exact (Option.some.inj h).symm
        | succ i => simp at h
      rw [e2]; decide
    · obtain rfl : y = deepE k := by
        cases i with
        | zero => exact (Option.some.inj h).symm
        | succ i => simp at h
      exact ih
theorem cntE_deep : ∀ k, cntE (deepE k) ≤ 3 * k + 3
  | 0 => by decide +kernel
  | k + 1 => by
    have h := cntE_deep k
    rw [deepE, cntE, cntL, cntL]
    have : (⟨#[]⟩ : ByteArray).size = 0 := rfl
    omega
end Go.Proofs.YtnahgfdoiflacaaGreatDoor
