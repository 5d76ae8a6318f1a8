/- A memory's blocks: the regions' slice, the bytes. -/
import Derived.Test.YtageahpgcjnkpaaB
import Derived.Laws.Rows
import Derived.Laws.OwnMore
set_option linter.unusedSimpArgs false
set_option linter.unusedVariables false
namespace Go.Proofs.Ytageahpgcjnkpaa
open Go.RowKit

/-- all bytes of a memory, as cells -/
@[irreducible] def bytes (f : Nat → Int) : Array Value := Array.ofFn (n := 65536) fun i => Value.int .u8 (f i)
theorem bytes_at (f : Nat → Int) (i : Nat) (h : i < 65536) : (bytes f)[i]? = some (.int .u8 (f i)) := by
  unfold bytes
  rw [Array.getElem?_ofFn, dif_pos h]
theorem bytes_size (f : Nat → Int) : (bytes f).size = 65536 := by unfold bytes; exact Array.size_ofFn
def upd (f : Nat → Int) (i : Nat) (v : Int) : Nat → Int := fun k => if k = i then v else f k
theorem bytes_set (f : Nat → Int) (i : Nat) (v : Int) : (bytes f).setIfInBounds i (.int .u8 v) = bytes (upd f i v) := by
  apply Array.ext_getElem?
  intro k
  by_cases hk : k < 65536
  · rw [bytes_at _ _ hk, Array.getElem?_setIfInBounds]
    by_cases h : i = k
    · subst h; rw [if_pos rfl, if_pos (by rw [bytes_size]; exact hk)]; simp [upd]
    · rw [if_neg h, bytes_at _ _ hk]; simp [upd, Ne.symm h]
  · rw [Array.getElem?_eq_none (by rw [Array.size_setIfInBounds, bytes_size]; omega), Array.getElem?_eq_none (by rw [bytes_size]; omega)]
theorem bytes_congr {f g : Nat → Int} (h : ∀ i, i < 65536 → f i = g i) : bytes f = bytes g := by
  apply Array.ext_getElem?
  intro k
  by_cases hk : k < 65536
  · rw [bytes_at _ _ hk, bytes_at _ _ hk, h k hk]
  · rw [Array.getElem?_eq_none (by rw [bytes_size]; omega), Array.getElem?_eq_none (by rw [bytes_size]; omega)]

def isNought (v : Value) : Bool := match v with | .int .u8 (.ofNat 0) => true | _ => false
def allNought : List Value → Bool
  | [] => true
  | v :: l => match isNought v with | true => allNought l | false => false
theorem isNought_eq {v : Value} (h : isNought v = true) : v = .int .u8 0 := by
  unfold isNought at h
  split at h
  · rfl
  · cases h
theorem allNought_eq : ∀ (l : List Value), allNought l = true → ∀ v ∈ l, v = .int .u8 0
  | [], _, v, hv => by cases hv
  | x :: l, h, v, hv => by
    unfold allNought at h
    split at h
    · rename_i hx
      rcases List.mem_cons.1 hv with rfl | hv
      · exact isNought_eq hx
      · exact allNought_eq l h v hv
    · cases h
theorem zeros_all : allNought Try.zeroCells83.toList = true := by kernel_rfl
theorem zeros_eq : Try.zeroCells83 = bytes fun _ => 0 := by
  have h := allNought_eq _ zeros_all
  generalize hz : Try.zeroCells83 = z at h
  have hs : z.size = 65536 := by rw [← hz]; exact Try.zeroCells83_size
  apply Array.ext_getElem?
  intro k
  by_cases hk : k < 65536
  · rw [bytes_at _ _ hk, Array.getElem?_eq_getElem (by omega)]
    exact congrArg some (h _ (Array.getElem_mem_toList _))
  · rw [Array.getElem?_eq_none (by omega), Array.getElem?_eq_none (by rw [bytes_size]; omega)]
theorem zero83 (w : World) : (zeroValue 83).run Try.prog w = .ok (.agg (bytes fun _ => 0)) w := by rw [← zeros_eq]; exact Try.zeroValue83 w

def ByteFn (f : Nat → Int) : Prop := ∀ i, 0 ≤ f i ∧ f i < 256

/-- a memory: block p names the regions' slice and block q, which holds the bytes -/
structure Mem_ (w : World) (p q : Nat) (A : Option Addr) (n cap : Nat) (L : List Reg) (f : Nat → Int) : Prop where
  hp : w.heap[p]? = some (.cells #[.slice A n cap, .pointer (some ⟨q, 0, none⟩)] 72 (0, 0))
  hq : w.heap[q]? = some (.cells (bytes f) 83 (0, 0))
  hr : RegsAt w w.heap.size A n L
  hn : n ≤ 16
  hf : ByteFn f

theorem blk_cell {w : World} {g : Nat} {t : TypeId} {cs : Array Value} (h : w.heap[g]? = some (.cells cs t (0, 0))) (i : Nat) : w.cell? ⟨g, i, none⟩ = cs[i]? := cell_of_row w g i cs t (0, 0) h
theorem blk_frozen {w : World} {g : Nat} {t : TypeId} {cs : Array Value} (h : w.heap[g]? = some (.cells cs t (0, 0))) (i : Nat) : w.frozen? ⟨g, i, none⟩ = false := by simp [World.frozen?, h]
theorem blk_lt {w : World} {g : Nat} {o : Obj} (h : w.heap[g]? = some o) : g < w.heap.size := by
  rcases Nat.lt_or_ge g w.heap.size with hlt | hge
  · exact hlt
  · rw [Array.getElem?_eq_none hge] at h; cases h

section
variable {w w' : World} {p q : Nat} {A : Option Addr} {n cap : Nat} {L : List Reg} {f : Nat → Int}
theorem Mem_.c0 (h : Mem_ w p q A n cap L f) : w.cell? ⟨p, 0, none⟩ = some (.slice A n cap) := by rw [blk_cell h.hp]; rfl
theorem Mem_.c1 (h : Mem_ w p q A n cap L f) : w.cell? ⟨p, 1, none⟩ = some (.pointer (some ⟨q, 0, none⟩)) := by rw [blk_cell h.hp]; rfl
theorem Mem_.byte (h : Mem_ w p q A n cap L f) (i : Nat) (hi : i < 65536) : w.cell? ⟨q, i, none⟩ = some (.int .u8 (f i)) := by rw [blk_cell h.hq, bytes_at _ _ hi]
theorem Mem_.ne (h : Mem_ w p q A n cap L f) : p ≠ q := by
  intro e
  have h1 := h.hp
  have h2 := h.hq
  rw [e, h2] at h1
  injection h1 with h1
  injection h1 with _ ht
  exact absurd ht (by decide)
/-- the regions lie in neither block -/
theorem Mem_.far (h : Mem_ w p q A n cap L f) (hn : 0 < n) : ∃ blk off, A = some ⟨blk, off, none⟩ ∧ blk < w.heap.size ∧ blk ≠ p ∧ blk ≠ q ∧ ∀ i r, L[i]? = some r → RegAt w blk (off + i * 4) r := by
  obtain ⟨hl, hw, hc⟩ := h.hr
  obtain ⟨blk, off, rfl, hb, hi⟩ := hc hn
  refine ⟨blk, off, rfl, hb, ?_, ?_, hi⟩
  · rintro rfl
    have e : L[0]? = some (L[0]'(by omega)) := List.getElem?_eq_getElem (by omega)
    obtain ⟨a, b, c, d⟩ := hi 0 _ e
    rw [blk_cell h.hp] at a d
    have hs : off + 0 * 4 + 3 < 2 := by
      rcases Nat.lt_or_ge (off + 0 * 4 + 3) 2 with k | k
      · exact k
      · rw [Array.getElem?_eq_none (by simp)] at d; cases d
    omega
  · rintro rfl
    have e : L[0]? = some (L[0]'(by omega)) := List.getElem?_eq_getElem (by omega)
    obtain ⟨a, b, c, d⟩ := hi 0 _ e
    rw [blk_cell h.hq] at a
    by_cases hk : off + 0 * 4 < 65536
    · rw [bytes_at _ _ hk] at a; injection a with a; cases a
    · rw [Array.getElem?_eq_none (by rw [bytes_size]; omega)] at a; cases a
theorem Mem_.below (h : Mem_ w p q A n cap L f) (hb : Below w.heap.size w w') : Mem_ w' p q A n cap L f :=
  ⟨(hb.block p (blk_lt h.hp)).trans h.hp, (hb.block q (blk_lt h.hq)).trans h.hq, (h.hr.below hb).more hb.size, h.hn, h.hf⟩
/-- another block has turned alone -/
theorem Mem_.only {g : Nat} (h : Mem_ w p q A n cap L f) (hb : w.grownBy w' (some g)) (h1 : p ≠ g) (h2 : q ≠ g) (h3 : 0 < n → ∀ a, A = some a → a.block ≠ g) : Mem_ w' p q A n cap L f := by
  refine ⟨(hb.block p (blk_lt h.hp) (by simpa using h1)).trans h.hp, (hb.block q (blk_lt h.hq) (by simpa using h2)).trans h.hq, ?_, h.hn, h.hf⟩
  obtain ⟨hl, hw, hc⟩ := h.hr
  refine ⟨hl, hw, fun hn => ?_⟩
  obtain ⟨blk, off, rfl, hb', hi⟩ := hc hn
  have hne := h3 hn _ rfl
  refine ⟨blk, off, rfl, Nat.lt_of_lt_of_le hb' hb.size, fun i r hr => (hi i r hr).keep fun a ha => ?_⟩
  exact World.cell?_of_block (hb.block a.block (by rw [ha]; exact hb') (by rw [ha]; simpa using hne))
/-- its bytes have turned alone -/
theorem Mem_.turn {g : Nat → Int} (h : Mem_ w p q A n cap L f) (hb : w.grownBy w' (some q)) (hq : w'.heap[q]? = some (.cells (bytes g) 83 (0, 0))) (hg : ByteFn g) : Mem_ w' p q A n cap L g := by
  refine ⟨(hb.block p (blk_lt h.hp) (by simp [h.ne])).trans h.hp, hq, ?_, h.hn, hg⟩
  obtain ⟨hl, hw, hc⟩ := h.hr
  refine ⟨hl, hw, fun hn => ?_⟩
  obtain ⟨blk, off, hA, hlt, _, hbq, hi⟩ := h.far hn
  refine ⟨blk, off, hA, Nat.lt_of_lt_of_le hlt hb.size, fun i r hr => (hi i r hr).keep fun a ha => ?_⟩
  exact World.cell?_of_block (hb.block a.block (by rw [ha]; exact hlt) (by rw [ha]; simp [hbq]))
end

theorem run_neq_mem (w : World) (p : Addr) : (binOp .neq 25 (.pointer (some p)) (.pointer none)).run Try.prog w = .ok (.bool true) w := by kernel_rfl
theorem run_neq_arr (w : World) (p : Addr) : (binOp .neq 70 (.pointer (some p)) (.pointer none)).run Try.prog w = .ok (.bool true) w := by kernel_rfl

set_option maxHeartbeats 400000 in
theorem there_any {p q : Nat} {A : Option Addr} {n cap : Nat} {L : List Reg} {f : Nat → Int} (w : World) (h : Mem_ w p q A n cap L f) :
    Calls Try.prog 50 #[.pointer (some ⟨p, 0, none⟩)] w fun e w' => e = .returned (.bool true) ∧ w = w' := by
  have c1 := h.c1
  clear h
  go_enter Try.func50, Try.ntmps50
  go_wp2
  go_ret
  exact ⟨rfl, rfl⟩
set_option maxHeartbeats 400000 in
theorem there_nil (w : World) : Calls Try.prog 50 #[.pointer none] w fun e w' => e = .returned (.bool false) ∧ w = w' := by
  go_enter Try.func50, Try.ntmps50
  go_wp2
  go_ret
  exact ⟨rfl, rfl⟩
set_option maxHeartbeats 400000 in
theorem there_zero (p : Nat) (w : World) (h : w.cell? ⟨p, 1, none⟩ = some (.pointer none)) : Calls Try.prog 50 #[.pointer (some ⟨p, 0, none⟩)] w fun e w' => e = .returned (.bool false) ∧ w = w' := by
  go_enter Try.func50, Try.ntmps50
  go_wp2
  go_ret
  exact ⟨rfl, rfl⟩
end Go.Proofs.Ytageahpgcjnkpaa
