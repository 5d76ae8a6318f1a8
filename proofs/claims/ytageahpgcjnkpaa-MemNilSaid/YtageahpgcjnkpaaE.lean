/- Words of bytes: put. -/
import Derived.Test.YtageahpgcjnkpaaD
set_option linter.unusedSimpArgs false
set_option linter.unusedVariables false
namespace Go.Proofs.Ytageahpgcjnkpaa
open Go.RowKit

def putN (f : Nat → Int) (at_ : Nat) (x : Int) (k : Nat) : Nat → Int := fun i => if at_ ≤ i ∧ i < at_ + k then x / 256 ^ (i - at_) % 256 else f i
def put8 (f : Nat → Int) (at_ : Nat) (x : Int) : Nat → Int := putN f at_ x 8
theorem putN_0 (f : Nat → Int) (at_ : Nat) (x : Int) : putN f at_ x 0 = f := by funext i; unfold putN; rw [if_neg (by omega)]
theorem putN_succ (f : Nat → Int) (at_ : Nat) (x : Int) (k : Nat) : putN f at_ x (k + 1) = upd (putN f at_ x k) (at_ + k) (x / 256 ^ k % 256) := by
  funext i
  unfold upd putN
  by_cases h : i = at_ + k
  · subst h; rw [if_pos (by omega), if_pos rfl, show at_ + k - at_ = k from by omega]
  · rw [if_neg h]
    by_cases h2 : at_ ≤ i ∧ i < at_ + k
    · rw [if_pos h2, if_pos (by omega)]
    · rw [if_neg h2, if_neg (by omega)]
theorem putN_byte {f : Nat → Int} (hf : ByteFn f) (at_ : Nat) (x : Int) (k : Nat) : ByteFn (putN f at_ x k) := by
  intro i
  unfold putN
  split
  · exact ⟨Int.emod_nonneg _ (by omega), Int.emod_lt_of_pos _ (by omega)⟩
  · exact hf i

theorem grown_drew {a w : World} {row : Option Nat} (h : a.grownBy w row) : a.grownBy w.drew row := ⟨h.os, h.tape, h.output, h.size, h.block⟩
theorem grown_drewN {a w : World} {row : Option Nat} (h : a.grownBy w row) (n : Nat) : a.grownBy (w.drewN n) row := ⟨h.os, h.tape, h.output, h.size, h.block⟩
theorem grown_set {a w : World} {g : Nat} (h : a.grownBy w (some g)) {p : Addr} (hp : p.block = g ∨ a.heap.size ≤ p.block) (u : Value) : a.grownBy (w.setCell p u) (some g) :=
  ⟨h.os, h.tape, h.output, by simpa [World.setCell] using h.size, fun i hi hne => (Below.heap_setCell w p u i (by
    rintro rfl
    rcases hp with hp | hp
    · exact hne (by rw [hp])
    · omega)).trans (h.block i hi hne)⟩
theorem grown_alloc {a w : World} {row : Option Nat} (h : a.grownBy w row) (o : Obj) : a.grownBy (w.alloc o) row :=
  ⟨h.os, h.tape, h.output, Nat.le_trans h.size (by simp), fun i hi hne => (Below.heap_alloc w o i (Nat.lt_of_lt_of_le hi h.size)).trans (h.block i hi hne)⟩
theorem grown_of_below {a w : World} (h : Below a.heap.size a w) (row : Option Nat) : a.grownBy w row := ⟨h.os, h.tape, h.output, h.size, fun i hi _ => h.block i hi⟩

def PutPost (w : World) (q : Nat) (g : Nat → Int) (e : Ending) (w' : World) : Prop :=
  e = .returned (.tuple #[]) ∧ w'.heap[q]? = some (.cells (bytes g) 83 (0, 0)) ∧ w.grownBy w' (some q)

set_option maxRecDepth 100000 in
set_option maxHeartbeats 1000000 in
theorem put_any {p q : Nat} {A : Option Addr} {n cap : Nat} {L : List Reg} {f : Nat → Int} (at_ : Nat) (x : Int) (w : World) (h : Mem_ w p q A n cap L f) (hat : at_ + 8 ≤ 65536) (hx0 : 0 ≤ x) (hx1 : x < 18446744073709551616) :
    Calls Try.prog 47 #[.pointer (some ⟨p, 0, none⟩), .int .i64 at_, .int .u64 x] w (PutPost w q (put8 f at_ x)) := by
  have H := Lib.hid h
  clear h
  go_enter Try.func47, Try.ntmps47
  go_wp2
  go_loopw [7] (fun i wr => ∃ k : Nat, k ≤ 8 ∧ i = .int .i64 k ∧ wr.heap[q]? = some (.cells (bytes (putN f at_ x k)) 83 (0, 0)) ∧ w.grownBy wr (some q)) (fun i _ => 8 - (intOf i).toNat)
  case atStart => exact ⟨0, by omega, rfl, by rw [putN_0]; exact H.out.hq, World.grownBy.refl w _⟩
  case round =>
    obtain ⟨k, hk, rfl, hq, hg⟩ := hrel
    by_cases hlt : k < 8
    · have c1 : wr.cell? ⟨p, 1, none⟩ = some (.pointer (some ⟨q, 0, none⟩)) := (World.cell?_of_block (hg.block p (blk_lt H.out.hp) (by simp [H.out.ne]))).trans H.out.c1
      have hb : wr.cell? ⟨q, at_ + k, none⟩ = some (.int .u8 (putN f at_ x k (at_ + k))) := by rw [blk_cell hq, bytes_at _ _ (by omega)]
      have hz : wr.frozen? ⟨q, at_ + k, none⟩ = false := blk_frozen hq _
      have hq' := Lib.hid hq
      have hg' := Lib.hid hg
      clear hq hg
      go_wp2
      go_region
      go_wp2
      go_roundw
      case rel =>
        refine ⟨k + 1, by omega, by go_num, ?_, grown_drew (grown_set hg'.out (.inl rfl) _)⟩
        have e : (2 : Int) ^ (8 * k) = 256 ^ k := by rw [Int.pow_mul]; rfl
        show (wr.setCell ⟨q, at_ + k, none⟩ _).heap[q]? = _
        rw [heap_setCell_same _ _ _ _ _ _ hq'.out, bytes_set, putN_succ, e]
      case measure => simp [intOf]; omega
    · obtain rfl : k = 8 := by omega
      have hq' := Lib.hid hq
      have hg' := Lib.hid hg
      clear hq hg
      go_wp2
      go_end0
      exact ⟨rfl, hq'.out, hg'.out⟩
end Go.Proofs.Ytageahpgcjnkpaa
