/- Memories (turned by program from the texts of their own chapter): which regions may be, a new memory, one that words are put into; the reference's. -/
import Derived.Test.YtkbmckmlnphpmaaGreatDoorBJ
import Derived.Laws.OwnMore
import Derived.Deep.LoopGhost
import Derived.Maps.AppendAt
import Derived.Lib.BufferMore
import Derived.Laws.BitsAllLaws
import Derived.Deep.QuietTactic
import Derived.BigQuiet
import Derived.Deep.RegionWith
import Derived.ChangeKeysEq
set_option linter.unusedSimpArgs false
set_option linter.unusedVariables false
namespace Go.Proofs.YtkbmckmlnphpmaaGreatDoor.Me
open Go.RowKit


/-- a region -/
structure Reg where
  name : ByteArray
  addr : Int
  size : Int
  sec : Bool
instance : Inhabited Reg := ⟨⟨⟨#[]⟩, 0, 0, false⟩⟩

def Reg.val (r : Reg) : Value := .agg #[.string r.name, .int .i64 r.addr, .int .i64 r.size, .bool r.sec]
def Reg.cells (r : Reg) : List Value := [.string r.name, .int .i64 r.addr, .int .i64 r.size, .bool r.sec]
/-- its fields are of their types -/
def Reg.Wf (r : Reg) : Prop := (-9223372036854775808 ≤ r.addr ∧ r.addr ≤ 9223372036854775807) ∧ (-9223372036854775808 ≤ r.size ∧ r.size ≤ 9223372036854775807) ∧ r.name.size ≤ 9223372036854775807

def Reg.end_ (r : Reg) : Int := r.addr + 8 * r.size
/-- a region that may be, by itself -/
def mayB (r : Reg) : Bool := decide (1 ≤ r.name.size) && decide (r.name.size ≤ 16) && decide (1 ≤ r.size) && decide (r.size ≤ 512) && decide (0 ≤ r.addr) && decide (r.addr % 8 = 0) && decide (r.addr ≤ 49152 - 8 * r.size)
/-- two that can't be together -/
def meetB (a b : Reg) : Bool := (a.name.toList == b.name.toList) || (decide (a.addr < b.end_) && decide (b.addr < a.end_))
def mayAt (L : List Reg) (i : Nat) : Bool := mayB (L.getD i default) && (List.range i).all fun k => !(meetB (L.getD i default) (L.getD k default))
def mayL (L : List Reg) : Bool := decide (L.length ≤ 16) && (List.range L.length).all (mayAt L)

theorem mayB_iff (r : Reg) : mayB r = true ↔ (1 ≤ r.name.size ∧ r.name.size ≤ 16 ∧ 1 ≤ r.size ∧ r.size ≤ 512 ∧ 0 ≤ r.addr ∧ r.addr % 8 = 0 ∧ r.addr ≤ 49152 - 8 * r.size) := by
  simp [mayB, and_assoc]

/-- a region's cells from an offset of a block on -/
def RegAt (w : World) (blk o : Nat) (r : Reg) : Prop :=
  w.cell? ⟨blk, o, none⟩ = some (.string r.name) ∧ w.cell? ⟨blk, o + 1, none⟩ = some (.int .i64 r.addr) ∧ w.cell? ⟨blk, o + 2, none⟩ = some (.int .i64 r.size) ∧ w.cell? ⟨blk, o + 3, none⟩ = some (.bool r.sec)
/-- a slice that reads as regions, its block below B -/
def RegsAt (w : World) (B : Nat) (A : Option Addr) (n : Nat) (L : List Reg) : Prop :=
  L.length = n ∧ (∀ r ∈ L, r.Wf) ∧ (0 < n → ∃ blk off, A = some ⟨blk, off, none⟩ ∧ blk < B ∧ ∀ i r, L[i]? = some r → RegAt w blk (off + i * 4) r)

theorem RegAt.keep {w w' : World} {blk o : Nat} {r : Reg} (h : RegAt w blk o r) (hk : ∀ p : Addr, p.block = blk → w'.cell? p = w.cell? p) : RegAt w' blk o r :=
  ⟨(hk _ rfl).trans h.1, (hk _ rfl).trans h.2.1, (hk _ rfl).trans h.2.2.1, (hk _ rfl).trans h.2.2.2⟩
theorem RegAt.below {w w' : World} {B blk o : Nat} {r : Reg} (h : RegAt w blk o r) (hb : Below B w w') (hlt : blk < B) : RegAt w' blk o r := h.keep fun p hp => hb.cell (by rw [hp]; exact hlt)
theorem RegsAt.keep {w w' : World} {B n : Nat} {A : Option Addr} {L : List Reg} (h : RegsAt w B A n L) (hk : ∀ p : Addr, p.block < B → w'.cell? p = w.cell? p) : RegsAt w' B A n L := by
  obtain ⟨hl, hw, hc⟩ := h
  refine ⟨hl, hw, fun hn => ?_⟩
  obtain ⟨blk, off, rfl, hb, hi⟩ := hc hn
  exact ⟨blk, off, rfl, hb, fun i r hr => (hi i r hr).keep fun p hp => hk p (by rw [hp]; exact hb)⟩
theorem RegsAt.below {w w' : World} {B n : Nat} {A : Option Addr} {L : List Reg} (h : RegsAt w B A n L) (hb : Below B w w') : RegsAt w' B A n L := h.keep fun p hp => hb.cell hp
theorem RegsAt.more {w : World} {B B' n : Nat} {A : Option Addr} {L : List Reg} (h : RegsAt w B A n L) (hB : B ≤ B') : RegsAt w B' A n L := by
  obtain ⟨hl, hw, hc⟩ := h
  refine ⟨hl, hw, fun hn => ?_⟩
  obtain ⟨blk, off, rfl, hb, hi⟩ := hc hn
  exact ⟨blk, off, rfl, by omega, hi⟩
theorem RegsAt.at_ {w : World} {B n k : Nat} {A : Option Addr} {L : List Reg} (h : RegsAt w B A n L) (hk : k < n) :
    ∃ blk off r, A = some ⟨blk, off, none⟩ ∧ blk < B ∧ L[k]? = some r ∧ RegAt w blk (off + k * 4) r ∧ r.Wf := by
  obtain ⟨hl, hw, hc⟩ := h
  obtain ⟨blk, off, rfl, hb, hi⟩ := hc (by omega)
  have e : L[k]? = some (L[k]'(by omega)) := List.getElem?_eq_getElem (by omega)
  exact ⟨blk, off, _, rfl, hb, e, hi k _ e, hw _ (List.mem_of_getElem? e)⟩

theorem ret_int {k : IntKind} {a b : Int} (h : a = b) : Ending.returned (.int k a) = .returned (.int k b) := by rw [h]
theorem ret_bool {a b : Bool} (h : a = b) : Ending.returned (.bool a) = .returned (.bool b) := by rw [h]
theorem below_drewN {B : Nat} {a w : World} (h : Below B a w) (n : Nat) : Below B a (w.drewN n) := ⟨h.os, h.tape, h.output, h.size, h.block⟩
theorem Below.next {w w1 w2 : World} (h : Below w.heap.size w w1) (h2 : Below w1.heap.size w1 w2) : Below w.heap.size w w2 := h.trans (h2.mono h.size)
theorem Below.after {w w1 w2 : World} {o : Obj} (h : Below w.heap.size w w1) (h2 : Below (w1.alloc o).heap.size (w1.alloc o) w2) : Below w.heap.size w w2 := Below.next (h.alloc h.size o) h2
theorem bcell {W w1 : World} (hb : Below W.heap.size W w1) : (∀ b o, b < W.heap.size → w1.cell? ⟨b, o, none⟩ = W.cell? ⟨b, o, none⟩) ∧ (∀ b o, b < W.heap.size → w1.frozen? ⟨b, o, none⟩ = W.frozen? ⟨b, o, none⟩) :=
  ⟨fun b o h => hb.cell (p := ⟨b, o, none⟩) h, fun b o h => hb.frozen (p := ⟨b, o, none⟩) h⟩



/-- the worlds that have grown out of w -/
def Sub (w : World) : Type := { w' : World // Below w.heap.size w w' }
instance (w : World) : Nonempty (Sub w) := ⟨⟨w, Below.refl _ _⟩⟩
theorem wp_region_below {P : Program} {id : Nat} {Q : Exit → Act → World → Prop} {a : Act} {w : World} {l : List Oper} (hm : P.follows .mixedOrders = true) (hB : Region.lexB .any l.toArray = true)
    (h : wpQuiet P l.toArray (fun w' => ∃ s : Sub w, w' = s.val) (fun a' => ∀ w', (∃ s : Sub w, w' = s.val) → Q .normal a' w') l a) : (Code.region id l.toArray true).wp P Q a w :=
  wp_region_quiet (C := fun w' => ∃ s : Sub w, w' = s.val) hm hB ⟨⟨{ w with drawn := w.drawn + 1 }, (Below.refl _ _).drew⟩, rfl⟩ (by simpa using h)
theorem Sub.cell {w : World} {b o : Nat} {v : Value} (h : w.cell? ⟨b, o, none⟩ = some v) : ∀ s : Sub w, s.val.cell? ⟨b, o, none⟩ = some v :=
  fun s => (s.property.cell (p := ⟨b, o, none⟩) (World.block_lt_of_cell? w _ h)).trans h
theorem Sub.call {P : Program} {f : FuncId} {args : Array Value} {w : World} {s : Sub w} {v : Value} (h : Calls P f args s.val fun e w' => e = .returned v ∧ Below s.val.heap.size s.val w') :
    Calls P f args s.val fun e w'' => e = .returned v ∧ ∃ t : Sub w, w'' = t.val :=
  h.mono fun _ w'' ⟨he, hb⟩ => ⟨he, ⟨w'', Below.next s.property hb⟩, rfl⟩
/-- a region in a block of its own -/
def Box4 (w : World) (b : Nat) (r : Reg) : Prop :=
  w.cell? ⟨b, 0, none⟩ = some (.string r.name) ∧ w.cell? ⟨b, 1, none⟩ = some (.int .i64 r.addr) ∧ w.cell? ⟨b, 2, none⟩ = some (.int .i64 r.size) ∧ w.cell? ⟨b, 3, none⟩ = some (.bool r.sec)
theorem Box4.sub {w : World} {b : Nat} {r : Reg} (h : Box4 w b r) : (∀ s : Sub w, s.val.cell? ⟨b, 0, none⟩ = some (.string r.name)) ∧ (∀ s : Sub w, s.val.cell? ⟨b, 1, none⟩ = some (.int .i64 r.addr)) ∧
    (∀ s : Sub w, s.val.cell? ⟨b, 2, none⟩ = some (.int .i64 r.size)) ∧ (∀ s : Sub w, s.val.cell? ⟨b, 3, none⟩ = some (.bool r.sec)) :=
  ⟨Sub.cell h.1, Sub.cell h.2.1, Sub.cell h.2.2.1, Sub.cell h.2.2.2⟩
theorem Box4.below {w w' : World} {B b : Nat} {r : Reg} (h : Box4 w b r) (hb : Below B w w') (hlt : b < B) : Box4 w' b r :=
  ⟨(hb.cell (p := ⟨b, 0, none⟩) hlt).trans h.1, (hb.cell (p := ⟨b, 1, none⟩) hlt).trans h.2.1, (hb.cell (p := ⟨b, 2, none⟩) hlt).trans h.2.2.1, (hb.cell (p := ⟨b, 3, none⟩) hlt).trans h.2.2.2⟩
theorem box4_of {w : World} {b : Nat} {r : Reg} {t : TypeId} (h : w.heap[b]? = some (.cells #[.string r.name, .int .i64 r.addr, .int .i64 r.size, .bool r.sec] t (0, 0))) : Box4 w b r := by
  refine ⟨?_, ?_, ?_, ?_⟩ <;> (rw [cell_of_row _ _ _ _ _ _ h]; rfl)
theorem box4_new (w : World) (r : Reg) (t : TypeId) : Box4 (w.alloc (.cells #[.string r.name, .int .i64 r.addr, .int .i64 r.size, .bool r.sec] t)) w.heap.size r := box4_of (heap_alloc_new w _)

def boxReg (r : Reg) : Obj := .cells #[.string r.name, .int .i64 r.addr, .int .i64 r.size, .bool r.sec] 123

set_option maxHeartbeats 400000 in
theorem end_any (r : Reg) (w : World) (h0 : 0 ≤ r.addr) (h1 : r.addr ≤ 100000) (h2 : 0 ≤ r.size) (h3 : r.size ≤ 100000) : Calls Tryz.prog 143 #[r.val] w fun e w' =>
    e = .returned (.int .i64 r.end_) ∧ Below w.heap.size w w' := by
  obtain ⟨nm, a, s, b⟩ := r
  dsimp only at h0 h1 h2 h3
  unfold Reg.val Reg.end_
  go_enter Tryz.func143, Tryz.ntmps143
  go_wp2
  go_ret
  exact ⟨rfl, (Below.refl _ _).alloc (Nat.le_refl _) _⟩

set_option maxHeartbeats 1000000 in
theorem may_any (r : Reg) (w : World) (hr : r.Wf) : Calls Tryz.prog 142 #[r.val] w fun e w' =>
    e = .returned (.bool (mayB r)) ∧ w' = w.alloc (boxReg r) := by
  obtain ⟨nm, a, s, b⟩ := r
  obtain ⟨⟨ha, hb⟩, ⟨hs, ht⟩, hn⟩ := hr
  dsimp only at ha hb hs ht hn
  unfold Reg.val mayB
  dsimp only
  go_enter Tryz.func142, Tryz.ntmps142
  go_wp2
  all_goals go_ret
  all_goals refine ⟨ret_bool ?_, rfl⟩
  all_goals (rw [Bool.eq_iff_iff]; simp only [Bool.and_eq_true, decide_eq_true_eq, Bool.false_eq_true, false_iff, not_and]; first | omega | (simp at *; omega))



/-- all bytes of a memory, as cells -/
@[irreducible] def bytes (f : Nat → Int) : Array Value := Array.ofFn (n := 65536) fun i => Value.int .u8 (f i)
theorem bytes_at (f : Nat → Int) (i : Nat) (h : i < 65536) : (bytes f)[i]? = some (.int .u8 (f i)) := by
  unfold bytes
  rw [Array.getElem?_ofFn, dif_pos h]
theorem bytes_size (f : Nat → Int) : (bytes f).size = 65536 := by unfold bytes; exact Array.size_ofFn
def upd (f : Nat → Int) (i : Nat) (v : Int) : Nat → Int := fun k => if k = i then v else f k
theorem bytes_set (f : Nat → Int) (i : Nat) (v : Int) : (bytes f).setIfInBounds i (.int .u8 v) = bytes (upd f i v) := by
  apply Array.ext_getElem?
  intro k
  by_cases hk : k < 65536
  · rw [bytes_at _ _ hk, Array.getElem?_setIfInBounds]
    by_cases h : i = k
    · subst h; rw [if_pos rfl, if_pos (by rw [bytes_size]; exact hk)]; simp [upd]
    · rw [if_neg h, bytes_at _ _ hk]; simp [upd, Ne.symm h]
  · rw [Array.getElem?_eq_none (by rw [Array.size_setIfInBounds, bytes_size]; omega), Array.getElem?_eq_none (by rw [bytes_size]; omega)]
theorem bytes_congr {f g : Nat → Int} (h : ∀ i, i < 65536 → f i = g i) : bytes f = bytes g := by
  apply Array.ext_getElem?
  intro k
  by_cases hk : k < 65536
  · rw [bytes_at _ _ hk, bytes_at _ _ hk, h k hk]
  · rw [Array.getElem?_eq_none (by rw [bytes_size]; omega), Array.getElem?_eq_none (by rw [bytes_size]; omega)]

def isNought (v : Value) : Bool := match v with | .int .u8 (.ofNat 0) => true | _ => false
def allNought : List Value → Bool
  | [] => true
  | v :: l => match isNought v with | true => allNought l | false => false
theorem isNought_eq {v : Value} (h : isNought v = true) : v = .int .u8 0 := by
  unfold isNought at h
  split at h
  · rfl
  · cases h
theorem allNought_eq : ∀ (l : List Value), allNought l = true → ∀ v ∈ l, v = .int .u8 0
  | [], _, v, hv => by cases hv
  | x :: l, h, v, hv => by
    unfold allNought at h
    split at h
    · rename_i hx
      rcases List.mem_cons.1 hv with rfl | hv
      · exact isNought_eq hx
      · exact allNought_eq l h v hv
    · cases h
theorem zeros_all : allNought Tryz.zeroCells162.toList = true := by kernel_rfl
theorem zeros_eq : Tryz.zeroCells162 = bytes fun _ => 0 := by
  have h := allNought_eq _ zeros_all
  generalize hz : Tryz.zeroCells162 = z at h
  have hs : z.size = 65536 := by rw [← hz]; exact Tryz.zeroCells162_size
  apply Array.ext_getElem?
  intro k
  by_cases hk : k < 65536
  · rw [bytes_at _ _ hk, Array.getElem?_eq_getElem (by omega)]
    exact congrArg some (h _ (Array.getElem_mem_toList _))
  · rw [Array.getElem?_eq_none (by omega), Array.getElem?_eq_none (by rw [bytes_size]; omega)]
theorem zero83 (w : World) : (zeroValue 162).run Tryz.prog w = .ok (.agg (bytes fun _ => 0)) w := by rw [← zeros_eq]; exact Tryz.zeroValue162 w

def ByteFn (f : Nat → Int) : Prop := ∀ i, 0 ≤ f i ∧ f i < 256

/-- a memory: block p names the regions' slice and block q, which holds the bytes -/
structure Mem_ (w : World) (p q : Nat) (A : Option Addr) (n cap : Nat) (L : List Reg) (f : Nat → Int) : Prop where
  hp : w.heap[p]? = some (.cells #[.slice A n cap, .pointer (some ⟨q, 0, none⟩)] 164 (0, 0))
  hq : w.heap[q]? = some (.cells (bytes f) 162 (0, 0))
  hr : RegsAt w w.heap.size A n L
  hn : n ≤ 16
  hf : ByteFn f

theorem blk_cell {w : World} {g : Nat} {t : TypeId} {cs : Array Value} (h : w.heap[g]? = some (.cells cs t (0, 0))) (i : Nat) : w.cell? ⟨g, i, none⟩ = cs[i]? := cell_of_row w g i cs t (0, 0) h
theorem blk_frozen {w : World} {g : Nat} {t : TypeId} {cs : Array Value} (h : w.heap[g]? = some (.cells cs t (0, 0))) (i : Nat) : w.frozen? ⟨g, i, none⟩ = false := by simp [World.frozen?, h]
theorem blk_lt {w : World} {g : Nat} {o : Obj} (h : w.heap[g]? = some o) : g < w.heap.size := by
  rcases Nat.lt_or_ge g w.heap.size with hlt | hge
  · exact hlt
  · rw [Array.getElem?_eq_none hge] at h; cases h

section
variable {w w' : World} {p q : Nat} {A : Option Addr} {n cap : Nat} {L : List Reg} {f : Nat → Int}
theorem Mem_.c0 (h : Mem_ w p q A n cap L f) : w.cell? ⟨p, 0, none⟩ = some (.slice A n cap) := by rw [blk_cell h.hp]; rfl
theorem Mem_.c1 (h : Mem_ w p q A n cap L f) : w.cell? ⟨p, 1, none⟩ = some (.pointer (some ⟨q, 0, none⟩)) := by rw [blk_cell h.hp]; rfl
theorem Mem_.byte (h : Mem_ w p q A n cap L f) (i : Nat) (hi : i < 65536) : w.cell? ⟨q, i, none⟩ = some (.int .u8 (f i)) := by rw [blk_cell h.hq, bytes_at _ _ hi]
theorem Mem_.ne (h : Mem_ w p q A n cap L f) : p ≠ q := by
  intro e
  have h1 := h.hp
  have h2 := h.hq
  rw [e, h2] at h1
  injection h1 with h1
  injection h1 with _ ht
  exact absurd ht (by decide)
/-- the regions lie in neither block -/
theorem Mem_.far (h : Mem_ w p q A n cap L f) (hn : 0 < n) : ∃ blk off, A = some ⟨blk, off, none⟩ ∧ blk < w.heap.size ∧ blk ≠ p ∧ blk ≠ q ∧ ∀ i r, L[i]? = some r → RegAt w blk (off + i * 4) r := by
  obtain ⟨hl, hw, hc⟩ := h.hr
  obtain ⟨blk, off, rfl, hb, hi⟩ := hc hn
  refine ⟨blk, off, rfl, hb, ?_, ?_, hi⟩
  · rintro rfl
    have e : L[0]? = some (L[0]'(by omega)) := List.getElem?_eq_getElem (by omega)
    obtain ⟨a, b, c, d⟩ := hi 0 _ e
    rw [blk_cell h.hp] at a d
    have hs : off + 0 * 4 + 3 < 2 := by
      rcases Nat.lt_or_ge (off + 0 * 4 + 3) 2 with k | k
      · exact k
      · rw [Array.getElem?_eq_none (by simp)] at d; cases d
    omega
  · rintro rfl
    have e : L[0]? = some (L[0]'(by omega)) := List.getElem?_eq_getElem (by omega)
    obtain ⟨a, b, c, d⟩ := hi 0 _ e
    rw [blk_cell h.hq] at a
    by_cases hk : off + 0 * 4 < 65536
    · rw [bytes_at _ _ hk] at a; injection a with a; cases a
    · rw [Array.getElem?_eq_none (by rw [bytes_size]; omega)] at a; cases a
theorem Mem_.below (h : Mem_ w p q A n cap L f) (hb : Below w.heap.size w w') : Mem_ w' p q A n cap L f :=
  ⟨(hb.block p (blk_lt h.hp)).trans h.hp, (hb.block q (blk_lt h.hq)).trans h.hq, (h.hr.below hb).more hb.size, h.hn, h.hf⟩
/-- another block has turned alone -/
theorem Mem_.only {g : Nat} (h : Mem_ w p q A n cap L f) (hb : w.grownBy w' (some g)) (h1 : p ≠ g) (h2 : q ≠ g) (h3 : 0 < n → ∀ a, A = some a → a.block ≠ g) : Mem_ w' p q A n cap L f := by
  refine ⟨(hb.block p (blk_lt h.hp) (by simpa using h1)).trans h.hp, (hb.block q (blk_lt h.hq) (by simpa using h2)).trans h.hq, ?_, h.hn, h.hf⟩
  obtain ⟨hl, hw, hc⟩ := h.hr
  refine ⟨hl, hw, fun hn => ?_⟩
  obtain ⟨blk, off, rfl, hb', hi⟩ := hc hn
  have hne := h3 hn _ rfl
  refine ⟨blk, off, rfl, Nat.lt_of_lt_of_le hb' hb.size, fun i r hr => (hi i r hr).keep fun a ha => ?_⟩
  exact World.cell?_of_block (hb.block a.block (by rw [ha]; exact hb') (by rw [ha]; simpa using hne))
/-- its bytes have turned alone -/
theorem Mem_.turn {g : Nat → Int} (h : Mem_ w p q A n cap L f) (hb : w.grownBy w' (some q)) (hq : w'.heap[q]? = some (.cells (bytes g) 162 (0, 0))) (hg : ByteFn g) : Mem_ w' p q A n cap L g := by
  refine ⟨(hb.block p (blk_lt h.hp) (by simp [h.ne])).trans h.hp, hq, ?_, h.hn, hg⟩
  obtain ⟨hl, hw, hc⟩ := h.hr
  refine ⟨hl, hw, fun hn => ?_⟩
  obtain ⟨blk, off, hA, hlt, _, hbq, hi⟩ := h.far hn
  refine ⟨blk, off, hA, Nat.lt_of_lt_of_le hlt hb.size, fun i r hr => (hi i r hr).keep fun a ha => ?_⟩
  exact World.cell?_of_block (hb.block a.block (by rw [ha]; exact hlt) (by rw [ha]; simp [hbq]))
end




def putN (f : Nat → Int) (at_ : Nat) (x : Int) (k : Nat) : Nat → Int := fun i => if at_ ≤ i ∧ i < at_ + k then x / 256 ^ (i - at_) % 256 else f i
def put8 (f : Nat → Int) (at_ : Nat) (x : Int) : Nat → Int := putN f at_ x 8
theorem putN_0 (f : Nat → Int) (at_ : Nat) (x : Int) : putN f at_ x 0 = f := by funext i; unfold putN; rw [if_neg (by omega)]
theorem putN_succ (f : Nat → Int) (at_ : Nat) (x : Int) (k : Nat) : putN f at_ x (k + 1) = upd (putN f at_ x k) (at_ + k) (x / 256 ^ k % 256) := by
  funext i
  unfold upd putN
  by_cases h : i = at_ + k
  · subst h; rw [if_pos (by omega), if_pos rfl, show at_ + k - at_ = k from by omega]
  · rw [if_neg h]
    by_cases h2 : at_ ≤ i ∧ i < at_ + k
    · rw [if_pos h2, if_pos (by omega)]
    · rw [if_neg h2, if_neg (by omega)]
theorem putN_byte {f : Nat → Int} (hf : ByteFn f) (at_ : Nat) (x : Int) (k : Nat) : ByteFn (putN f at_ x k) := by
  intro i
  unfold putN
  split
  · exact ⟨Int.emod_nonneg _ (by omega), Int.emod_lt_of_pos _ (by omega)⟩
  · exact hf i

theorem grown_drew {a w : World} {row : Option Nat} (h : a.grownBy w row) : a.grownBy w.drew row := ⟨h.os, h.tape, h.output, h.size, h.block⟩
theorem grown_drewN {a w : World} {row : Option Nat} (h : a.grownBy w row) (n : Nat) : a.grownBy (w.drewN n) row := ⟨h.os, h.tape, h.output, h.size, h.block⟩
theorem grown_set {a w : World} {g : Nat} (h : a.grownBy w (some g)) {p : Addr} (hp : p.block = g ∨ a.heap.size ≤ p.block) (u : Value) : a.grownBy (w.setCell p u) (some g) :=
  ⟨h.os, h.tape, h.output, by simpa [World.setCell] using h.size, fun i hi hne => (Below.heap_setCell w p u i (by
    rintro rfl
    rcases hp with hp | hp
    · exact hne (by rw [hp])
    · omega)).trans (h.block i hi hne)⟩
theorem grown_alloc {a w : World} {row : Option Nat} (h : a.grownBy w row) (o : Obj) : a.grownBy (w.alloc o) row :=
  ⟨h.os, h.tape, h.output, Nat.le_trans h.size (by simp), fun i hi hne => (Below.heap_alloc w o i (Nat.lt_of_lt_of_le hi h.size)).trans (h.block i hi hne)⟩
theorem grown_of_below {a w : World} (h : Below a.heap.size a w) (row : Option Nat) : a.grownBy w row := ⟨h.os, h.tape, h.output, h.size, fun i hi _ => h.block i hi⟩

def PutPost (w : World) (q : Nat) (g : Nat → Int) (e : Ending) (w' : World) : Prop :=
  e = .returned (.tuple #[]) ∧ w'.heap[q]? = some (.cells (bytes g) 162 (0, 0)) ∧ w.grownBy w' (some q)

set_option maxRecDepth 100000 in
set_option maxHeartbeats 1000000 in
theorem put_any {p q : Nat} {A : Option Addr} {n cap : Nat} {L : List Reg} {f : Nat → Int} (at_ : Nat) (x : Int) (w : World) (h : Mem_ w p q A n cap L f) (hat : at_ + 8 ≤ 65536) (hx0 : 0 ≤ x) (hx1 : x < 18446744073709551616) :
    Calls Tryz.prog 101 #[.pointer (some ⟨p, 0, none⟩), .int .i64 at_, .int .u64 x] w (PutPost w q (put8 f at_ x)) := by
  have H := Lib.hid h
  clear h
  go_enter Tryz.func101, Tryz.ntmps101
  go_wp2
  go_loopw [7] (fun i wr => ∃ k : Nat, k ≤ 8 ∧ i = .int .i64 k ∧ wr.heap[q]? = some (.cells (bytes (putN f at_ x k)) 162 (0, 0)) ∧ w.grownBy wr (some q)) (fun i _ => 8 - (intOf i).toNat)
  case atStart => exact ⟨0, by omega, rfl, by rw [putN_0]; exact H.out.hq, World.grownBy.refl w _⟩
  case round =>
    obtain ⟨k, hk, rfl, hq, hg⟩ := hrel
    by_cases hlt : k < 8
    · have c1 : wr.cell? ⟨p, 1, none⟩ = some (.pointer (some ⟨q, 0, none⟩)) := (World.cell?_of_block (hg.block p (blk_lt H.out.hp) (by simp [H.out.ne]))).trans H.out.c1
      have hb : wr.cell? ⟨q, at_ + k, none⟩ = some (.int .u8 (putN f at_ x k (at_ + k))) := by rw [blk_cell hq, bytes_at _ _ (by omega)]
      have hz : wr.frozen? ⟨q, at_ + k, none⟩ = false := blk_frozen hq _
      have hq' := Lib.hid hq
      have hg' := Lib.hid hg
      clear hq hg
      go_wp2
      go_region
      go_wp2
      go_roundw
      case rel =>
        refine ⟨k + 1, by omega, by go_num, ?_, grown_drew (grown_set hg'.out (.inl rfl) _)⟩
        have e : (2 : Int) ^ (8 * k) = 256 ^ k := by rw [Int.pow_mul]; rfl
        show (wr.setCell ⟨q, at_ + k, none⟩ _).heap[q]? = _
        rw [heap_setCell_same _ _ _ _ _ _ hq'.out, bytes_set, putN_succ, e]
      case measure => simp [intOf]; omega
    · obtain rfl : k = 8 := by omega
      have hq' := Lib.hid hq
      have hg' := Lib.hid hg
      clear hq hg
      go_wp2
      go_end0
      exact ⟨rfl, hq'.out, hg'.out⟩



def Flag (b : Bool) (w : World) (e : Ending) (w' : World) : Prop := e = .returned (.bool b) ∧ Below w.heap.size w w'

set_option maxHeartbeats 1000000 in
theorem may_many (A : Option Addr) (n cap : Nat) (L : List Reg) (w : World) (hl : L.length = n) (hn : 16 < n) (hm : n ≤ 9223372036854775807) : Calls Tryz.prog 120 #[.slice A n cap] w (Flag (mayL L) w) := by
  have e : mayL L = false := by unfold mayL; rw [decide_eq_false (by omega)]; rfl
  rw [e]
  have hd : decide ((16 : Int) < (n : Int)) = true := by simp; omega
  clear e hl
  go_enter Tryz.func120, Tryz.ntmps120
  go_wp2
  go_step3
  go_wp2
  try rw [Exit.noGoto_ret]
  go_ret
  exact ⟨rfl, Below.refl _ _⟩

theorem mayAt_no1 {L : List Reg} {k : Nat} {r : Reg} (hr : L[k]? = some r) (h : mayB r = false) : mayAt L k = false := by
  unfold mayAt
  rw [List.getD_eq_getElem?_getD, hr]
  simp [h]
theorem mayAt_no2 {L : List Reg} {k j : Nat} {r s : Reg} (hr : L[k]? = some r) (hs : L[j]? = some s) (hj : j < k) (h : meetB r s = true) : mayAt L k = false := by
  unfold mayAt
  rw [Bool.and_eq_false_iff]
  right
  rw [List.all_eq_false]
  refine ⟨j, List.mem_range.2 hj, ?_⟩
  simp [List.getD_eq_getElem?_getD, hr, hs, h]
theorem mayAt_yes {L : List Reg} {k : Nat} {r : Reg} (hr : L[k]? = some r) (h : mayB r = true) (hm : ∀ j s, j < k → L[j]? = some s → meetB r s = false) (hk : k < L.length) : mayAt L k = true := by
  unfold mayAt
  rw [Bool.and_eq_true, List.all_eq_true]
  refine ⟨by rw [List.getD_eq_getElem?_getD, hr]; exact h, fun j hj => ?_⟩
  have hj' := List.mem_range.1 hj
  have := hm j _ hj' (List.getElem?_eq_getElem (by omega))
  rw [List.getD_eq_getElem?_getD, hr, List.getD_eq_getElem?_getD, List.getElem?_eq_getElem (by omega)]
  simp [this]
theorem mayAt_may {L : List Reg} {k : Nat} {r : Reg} (hr : L[k]? = some r) (h : mayAt L k = true) : mayB r = true := by
  unfold mayAt at h
  rw [Bool.and_eq_true, List.getD_eq_getElem?_getD, hr] at h
  exact h.1
theorem mayL_all {L : List Reg} {n k : Nat} (hl : L.length = n) (hn : n ≤ 16) (hk : k = n) (h : ∀ i, i < k → mayAt L i = true) : mayL L = true := by
  unfold mayL
  rw [Bool.and_eq_true, List.all_eq_true]
  exact ⟨by simp; omega, fun i hi => h i (by have := List.mem_range.1 hi; omega)⟩
theorem mayL_no {L : List Reg} {n k : Nat} (hl : L.length = n) (hn : n ≤ 16) (hk : k < n) (h : mayAt L k = false) : mayL L = false := by
  unfold mayL
  rw [Bool.and_eq_false_iff]
  right
  rw [List.all_eq_false]
  exact ⟨k, List.mem_range.2 (by omega), by simp [h]⟩

set_option maxRecDepth 100000 in
set_option maxHeartbeats 2000000 in
theorem may_few (A : Option Addr) (n cap : Nat) (L : List Reg) (w : World) (hr : RegsAt w w.heap.size A n L) (hn : n ≤ 16) (hc : n ≤ cap) (hcm : cap ≤ 9223372036854775807) : Calls Tryz.prog 120 #[.slice A n cap] w (Flag (mayL L) w) := by
  have hd : decide ((16 : Int) < (n : Int)) = false := by simp; omega
  have hr' := Lib.hid hr
  clear hr
  go_enter Tryz.func120, Tryz.ntmps120
  have hl := hr'.out.1
  go_wp2
  go_step3
  go_wp2
  go_step3
  go_wp2
  go_loopg [3, 13] n (fun g s3 s13 wr => ∃ k : Nat, k + g = n ∧ s3 = .bool true ∧ s13 = .int .i64 k ∧ (∀ i, i < k → mayAt L i = true) ∧ Below w.heap.size w wr)
  case atStart => exact ⟨0, by omega, rfl, rfl, fun i h => absurd h (by omega), Below.refl _ _⟩
  case round =>
    obtain ⟨k, hkg, rfl, rfl, hall, hb⟩ := hrel
    have hall' := Lib.hid hall
    have hb' := Lib.hid hb
    clear hall hb
    cases gk with
    | zero =>
      have hz : ¬ ((k : Int) < (n : Int)) := by omega
      go_wp2
      go_ret
      exact ⟨ret_bool (mayL_all hl hn (by omega) hall'.out).symm, hb'.out⟩
    | succ g =>
      have hz : (k : Int) < (n : Int) := by omega
      obtain ⟨blk, off, r, rfl, hB, hL, hR, hW⟩ := (hr'.out.below hb'.out).at_ (k := k) (by omega)
      obtain ⟨r0, r1, r2, r3⟩ := hR
      have hL' := Lib.hid hL
      have hW' := Lib.hid hW
      clear hL hW
      obtain ⟨t, ht⟩ : ∃ t, mayB r = t := ⟨_, rfl⟩
      have ht' := Lib.hid ht
      go_wp2_with fail
      refine (may_any r _ hW'.out).mono ?_
      rw [ht]
      clear ht
      rintro e w1 ⟨rfl, rfl⟩
      cases t
      · go_wp2
        go_ret
        exact ⟨ret_bool (mayL_no hl hn (k := k) (by omega) (mayAt_no1 hL'.out ht'.out)).symm, ((hb'.out.alloc hb'.out.size _).alloc (by have := hb'.out.size; simp; omega) _)⟩
      · obtain ⟨m1, m2, m3, m4, m5, m6, m7⟩ := (mayB_iff r).1 ht'.out
        have hW2 : Below w.heap.size w ((wr.alloc (.cells #[.string r.name, .int .i64 r.addr, .int .i64 r.size, .bool r.sec] 123)).alloc (boxReg r)) := (hb'.out.alloc hb'.out.size _).alloc (by have := hb'.out.size; simp; omega) _
        have hbx : ((wr.alloc (.cells #[.string r.name, .int .i64 r.addr, .int .i64 r.size, .bool r.sec] 123)).alloc (boxReg r)).heap[wr.heap.size]? = some (boxReg r) := heap_alloc2_old wr _ _
        have hW2' := Lib.hid hW2
        have hbx' := Lib.hid hbx
        have hge := hb'.out.size
        obtain ⟨wo, hwo⟩ : ∃ wo : World, wo = wr := ⟨_, rfl⟩
        clear hW2 hbx
        rw [← hwo] at hW2' hbx' hge hb' r0 r1 r2 r3 ⊢
        clear hwo
        go_wp2_with fail
        go_loopg [3, 26] k (fun g2 s3 s26 wy => ∃ j : Nat, j + g2 = k ∧ s3 = .bool true ∧ s26 = .int .i64 j ∧ (∀ i s, i < j → L[i]? = some s → meetB r s = false) ∧ Below w.heap.size w wy ∧ wy.heap[wo.heap.size]? = some (boxReg r))
        case atStart => exact ⟨0, by omega, rfl, rfl, fun i s h => absurd h (by omega), hW2'.out, hbx'.out⟩
        case round =>
          obtain ⟨j, hjg, rfl, rfl, hno, hby, hbx⟩ := hrel
          have hno' := Lib.hid hno
          have hby' := Lib.hid hby
          have hbx2 := Lib.hid hbx
          clear hno hby hbx r0 r1 r2 r3
          cases gk with
          | zero =>
            have hjz : ¬ ((j : Int) < (k : Int)) := by omega
            go_wp2
            go_roundg g
            case measure => omega
            case rel =>
              refine ⟨k + 1, by omega, rfl, by go_num, fun i hi => ?_, hby'.out⟩
              rcases Nat.lt_or_ge i k with h | h
              · exact hall'.out i h
              · obtain rfl : i = k := by omega
                exact mayAt_yes hL'.out ht'.out (fun j' s hj hs => hno'.out j' s (by omega) hs) (by omega)
          | succ g2 =>
            have hjz : (j : Int) < (k : Int) := by omega
            obtain ⟨blk2, off2, s, e, _, hLs, hRs, hWs⟩ := (hr'.out.below hby'.out).at_ (k := j) (by omega)
            cases e
            obtain ⟨s0, s1, s2, s3⟩ := hRs
            have hblk := World.block_lt_of_cell? wr _ s0
            have hbox := blk_lt hbx2.out
            have hb4 := Lib.hid (box4_of (w := wr) (b := wo.heap.size) (r := r) hbx2.out)
            have hms := mayAt_may hLs (hall'.out j (by omega))
            obtain ⟨q1, q2, q3, q4, q5, q6, q7⟩ := (mayB_iff s).1 hms
            have hes := Lib.hid (show ∀ w, Calls Tryz.prog 143 #[.agg #[.string s.name, .int .i64 s.addr, .int .i64 s.size, .bool s.sec]] w fun e w' => e = .returned (.int .i64 s.end_) ∧ Below w.heap.size w w' from fun w => end_any s w q5 (by omega) (by omega) (by omega))
            have her := Lib.hid (show ∀ w, Calls Tryz.prog 143 #[.agg #[.string r.name, .int .i64 r.addr, .int .i64 r.size, .bool r.sec]] w fun e w' => e = .returned (.int .i64 r.end_) ∧ Below w.heap.size w w' from fun w => end_any r w m5 (by omega) (by omega) (by omega))
            have hLs' := Lib.hid hLs
            clear hLs hWs hms
            cases hnm : (r.name.toList == s.name.toList)
            · cases hlo : decide (r.addr < s.end_)
              · have hmt := Lib.hid (show meetB r s = false by unfold meetB; rw [hnm, hlo]; rfl)
                go_wp2
                obtain ⟨W1, hW1⟩ : ∃ W1, W1 = wr.alloc (.cells #[.string s.name, .int .i64 s.addr, .int .i64 s.size, .bool s.sec] 123) := ⟨_, rfl⟩
                have hbs : Below w.heap.size w W1 := by rw [hW1]; exact hby'.out.alloc hby'.out.size _
                have hx4 : Box4 W1 wo.heap.size r := by rw [hW1]; exact hb4.out.below ((Below.refl _ _).alloc (Nat.le_refl _) _) hbox
                have hy4 : Box4 W1 wr.heap.size s := by rw [hW1]; exact box4_new wr s 123
                have hz4 : W1.heap[wo.heap.size]? = some (boxReg r) := by rw [hW1]; exact (Below.heap_alloc wr _ _ hbox).trans hbx2.out
                have hbs' := Lib.hid hbs
                have hz4' := Lib.hid hz4
                rw [← hW1]
                obtain ⟨x0, x1, x2, x3⟩ := hx4.sub
                obtain ⟨y0, y1, y2, y3⟩ := hy4.sub
                have hw1s := blk_lt hz4
                clear hW1 hx4 hy4 hbs hz4
                refine wp_region_below (by kernel_rfl) (by kernel_rfl) ?_
                repeat (go_big_quiet_step ((first | (go_at_call 143; with_reducible exact Sub.call (hes.out _)) | (go_at_call 143; with_reducible exact Sub.call (her.out _)))))
                refine wpQuiet_nil ?_
                rintro _ ⟨⟨w3, hb3⟩, rfl⟩
                have hb3' := Lib.hid (hbs'.out.trans (hb3.mono hbs'.out.size))
                have hz3' := Lib.hid ((hb3.block _ hw1s).trans hz4'.out)
                clear hb3 x0 x1 x2 x3 y0 y1 y2 y3
                go_wp2
                go_roundg g2
                case measure => omega
                case rel =>
                  refine ⟨j + 1, by omega, rfl, by go_num, fun i s' hi hs' => ?_, hb3'.out, hz3'.out⟩
                  rcases Nat.lt_or_ge i j with h | h
                  · exact hno'.out i s' h hs'
                  · obtain rfl : i = j := by omega
                    rw [hLs'.out] at hs'
                    cases hs'
                    exact hmt.out
              · cases hhi : decide (s.addr < r.end_)
                · have hmt := Lib.hid (show meetB r s = false by unfold meetB; rw [hnm, hlo, hhi]; rfl)
                  go_wp2
                  obtain ⟨W1, hW1⟩ : ∃ W1, W1 = wr.alloc (.cells #[.string s.name, .int .i64 s.addr, .int .i64 s.size, .bool s.sec] 123) := ⟨_, rfl⟩
                  have hbs : Below w.heap.size w W1 := by rw [hW1]; exact hby'.out.alloc hby'.out.size _
                  have hx4 : Box4 W1 wo.heap.size r := by rw [hW1]; exact hb4.out.below ((Below.refl _ _).alloc (Nat.le_refl _) _) hbox
                  have hy4 : Box4 W1 wr.heap.size s := by rw [hW1]; exact box4_new wr s 123
                  have hz4 : W1.heap[wo.heap.size]? = some (boxReg r) := by rw [hW1]; exact (Below.heap_alloc wr _ _ hbox).trans hbx2.out
                  have hbs' := Lib.hid hbs
                  have hz4' := Lib.hid hz4
                  rw [← hW1]
                  obtain ⟨x0, x1, x2, x3⟩ := hx4.sub
                  obtain ⟨y0, y1, y2, y3⟩ := hy4.sub
                  have hw1s := blk_lt hz4
                  clear hW1 hx4 hy4 hbs hz4
                  refine wp_region_below (by kernel_rfl) (by kernel_rfl) ?_
                  repeat (go_big_quiet_step ((first | (go_at_call 143; with_reducible exact Sub.call (hes.out _)) | (go_at_call 143; with_reducible exact Sub.call (her.out _)))))
                  refine wpQuiet_nil ?_
                  rintro _ ⟨⟨w3, hb3⟩, rfl⟩
                  have hb3' := Lib.hid (hbs'.out.trans (hb3.mono hbs'.out.size))
                  have hz3' := Lib.hid ((hb3.block _ hw1s).trans hz4'.out)
                  clear hb3 x0 x1 x2 x3 y0 y1 y2 y3
                  go_wp2
                  go_roundg g2
                  case measure => omega
                  case rel =>
                    refine ⟨j + 1, by omega, rfl, by go_num, fun i s' hi hs' => ?_, hb3'.out, hz3'.out⟩
                    rcases Nat.lt_or_ge i j with h | h
                    · exact hno'.out i s' h hs'
                    · obtain rfl : i = j := by omega
                      rw [hLs'.out] at hs'
                      cases hs'
                      exact hmt.out
                · have hmt := Lib.hid (show meetB r s = true by unfold meetB; rw [hnm, hlo, hhi]; rfl)
                  go_wp2
                  obtain ⟨W1, hW1⟩ : ∃ W1, W1 = wr.alloc (.cells #[.string s.name, .int .i64 s.addr, .int .i64 s.size, .bool s.sec] 123) := ⟨_, rfl⟩
                  have hbs : Below w.heap.size w W1 := by rw [hW1]; exact hby'.out.alloc hby'.out.size _
                  have hx4 : Box4 W1 wo.heap.size r := by rw [hW1]; exact hb4.out.below ((Below.refl _ _).alloc (Nat.le_refl _) _) hbox
                  have hy4 : Box4 W1 wr.heap.size s := by rw [hW1]; exact box4_new wr s 123
                  have hz4 : W1.heap[wo.heap.size]? = some (boxReg r) := by rw [hW1]; exact (Below.heap_alloc wr _ _ hbox).trans hbx2.out
                  have hbs' := Lib.hid hbs
                  have hz4' := Lib.hid hz4
                  rw [← hW1]
                  obtain ⟨x0, x1, x2, x3⟩ := hx4.sub
                  obtain ⟨y0, y1, y2, y3⟩ := hy4.sub
                  have hw1s := blk_lt hz4
                  clear hW1 hx4 hy4 hbs hz4
                  refine wp_region_below (by kernel_rfl) (by kernel_rfl) ?_
                  repeat (go_big_quiet_step ((first | (go_at_call 143; with_reducible exact Sub.call (hes.out _)) | (go_at_call 143; with_reducible exact Sub.call (her.out _)))))
                  refine wpQuiet_nil ?_
                  rintro _ ⟨⟨w3, hb3⟩, rfl⟩
                  have hb3' := Lib.hid (hbs'.out.trans (hb3.mono hbs'.out.size))
                  have hz3' := Lib.hid ((hb3.block _ hw1s).trans hz4'.out)
                  clear hb3 x0 x1 x2 x3 y0 y1 y2 y3
                  go_wp2
                  go_ret
                  exact ⟨ret_bool (mayL_no hl hn (k := k) (by omega) (mayAt_no2 hL'.out hLs'.out (by omega) hmt.out)).symm, hb3'.out⟩
            · have hmt := Lib.hid (show meetB r s = true by unfold meetB; rw [hnm]; rfl)
              go_wp2
              obtain ⟨W1, hW1⟩ : ∃ W1, W1 = wr.alloc (.cells #[.string s.name, .int .i64 s.addr, .int .i64 s.size, .bool s.sec] 123) := ⟨_, rfl⟩
              have hbs : Below w.heap.size w W1 := by rw [hW1]; exact hby'.out.alloc hby'.out.size _
              have hx4 : Box4 W1 wo.heap.size r := by rw [hW1]; exact hb4.out.below ((Below.refl _ _).alloc (Nat.le_refl _) _) hbox
              have hy4 : Box4 W1 wr.heap.size s := by rw [hW1]; exact box4_new wr s 123
              have hz4 : W1.heap[wo.heap.size]? = some (boxReg r) := by rw [hW1]; exact (Below.heap_alloc wr _ _ hbox).trans hbx2.out
              have hbs' := Lib.hid hbs
              have hz4' := Lib.hid hz4
              rw [← hW1]
              obtain ⟨x0, x1, x2, x3⟩ := hx4.sub
              obtain ⟨y0, y1, y2, y3⟩ := hy4.sub
              have hw1s := blk_lt hz4
              clear hW1 hx4 hy4 hbs hz4
              refine wp_region_below (by kernel_rfl) (by kernel_rfl) ?_
              repeat (go_big_quiet_step ((first | (go_at_call 143; with_reducible exact Sub.call (hes.out _)) | (go_at_call 143; with_reducible exact Sub.call (her.out _)))))
              refine wpQuiet_nil ?_
              rintro _ ⟨⟨w3, hb3⟩, rfl⟩
              have hb3' := Lib.hid (hbs'.out.trans (hb3.mono hbs'.out.size))
              have hz3' := Lib.hid ((hb3.block _ hw1s).trans hz4'.out)
              clear hb3 x0 x1 x2 x3 y0 y1 y2 y3
              go_wp2
              go_ret
              exact ⟨ret_bool (mayL_no hl hn (k := k) (by omega) (mayAt_no2 hL'.out hLs'.out (by omega) hmt.out)).symm, hb3'.out⟩



theorem info67 : (Tryz.prog.info? 123).map (fun i => (i.zero, i.size, i.bytes)) = some (some (.agg #[.string ⟨#[]⟩, .int .i64 0, .int .i64 0, .bool false]), 4, 40) := by kernel_rfl

def regCells (L : List Reg) : List Value := L.flatMap Reg.cells
theorem regCells_len (L : List Reg) : (regCells L).length = L.length * 4 := by
  induction L with
  | nil => rfl
  | cons r L ih =>
    have e : regCells (r :: L) = r.cells ++ regCells L := rfl
    rw [e, List.length_append, ih, List.length_cons]
    have : r.cells.length = 4 := rfl
    omega
theorem regCells_at : ∀ (L : List Reg) (i d : Nat), d < 4 → (regCells L)[i * 4 + d]? = (L[i]?).bind fun r => r.cells[d]?
  | [], i, d, _ => by simp [regCells]
  | r :: L, 0, d, h => by
    have e : regCells (r :: L) = r.cells ++ regCells L := rfl
    rw [e, Nat.zero_mul, Nat.zero_add, List.getElem?_append_left (by show d < 4; omega)]
    rfl
  | r :: L, i + 1, d, h => by
    have e : regCells (r :: L) = r.cells ++ regCells L := rfl
    have hl : r.cells.length = 4 := rfl
    rw [e, List.getElem?_append_right (by rw [hl]; omega), hl, show (i + 1) * 4 + d - 4 = i * 4 + d from by omega, regCells_at L i d h]
    rfl
theorem regCells_one {L : List Reg} : ∀ u ∈ regCells L, u.oneCell' = true := by
  intro u hu
  obtain ⟨r, _, hu⟩ := List.mem_flatMap.1 hu
  simp [Reg.cells] at hu
  rcases hu with rfl | rfl | rfl | rfl <;> rfl
theorem RegAt.cells {w : World} {b o : Nat} {r : Reg} (h : RegAt w b o r) : ∀ d u, r.cells[d]? = some u → w.cell? ⟨b, o + d, none⟩ = some u := by
  intro d u hu
  obtain ⟨a, b, c, e⟩ := h
  match d, hu with
  | 0, hu => simp [Reg.cells] at hu; subst hu; exact a
  | 1, hu => simp [Reg.cells] at hu; subst hu; exact b
  | 2, hu => simp [Reg.cells] at hu; subst hu; exact c
  | 3, hu => simp [Reg.cells] at hu; subst hu; exact e
  | n + 4, hu => simp [Reg.cells] at hu
theorem regs_news {w : World} {B n : Nat} {ad : Addr} {L : List Reg} (h : RegsAt w B (some ad) n L) : ∀ j u, (regCells L)[j]? = some u → w.cell? (ad.add j) = some u := by
  intro j u hu
  have hj : j < (regCells L).length := (List.getElem?_eq_some_iff.1 hu).1
  rw [regCells_len] at hj
  obtain ⟨hl, hw, hc⟩ := h
  obtain ⟨blk, off, e, hb, hi⟩ := hc (by omega)
  cases e
  have e1 : j = j / 4 * 4 + j % 4 := by omega
  rw [e1, regCells_at L (j / 4) (j % 4) (by omega)] at hu
  obtain ⟨r, hr, hu'⟩ := Option.bind_eq_some_iff.1 hu
  rw [Addr.add_lit]
  have := (hi _ r hr).cells _ _ hu'
  rw [show off + j / 4 * 4 + j % 4 = off + j from by omega] at this
  exact this
theorem regs_own {w : World} {base n : Nat} {v : Value} {L : List Reg} (h : w.ownsRow base 123 4 v n (regCells L)) (hL : ∀ r ∈ L, r.Wf) : ∃ A cap, v = .slice A n cap ∧ n ≤ cap ∧ cap ≤ 9223372036854775807 ∧ RegsAt w w.heap.size A n L := by
  obtain ⟨hl, h⟩ := h
  rw [regCells_len] at hl
  rcases h with ⟨rfl, rfl⟩ | ⟨g, cap, cur, rfl, hg, hh, hcap, hm, hs, ht⟩
  · exact ⟨none, 0, rfl, Nat.le_refl _, by omega, by omega, hL, fun h => absurd h (by omega)⟩
  · refine ⟨some ⟨g, 0, none⟩, cap, rfl, hcap, hm, by omega, hL, fun hn => ⟨g, 0, rfl, blk_lt hh, fun i r hr => ?_⟩⟩
    have hlt : i < L.length := (List.getElem?_eq_some_iff.1 hr).1
    have key : ∀ d u, d < 4 → r.cells[d]? = some u → w.cell? ⟨g, 0 + i * 4 + d, none⟩ = some u := by
      intro d u hd hu
      rw [blk_cell hh]
      have h1 : (cur.toList.take (n * 4))[i * 4 + d]? = some u := by rw [ht, regCells_at L i d hd, hr]; exact hu
      rw [List.getElem?_take, if_pos (by omega)] at h1
      rw [Nat.zero_add]
      simpa using h1
    exact ⟨key 0 _ (by omega) rfl, key 1 _ (by omega) rfl, key 2 _ (by omega) rfl, key 3 _ (by omega) rfl⟩

theorem regs_alloc {w : World} {A : Option Addr} {n : Nat} {L : List Reg} (h : RegsAt w w.heap.size A n L) (o : Obj) : RegsAt (w.alloc o) (w.alloc o).heap.size A n L :=
  (h.below ((Below.refl _ _).alloc (Nat.le_refl _) o)).more (by simp)
theorem grown_trans {a b c : World} {row : Option Nat} (h : a.grownBy b row) (k : b.grownBy c row) : a.grownBy c row :=
  ⟨k.os.trans h.os, k.tape.trans h.tape, k.output.trans h.output, Nat.le_trans h.size k.size, fun i hi hne => (k.block i (Nat.lt_of_lt_of_le hi h.size) hne).trans (h.block i hi hne)⟩
/-- regions cloned -/
def ClonePost (L : List Reg) (n : Nat) (w : World) (e : Ending) (w' : World) : Prop :=
  ∃ A cap, e = .returned (.slice A n cap) ∧ n ≤ cap ∧ cap ≤ 9223372036854775807 ∧ RegsAt w' w'.heap.size A n L ∧ Below w.heap.size w w'

set_option maxRecDepth 100000 in
set_option maxHeartbeats 1000000 in
theorem clone_nil (c : Nat) (w : World) : Calls Tryz.prog 121 #[.slice none 0 c] w (ClonePost [] 0 w) := by
  have he := fun w => Lib.run_eql_slice_nil_nil (P := Tryz.prog) w (t := 79) 0 c Tryz.underlying79
  go_enter Tryz.func121, Tryz.ntmps121
  go_wp2
  go_ret
  exact ⟨none, 0, rfl, Nat.le_refl _, by omega, ⟨rfl, by simp, fun h => absurd h (by omega)⟩, Below.refl _ _⟩

set_option maxRecDepth 100000 in
set_option maxHeartbeats 1000000 in
theorem clone_some (ad : Addr) (n c : Nat) (L : List Reg) (w : World) (h : RegsAt w w.heap.size (some ad) n L) (hn : n ≤ 16) (hc : n ≤ c) : Calls Tryz.prog 121 #[.slice (some ad) n c] w (ClonePost L n w) := by
  obtain ⟨i0, hi, hz0, hz1, hz2⟩ := info_parts info67
  have h' := Lib.hid h
  clear h
  have he := fun w => Lib.run_eql_slice_some_nil (P := Tryz.prog) w (t := 79) ad n c Tryz.underlying79
  have hown0 : (w.alloc (.cells #[] 123)).ownsRow w.heap.size 123 4 (.slice (some ⟨w.heap.size, 0, none⟩) 0 0) 0 [] := ⟨rfl, .inr ⟨w.heap.size, 0, #[], rfl, Nat.le_refl _, heap_alloc_new w _, Nat.le_refl _, by simp [maxLen], rfl, rfl⟩⟩
  have hlen : (regCells L).length = n * 4 := by rw [regCells_len, h'.out.1]
  have hnews := regs_news (regs_alloc h'.out (.cells #[] 123))
  have hown0' := Lib.hid hown0
  have hlen' := Lib.hid hlen
  have hnews' := Lib.hid hnews
  clear hown0 hlen hnews
  go_enter Tryz.func121, Tryz.ntmps121
  go_wp2_with ((at_builtin; refine wpList_append_own_at _ rfl _ _ 79 rfl w.heap.size 123 i0 _ 4 40 Tryz.underlying79 hi hz0 hz1 hz2 rfl (by decide) (.slice (some ⟨w.heap.size, 0, none⟩) 0 0) 0 [] rfl hown0'.out ad n c (regCells L) rfl hlen'.out hnews'.out regCells_one (by unfold maxLen; omega) (by omega) (by simp) ?_; intro v' w1 hown hg hnil hat))
  go_ret
  have hb : Below w.heap.size w w1 := ((Below.refl _ _).alloc (Nat.le_refl _) _).grown hg (by simp) (fun k hk => by simp [Value.ownBlock] at hk; omega)
  rw [Nat.zero_add, List.nil_append] at hown
  obtain ⟨A', cap', rfl, h1, h2, h3⟩ := regs_own hown h'.out.2.1
  exact ⟨A', cap', rfl, h1, h2, h3, hb⟩

theorem clone_any (A : Option Addr) (n c : Nat) (L : List Reg) (w : World) (h : RegsAt w w.heap.size A n L) (hn : n ≤ 16) (hc : n ≤ c) : Calls Tryz.prog 121 #[.slice A n c] w (ClonePost L n w) := by
  cases A with
  | some ad => exact clone_some ad n c L w h hn hc
  | none =>
    have h0 : n = 0 := by
      rcases Nat.eq_zero_or_pos n with h0 | h0
      · exact h0
      · obtain ⟨_, _, e, _⟩ := h.2.2 h0
        cases e
    subst h0
    obtain rfl : L = [] := List.eq_nil_of_length_eq_zero h.1
    exact clone_nil c w

theorem may_call (A : Option Addr) (n cap : Nat) (L : List Reg) (w : World) (hr : RegsAt w w.heap.size A n L) (hc : n ≤ cap) (hcm : cap ≤ 9223372036854775807) : Calls Tryz.prog 120 #[.slice A n cap] w (Flag (mayL L) w) := by
  by_cases hn : n ≤ 16
  · exact may_few A n cap L w hr hn hc hcm
  · exact may_many A n cap L w hr.1 (by omega) (by omega)
theorem mayL_len {L : List Reg} (h : mayL L = true) : L.length ≤ 16 := by
  unfold mayL at h
  rw [Bool.and_eq_true] at h
  simpa using h.1
theorem mayL_mem {L : List Reg} (h : mayL L = true) : ∀ r ∈ L, mayB r = true := by
  unfold mayL at h
  rw [Bool.and_eq_true, List.all_eq_true] at h
  intro r hr
  obtain ⟨i, hi⟩ := List.getElem?_of_mem hr
  exact mayAt_may hi (h.2 i (List.mem_range.2 (List.getElem?_eq_some_iff.1 hi).1))

set_option maxRecDepth 100000 in
set_option maxHeartbeats 1000000 in
theorem new_no (A : Option Addr) (n cap : Nat) (L : List Reg) (w : World) (hr : RegsAt w w.heap.size A n L) (hc : n ≤ cap) (hcm : cap ≤ 9223372036854775807) (hL : mayL L = false) :
    Calls Tryz.prog 100 #[.slice A n cap] w fun e w' => e = .returned (.tuple #[.pointer none, .int .i64 2]) ∧ Below w.heap.size w w' := by
  have hk := Lib.hid (may_call A n cap L w hr hc hcm)
  rw [hL] at hk
  clear hL hr
  go_enter Tryz.func100, Tryz.ntmps100
  go_wp2_with fail
  refine hk.out.mono ?_
  rintro e w1 ⟨rfl, hb⟩
  have hb' := Lib.hid hb
  clear hb
  go_wp2
  go_ret2
  exact ⟨rfl, hb'.out⟩

/-- a new memory -/
def NewPost (L : List Reg) (n : Nat) (w : World) (e : Ending) (w' : World) : Prop :=
  ∃ p q A cap, e = .returned (.tuple #[.pointer (some ⟨p, 0, none⟩), .int .i64 0]) ∧ Mem_ w' p q A n cap L (fun _ => 0) ∧ n ≤ cap ∧ cap ≤ 9223372036854775807 ∧ w.heap.size ≤ p ∧ w.heap.size ≤ q ∧ Below w.heap.size w w'

set_option maxRecDepth 100000 in
set_option maxHeartbeats 1000000 in
theorem new_yes (A : Option Addr) (n cap : Nat) (L : List Reg) (w : World) (hr : RegsAt w w.heap.size A n L) (hc : n ≤ cap) (hcm : cap ≤ 9223372036854775807) (hL : mayL L = true) :
    Calls Tryz.prog 100 #[.slice A n cap] w (NewPost L n w) := by
  have hk := Lib.hid (may_call A n cap L w hr hc hcm)
  have hn : n ≤ 16 := by rw [← hr.1]; exact mayL_len hL
  rw [hL] at hk
  have hr' := Lib.hid hr
  have hz := zero83
  clear hL hr
  go_enter Tryz.func100, Tryz.ntmps100
  go_wp2_with fail
  refine hk.out.mono ?_
  rintro e w1 ⟨rfl, hb⟩
  have hb' := Lib.hid hb
  clear hb
  go_wp2_with fail
  refine (clone_any A n cap L _ ((hr'.out.below hb'.out).more hb'.out.size) hn hc).mono ?_
  rintro e w2 ⟨A2, cap2, rfl, h1, h2, h3, hb2⟩
  have hb2' := Lib.hid (Below.next hb'.out hb2)
  have h3' := Lib.hid h3
  clear hb2 h3
  go_wp2
  go_ret2
  have hall : Below w2.heap.size w2 ((w2.alloc (.cells (bytes fun _ => 0) 162)).alloc (.cells #[.slice A2 n cap2, .pointer (some ⟨w2.heap.size, 0, none⟩)] 164)) := ((Below.refl _ _).alloc (Nat.le_refl _) _).alloc (by simp) _
  exact ⟨w2.heap.size + 1, w2.heap.size, A2, cap2, rfl, ⟨heap_alloc2_new w2 _ _, heap_alloc2_old w2 _ _, (h3'.out.below hall).more hall.size, hn, fun i => ⟨Int.le_refl 0, (by decide : (0 : Int) < 256)⟩⟩, h1, h2, by have := hb2'.out.size; omega, hb2'.out.size, Below.next hb2'.out hall⟩




theorem meetB_ref (r s : Reg) : meetB r s = ((s.name.toList == r.name.toList) || (decide (s.addr < r.addr + 8 * r.size) && decide (r.addr < s.addr + 8 * s.size))) := by
  unfold meetB Reg.end_
  have e : (r.name.toList == s.name.toList) = (s.name.toList == r.name.toList) := BEq.comm
  rw [e, Bool.and_comm]
theorem mayB_no {r : Reg} (h : mayB r = false) : (r.name.size < 1) ∨ (1 ≤ r.name.size ∧ 16 < r.name.size) ∨ (1 ≤ r.name.size ∧ r.name.size ≤ 16 ∧ r.size < 1) ∨ (1 ≤ r.name.size ∧ r.name.size ≤ 16 ∧ 1 ≤ r.size ∧ 512 < r.size) ∨
    (1 ≤ r.name.size ∧ r.name.size ≤ 16 ∧ 1 ≤ r.size ∧ r.size ≤ 512 ∧ r.addr < 0) ∨ (1 ≤ r.name.size ∧ r.name.size ≤ 16 ∧ 1 ≤ r.size ∧ r.size ≤ 512 ∧ 0 ≤ r.addr ∧ r.addr % 8 ≠ 0) ∨
    (1 ≤ r.name.size ∧ r.name.size ≤ 16 ∧ 1 ≤ r.size ∧ r.size ≤ 512 ∧ 0 ≤ r.addr ∧ r.addr % 8 = 0 ∧ 49152 - 8 * r.size < r.addr) := by
  have h2 : ¬ mayB r = true := by rw [h]; exact Bool.false_ne_true
  rw [mayB_iff] at h2
  omega

set_option maxHeartbeats 1000000 in
theorem refMay_many (A : Option Addr) (n cap : Nat) (L : List Reg) (w : World) (hl : L.length = n) (hn : 16 < n) (hm : n ≤ 9223372036854775807) : Calls Tryz.prog 78 #[.slice A n cap] w (Flag (mayL L) w) := by
  have e : mayL L = false := by unfold mayL; rw [decide_eq_false (by omega)]; rfl
  rw [e]
  have hd : decide ((16 : Int) < (n : Int)) = true := by simp; omega
  clear e hl
  go_enter Tryz.func78, Tryz.ntmps78
  go_wp2
  go_ret
  exact ⟨rfl, Below.refl _ _⟩

set_option maxRecDepth 100000 in
set_option maxHeartbeats 4000000 in
theorem refMay_few (A : Option Addr) (n cap : Nat) (L : List Reg) (w : World) (hr : RegsAt w w.heap.size A n L) (hn : n ≤ 16) (hc : n ≤ cap) (hcm : cap ≤ 9223372036854775807) : Calls Tryz.prog 78 #[.slice A n cap] w (Flag (mayL L) w) := by
  have hd : decide ((16 : Int) < (n : Int)) = false := by simp; omega
  have hr' := Lib.hid hr
  clear hr
  have hl := hr'.out.1
  go_enter Tryz.func78, Tryz.ntmps78
  go_wp2
  go_loopg [3] n (fun g s3 wr => ∃ k : Nat, k + g = n ∧ s3 = .int .i64 k ∧ (∀ i, i < k → mayAt L i = true) ∧ Below w.heap.size w wr)
  case atStart => exact ⟨0, by omega, rfl, fun i h => absurd h (by omega), Below.refl _ _⟩
  case round =>
    obtain ⟨k, hkg, rfl, hall, hb⟩ := hrel
    have hall' := Lib.hid hall
    have hb' := Lib.hid hb
    clear hall hb
    cases gk with
    | zero =>
      have hz : ¬ ((k : Int) < (n : Int)) := by omega
      go_wp2
      go_ret
      exact ⟨ret_bool (mayL_all hl hn (by omega) hall'.out).symm, hb'.out⟩
    | succ g =>
      have hz : (k : Int) < (n : Int) := by omega
      obtain ⟨blk, off, r, rfl, hB, hL, hR, hW⟩ := (hr'.out.below hb'.out).at_ (k := k) (by omega)
      obtain ⟨⟨wa, wb⟩, ⟨wc, wd⟩, we⟩ := hW
      obtain ⟨r0, r1, r2, r3⟩ := hR
      have hL' := Lib.hid hL
      clear hL
      cases ht : mayB r
      · have hfin := Lib.hid (mayL_no hl hn (k := k) (by omega) (mayAt_no1 hL'.out ht))
        have hcs := mayB_no ht
        clear ht
        rcases hcs with h1 | ⟨h1, h2⟩ | ⟨h1, h2, h3⟩ | ⟨h1, h2, h3, h4⟩ | ⟨h1, h2, h3, h4, h5⟩ | ⟨h1, h2, h3, h4, h5, h6⟩ | ⟨h1, h2, h3, h4, h5, h6, h7⟩
        all_goals
          go_wp2
          go_ret
          exact ⟨ret_bool hfin.out.symm, hb'.out.alloc hb'.out.size _⟩
      · obtain ⟨m1, m2, m3, m4, m5, m6, m7⟩ := (mayB_iff r).1 ht
        have ht' := Lib.hid ht
        clear ht
        have hW2' := Lib.hid (hb'.out.alloc hb'.out.size (.cells #[.string r.name, .int .i64 r.addr, .int .i64 r.size, .bool r.sec] 123))
        have hbx' := Lib.hid (heap_alloc_new wr (.cells #[.string r.name, .int .i64 r.addr, .int .i64 r.size, .bool r.sec] 123))
        have hge := hb'.out.size
        obtain ⟨wo, hwo⟩ : ∃ wo : World, wo = wr := ⟨_, rfl⟩
        rw [← hwo] at hW2' hbx' hge hb' r0 r1 r2 r3 ⊢
        clear hwo
        go_wp2_with fail
        go_loopg [5] k (fun g2 s5 wy => ∃ j : Nat, j + g2 = k ∧ s5 = .int .i64 j ∧ (∀ i s, i < j → L[i]? = some s → meetB r s = false) ∧ Below w.heap.size w wy ∧ wy.heap[wo.heap.size]? = some (.cells #[.string r.name, .int .i64 r.addr, .int .i64 r.size, .bool r.sec] 123))
        case atStart => exact ⟨0, by omega, rfl, fun i s h => absurd h (by omega), hW2'.out, hbx'.out⟩
        case round =>
          obtain ⟨j, hjg, rfl, hno, hby, hbx⟩ := hrel
          have hno' := Lib.hid hno
          have hby' := Lib.hid hby
          have hbx2 := Lib.hid hbx
          clear hno hby hbx r0 r1 r2 r3
          cases gk with
          | zero =>
            have hjz : ¬ ((j : Int) < (k : Int)) := by omega
            go_wp2
            go_roundg g
            case measure => omega
            case rel =>
              refine ⟨k + 1, by omega, by go_num, fun i hi => ?_, hby'.out⟩
              rcases Nat.lt_or_ge i k with h | h
              · exact hall'.out i h
              · obtain rfl : i = k := by omega
                exact mayAt_yes hL'.out ht'.out (fun j' s hj hs => hno'.out j' s (by omega) hs) (by omega)
          | succ g2 =>
            have hjz : (j : Int) < (k : Int) := by omega
            have hj0 : (0 : Int) ≤ (j : Int) := by omega
            have hj1 : (j : Int) < (n : Int) := by omega
            obtain ⟨blk2, off2, s, e, _, hLs, hRs, hWs⟩ := (hr'.out.below hby'.out).at_ (k := j) (by omega)
            cases e
            obtain ⟨s0, s1, s2, s3⟩ := hRs
            obtain ⟨b0, b1, b2, b3⟩ := box4_of (w := wr) (b := wo.heap.size) (r := r) hbx2.out
            have hms := mayAt_may hLs (hall'.out j (by omega))
            obtain ⟨q1, q2, q3, q4, q5, q6, q7⟩ := (mayB_iff s).1 hms
            have hLs' := Lib.hid hLs
            clear hLs hWs hms
            have hmr := meetB_ref r s
            cases hnm : (s.name.toList == r.name.toList)
            · cases hlo : decide (s.addr < r.addr + 8 * r.size)
              · have hmt := Lib.hid (show meetB r s = false by rw [hmr, hnm, hlo]; rfl)
                clear hmr
                go_wp2
                go_quiet (fail)
                go_wp2
                go_roundg g2
                case measure => omega
                case rel =>
                  refine ⟨j + 1, by omega, by go_num, fun i s' hi hs' => ?_, below_drewN hby'.out _, hbx2.out⟩
                  rcases Nat.lt_or_ge i j with h | h
                  · exact hno'.out i s' h hs'
                  · obtain rfl : i = j := by omega
                    rw [hLs'.out] at hs'
                    cases hs'
                    exact hmt.out
              · cases hhi : decide (r.addr < s.addr + 8 * s.size)
                · have hmt := Lib.hid (show meetB r s = false by rw [hmr, hnm, hlo, hhi]; rfl)
                  clear hmr
                  go_wp2
                  go_quiet (fail)
                  go_wp2
                  go_roundg g2
                  case measure => omega
                  case rel =>
                    refine ⟨j + 1, by omega, by go_num, fun i s' hi hs' => ?_, below_drewN hby'.out _, hbx2.out⟩
                    rcases Nat.lt_or_ge i j with h | h
                    · exact hno'.out i s' h hs'
                    · obtain rfl : i = j := by omega
                      rw [hLs'.out] at hs'
                      cases hs'
                      exact hmt.out
                · have hmt := Lib.hid (show meetB r s = true by rw [hmr, hnm, hlo, hhi]; rfl)
                  clear hmr
                  go_wp2
                  go_quiet (fail)
                  go_wp2
                  go_ret
                  exact ⟨ret_bool (mayL_no hl hn (k := k) (by omega) (mayAt_no2 hL'.out hLs'.out (by omega) hmt.out)).symm, below_drewN hby'.out _⟩
            · have hmt := Lib.hid (show meetB r s = true by rw [hmr, hnm]; rfl)
              clear hmr
              go_wp2
              go_quiet (fail)
              go_wp2
              go_ret
              exact ⟨ret_bool (mayL_no hl hn (k := k) (by omega) (mayAt_no2 hL'.out hLs'.out (by omega) hmt.out)).symm, below_drewN hby'.out _⟩



def longB (L : List Reg) : Bool := ((List.range L.length).any fun i => decide (i < 41) && decide (900 < (L.getD i default).name.size)) || decide (40 < L.length)

theorem longB_yes {L : List Reg} {k : Nat} {r : Reg} (hr : L[k]? = some r) (hk : k < 41) (h : 900 < r.name.size) : longB L = true := by
  unfold longB
  rw [Bool.or_eq_true]
  left
  rw [List.any_eq_true]
  refine ⟨k, List.mem_range.2 (List.getElem?_eq_some_iff.1 hr).1, ?_⟩
  rw [List.getD_eq_getElem?_getD, hr]
  simp [hk, h]
theorem longB_end {L : List Reg} (h : ∀ j r, j < L.length → j < 41 → L[j]? = some r → r.name.size ≤ 900) : longB L = decide (40 < L.length) := by
  unfold longB
  have : ((List.range L.length).any fun i => decide (i < 41) && decide (900 < (L.getD i default).name.size)) = false := by
    rw [List.any_eq_false]
    intro i hi
    have hi' := List.mem_range.1 hi
    by_cases h41 : i < 41
    · have := h i _ hi' h41 (List.getElem?_eq_getElem hi')
      rw [List.getD_eq_getElem?_getD, List.getElem?_eq_getElem hi']
      simp; omega
    · simp [h41]
  rw [this, Bool.false_or]

set_option maxHeartbeats 1000000 in
theorem long_any (A : Option Addr) (n cap : Nat) (L : List Reg) (w : World) (hr : RegsAt w w.heap.size A n L) (hcm : n ≤ 9223372036854775807) : Calls Tryz.prog 46 #[.slice A n cap] w fun e w' => e = .returned (.bool (longB L)) ∧ w = w' := by
  have hr' := Lib.hid hr
  clear hr
  go_enter Tryz.func46, Tryz.ntmps46
  go_wp2
  go_loop [3] (fun i => ∃ k : Nat, k ≤ n ∧ k ≤ 41 ∧ i = .int .i64 k ∧ ∀ j r, j < k → L[j]? = some r → r.name.size ≤ 900) (fun i => n - (intOf i).toNat)
  case atStart => exact ⟨0, by omega, by omega, rfl, fun j r h => absurd h (by omega)⟩
  case round =>
    obtain ⟨k, hk, hk2, rfl, hno⟩ := hrel
    have hno' := Lib.hid hno
    clear hno
    by_cases hlt : k < n
    · by_cases h41 : k < 41
      · obtain ⟨blk, off, r, rfl, hB, hL, hR, hW⟩ := hr'.out.at_ hlt
        obtain ⟨⟨wa, wb⟩, ⟨wc, wd⟩, we⟩ := hW
        obtain ⟨r0, r1, r2, r3⟩ := hR
        have hL' := Lib.hid hL
        clear hL
        by_cases hs : 900 < r.name.size
        · have hd : decide ((900 : Int) < (r.name.size : Int)) = true := by simp; omega
          go_wp2
          go_ret
          exact ⟨ret_bool (longB_yes hL'.out h41 hs).symm, rfl⟩
        · have hd : decide ((900 : Int) < (r.name.size : Int)) = false := by simp; omega
          go_wp2
          go_round
          case rel =>
            refine ⟨k + 1, by omega, by omega, by go_num, fun j r' hj hr2 => ?_⟩
            rcases Nat.lt_or_ge j k with h | h
            · exact hno'.out j r' h hr2
            · obtain rfl : j = k := by omega
              rw [hL'.out] at hr2
              cases hr2
              omega
          case measure => simp [intOf]; omega
      · have e41 : k = 41 := by omega
        have hfin := Lib.hid (show longB L = decide (40 < n) by rw [longB_end (fun j r hj h4 h => hno'.out j r (by omega) h), hr'.out.1])
        have hd : decide ((k : Int) < 41) = false := by simp; omega
        clear e41
        go_wp2
        go_ret
        exact ⟨ret_bool (by rw [hfin.out]; simp; omega), rfl⟩
    · have e41 : k = n := by omega
      have hfin := Lib.hid (show longB L = decide (40 < n) by rw [longB_end (fun j r hj h4 h => hno'.out j r (by have := hr'.out.1; omega) h), hr'.out.1])
      have hd : decide ((k : Int) < (n : Int)) = false := by simp; omega
      clear e41
      go_wp2
      go_ret
      exact ⟨ret_bool (by rw [hfin.out]; simp; omega), rfl⟩



/-- a slice that reads as words -/
def WAt (w : World) (A : Option Addr) (ws : List Int) : Prop :=
  (∀ x ∈ ws, 0 ≤ x ∧ x ≤ 18446744073709551615) ∧ (0 < ws.length → ∃ blk off, A = some ⟨blk, off, none⟩ ∧ ∀ i x, ws[i]? = some x → w.cell? ⟨blk, off + i, none⟩ = some (.int .u64 x))
/-- a slice that reads as lists of words -/
def WsAt (w : World) (A : Option Addr) (W : List (List Int)) : Prop :=
  0 < W.length → ∃ blk off, A = some ⟨blk, off, none⟩ ∧ ∀ i ws, W[i]? = some ws → ∃ A' c, w.cell? ⟨blk, off + i, none⟩ = some (.slice A' ws.length c) ∧ ws.length ≤ 9223372036854775807 ∧ WAt w A' ws

theorem cell_some_lt {w : World} {b o : Nat} {v : Value} (h : w.cell? ⟨b, o, none⟩ = some v) : b < w.heap.size := by
  rcases Nat.lt_or_ge b w.heap.size with hlt | hge
  · exact hlt
  · simp [World.cell?, Array.getElem?_eq_none hge] at h
theorem WAt.keep {w w' : World} {A : Option Addr} {ws : List Int} (h : WAt w A ws) (hk : ∀ b o x, w.cell? ⟨b, o, none⟩ = some (.int .u64 x) → w'.cell? ⟨b, o, none⟩ = some (.int .u64 x)) : WAt w' A ws := by
  refine ⟨h.1, fun hn => ?_⟩
  obtain ⟨blk, off, e, hc⟩ := h.2 hn
  exact ⟨blk, off, e, fun i x hx => hk _ _ _ (hc i x hx)⟩
theorem WsAt.keep {w w' : World} {A : Option Addr} {W : List (List Int)} (h : WsAt w A W) (hk : ∀ b o x, w.cell? ⟨b, o, none⟩ = some (.int .u64 x) → w'.cell? ⟨b, o, none⟩ = some (.int .u64 x))
    (hk2 : ∀ b o A n c, w.cell? ⟨b, o, none⟩ = some (.slice A n c) → w'.cell? ⟨b, o, none⟩ = some (.slice A n c)) : WsAt w' A W := by
  intro hn
  obtain ⟨blk, off, e, hc⟩ := h hn
  refine ⟨blk, off, e, fun i ws hws => ?_⟩
  obtain ⟨A', c, h1, h2, h4⟩ := hc i ws hws
  exact ⟨A', c, hk2 _ _ _ _ _ h1, h2, h4.keep hk⟩
theorem WAt.below {w w' : World} {A : Option Addr} {ws : List Int} (h : WAt w A ws) (hb : Below w.heap.size w w') : WAt w' A ws :=
  h.keep fun b o x hx => (hb.cell (p := ⟨b, o, none⟩) (cell_some_lt hx)).trans hx
theorem WsAt.below {w w' : World} {A : Option Addr} {W : List (List Int)} (h : WsAt w A W) (hb : Below w.heap.size w w') : WsAt w' A W :=
  h.keep (fun b o x hx => (hb.cell (p := ⟨b, o, none⟩) (cell_some_lt hx)).trans hx) (fun b o _ _ _ hx => (hb.cell (p := ⟨b, o, none⟩) (cell_some_lt hx)).trans hx)
/-- a block of bytes has turned -/
theorem keep_turn {w w' : World} {q : Nat} {f : Nat → Int} {t : TypeId} (hq : w.heap[q]? = some (.cells (bytes f) t (0, 0))) (hg : w.grownBy w' (some q)) {b o : Nat} {v : Value} (hv : ∀ x, v ≠ .int .u8 x) (h : w.cell? ⟨b, o, none⟩ = some v) : w'.cell? ⟨b, o, none⟩ = some v := by
  have hne : b ≠ q := by
    rintro rfl
    rw [blk_cell hq] at h
    by_cases hk : o < 65536
    · rw [bytes_at _ _ hk] at h; injection h with h; exact hv _ h.symm
    · rw [Array.getElem?_eq_none (by rw [bytes_size]; omega)] at h; cases h
  exact (World.cell?_of_block (a := ⟨b, o, none⟩) (hg.block b (cell_some_lt h) (by simpa using hne))).trans h
theorem WAt.turn {w w' : World} {q : Nat} {f : Nat → Int} {t : TypeId} {A : Option Addr} {ws : List Int} (h : WAt w A ws) (hq : w.heap[q]? = some (.cells (bytes f) t (0, 0))) (hg : w.grownBy w' (some q)) : WAt w' A ws :=
  h.keep fun b o x hx => keep_turn hq hg (fun y e => by cases e) hx
theorem WsAt.turn {w w' : World} {q : Nat} {f : Nat → Int} {t : TypeId} {A : Option Addr} {W : List (List Int)} (h : WsAt w A W) (hq : w.heap[q]? = some (.cells (bytes f) t (0, 0))) (hg : w.grownBy w' (some q)) : WsAt w' A W :=
  h.keep (fun b o x hx => keep_turn hq hg (fun y e => by cases e) hx) (fun b o _ _ _ hx => keep_turn hq hg (fun y e => by cases e) hx)
theorem WAt.at_ {w : World} {A : Option Addr} {ws : List Int} (h : WAt w A ws) {k : Nat} (hk : k < ws.length) :
    ∃ blk off x, A = some ⟨blk, off, none⟩ ∧ ws[k]? = some x ∧ w.cell? ⟨blk, off + k, none⟩ = some (.int .u64 x) ∧ 0 ≤ x ∧ x ≤ 18446744073709551615 := by
  obtain ⟨blk, off, e, hc⟩ := h.2 (by omega)
  have e1 : ws[k]? = some ws[k] := List.getElem?_eq_getElem hk
  obtain ⟨h1, h2⟩ := h.1 _ (List.getElem_mem hk)
  exact ⟨blk, off, _, e, e1, hc k _ e1, h1, h2⟩
theorem WsAt.at_ {w : World} {A : Option Addr} {W : List (List Int)} (h : WsAt w A W) {k : Nat} (hk : k < W.length) :
    ∃ blk off ws A' c, A = some ⟨blk, off, none⟩ ∧ W[k]? = some ws ∧ w.cell? ⟨blk, off + k, none⟩ = some (.slice A' ws.length c) ∧ ws.length ≤ 9223372036854775807 ∧ WAt w A' ws := by
  obtain ⟨blk, off, e, hc⟩ := h (by omega)
  have e1 : W[k]? = some W[k] := List.getElem?_eq_getElem hk
  obtain ⟨A', c, h1, h2, h4⟩ := hc k _ e1
  exact ⟨blk, off, _, A', c, e, e1, h1, h2, h4⟩


def fitsB (L : List Reg) (W : List (List Int)) : Bool := decide (L.length = W.length) && (List.range L.length).all fun i => decide (((W.getD i []).length : Int) = (L.getD i default).size)
theorem fits_yes {L : List Reg} {W : List (List Int)} {n : Nat} (h : L.length = n) (h2 : W.length = n) (h3 : ∀ i r ws, i < n → L[i]? = some r → W[i]? = some ws → (ws.length : Int) = r.size) : fitsB L W = true := by
  unfold fitsB
  rw [Bool.and_eq_true, List.all_eq_true]
  refine ⟨by simp; omega, fun i hi => ?_⟩
  have hi' := List.mem_range.1 hi
  have e1 : L[i]? = some L[i] := List.getElem?_eq_getElem hi'
  have e2 : W[i]? = some W[i] := List.getElem?_eq_getElem (by omega)
  rw [List.getD_eq_getElem?_getD, List.getD_eq_getElem?_getD, e1, e2]
  have := h3 i _ _ (by omega) e1 e2
  simpa using this
theorem fits_no {L : List Reg} {W : List (List Int)} {i : Nat} {r : Reg} {ws : List Int} (h1 : L[i]? = some r) (h2 : W[i]? = some ws) (h3 : (ws.length : Int) ≠ r.size) : fitsB L W = false := by
  rw [← Bool.not_eq_true]
  unfold fitsB
  rw [Bool.and_eq_true, List.all_eq_true]
  rintro ⟨_, h⟩
  have := h i (List.mem_range.2 (List.getElem?_eq_some_iff.1 h1).1)
  rw [List.getD_eq_getElem?_getD, List.getD_eq_getElem?_getD, h1, h2] at this
  exact h3 (by simpa using this)
theorem fits_len {L : List Reg} {W : List (List Int)} (h : fitsB L W = true) : L.length = W.length := by
  unfold fitsB at h
  rw [Bool.and_eq_true] at h
  simpa using h.1
theorem fits_at {L : List Reg} {W : List (List Int)} {i : Nat} {r : Reg} {ws : List Int} (h : fitsB L W = true) (h1 : L[i]? = some r) (h2 : W[i]? = some ws) : (ws.length : Int) = r.size := by
  unfold fitsB at h
  rw [Bool.and_eq_true, List.all_eq_true] at h
  have := h.2 i (List.mem_range.2 (List.getElem?_eq_some_iff.1 h1).1)
  rw [List.getD_eq_getElem?_getD, List.getD_eq_getElem?_getD, h1, h2] at this
  simpa using this

set_option maxRecDepth 100000 in
set_option maxHeartbeats 2000000 in
theorem fits_any (A A' : Option Addr) (n c n' c' : Nat) (L : List Reg) (W : List (List Int)) (w : World) (hv : RegsAt w w.heap.size A n L) (hW : W.length = n') (hw : WsAt w A' W) (hn : n ≤ 9223372036854775807) (hn' : n' ≤ 9223372036854775807) :
    Calls Tryz.prog 79 #[.slice A n c, .slice A' n' c'] w (BoolPost (fitsB L W) w) := by
  have hv' := Lib.hid hv
  have hw' := Lib.hid hw
  have hV' := Lib.hid hv.1
  have hW' := Lib.hid hW
  clear hv hw hW
  by_cases hnn : n = n'
  · subst hnn
    go_enter Tryz.func79, Tryz.ntmps79
    go_wp2_with fail
    go_loopg [5] n (fun g s4 wr => ∃ k : Nat, k + g = n ∧ s4 = .int .i64 k ∧ (∀ i r ws, i < k → L[i]? = some r → W[i]? = some ws → (ws.length : Int) = r.size) ∧ Below w.heap.size w wr)
    case atStart => exact ⟨0, by omega, rfl, fun i _ _ h => absurd h (by omega), Below.refl _ _⟩
    case round =>
      obtain ⟨k, hkg, rfl, hall, hb⟩ := hrel
      have hall' := Lib.hid hall
      have hb' := Lib.hid hb
      clear hall hb
      cases gk with
      | zero =>
        have e0 : ¬ ((k : Int) < (n : Int)) := by omega
        have hfin := Lib.hid (show fitsB L W = true from fits_yes hV'.out hW'.out fun i r ws hi => hall'.out i r ws (by omega))
        go_wp2
        go_ret
        exact ⟨ret_bool hfin.out.symm, hb'.out⟩
      | succ g =>
        have e0 : (k : Int) < (n : Int) := by omega
        obtain ⟨blk, off, r, rfl, hB, hL, hR, hW⟩ := (hv'.out.below hb'.out).at_ (k := k) (by omega)
        obtain ⟨blk', off', ws, Ai', ci', rfl, hws, w1, w2, w4⟩ := (hw'.out.below hb'.out).at_ (k := k) (by rw [hW'.out]; omega)
        obtain ⟨r0, r1, r2, r3⟩ := hR
        have hL' := Lib.hid hL
        have hws' := Lib.hid hws
        have hW2 := Lib.hid hW
        clear hL hws hW w4
        by_cases hrs : (ws.length : Int) = r.size
        · have hd : ((ws.length : Int) != r.size) = false := by simp [hrs]
          go_wp2
          go_quiet (fail)
          go_wp2
          go_roundg g
          case measure => omega
          case rel =>
            refine ⟨k + 1, by omega, by go_num, fun i r' ws' hi hr' hws2 => ?_, below_drewN hb'.out _⟩
            rcases Nat.lt_or_ge i k with h | h
            · exact hall'.out i r' ws' h hr' hws2
            · obtain rfl : i = k := by omega
              rw [hL'.out] at hr'
              rw [hws'.out] at hws2
              cases hr'
              cases hws2
              exact hrs
        · have hd : ((ws.length : Int) != r.size) = true := by simp [hrs]
          have hfin := Lib.hid (show fitsB L W = false from fits_no hL'.out hws'.out hrs)
          clear hrs
          go_wp2
          go_quiet (fail)
          go_wp2
          go_ret
          exact ⟨ret_bool hfin.out.symm, below_drewN hb'.out _⟩
  · have hd : ((n : Int) != (n' : Int)) = true := by simp; omega
    have hfin := Lib.hid (show fitsB L W = false by rw [← Bool.not_eq_true]; intro h; exact hnn (by rw [← hV'.out, ← hW'.out, fits_len h]))
    clear hnn
    go_enter Tryz.func79, Tryz.ntmps79
    go_wp2
    go_ret
    exact ⟨ret_bool hfin.out.symm, Below.refl _ _⟩



def fillR (f : Nat → Int) (a : Nat) (ws : List Int) : Nat → Nat → Int
  | 0 => f
  | k + 1 => put8 (fillR f a ws k) (a + 8 * k) (ws.getD k 0)
def fillA (f : Nat → Int) (L : List Reg) (W : List (List Int)) : Nat → Nat → Int
  | 0 => f
  | k + 1 => fillR (fillA f L W k) (L.getD k default).addr.toNat (W.getD k []) (W.getD k []).length
theorem fillR_byte {f : Nat → Int} (hf : ByteFn f) (a : Nat) (ws : List Int) : ∀ k, ByteFn (fillR f a ws k)
  | 0 => hf
  | k + 1 => putN_byte (fillR_byte hf a ws k) _ _ _
theorem fillA_byte {f : Nat → Int} (hf : ByteFn f) (L : List Reg) (W : List (List Int)) : ∀ k, ByteFn (fillA f L W k)
  | 0 => hf
  | k + 1 => fillR_byte (fillA_byte hf L W k) _ _ _
theorem fillA_succ {f : Nat → Int} {L : List Reg} {W : List (List Int)} {k : Nat} {r : Reg} {ws : List Int} (h1 : L[k]? = some r) (h2 : W[k]? = some ws) : fillA f L W (k + 1) = fillR (fillA f L W k) r.addr.toNat ws ws.length := by
  show fillR _ _ _ _ = _
  rw [List.getD_eq_getElem?_getD, List.getD_eq_getElem?_getD, h1, h2]
  rfl
theorem fillR_succ {f : Nat → Int} {a k : Nat} {ws : List Int} {x : Int} (h : ws[k]? = some x) : fillR f a ws (k + 1) = put8 (fillR f a ws k) (a + 8 * k) x := by
  show put8 _ _ _ = _
  rw [List.getD_eq_getElem?_getD, h]
  rfl

theorem put_int {p q : Nat} {A : Option Addr} {n cap : Nat} {L : List Reg} {f : Nat → Int} (a x : Int) (w : World) (h : Mem_ w p q A n cap L f) (ha0 : 0 ≤ a) (hat : a + 8 ≤ 65536) (hx0 : 0 ≤ x) (hx1 : x < 18446744073709551616) :
    Calls Tryz.prog 101 #[.pointer (some ⟨p, 0, none⟩), .int .i64 a, .int .u64 x] w (PutPost w q (put8 f a.toNat x)) := by
  obtain ⟨m, rfl⟩ := Int.eq_ofNat_of_zero_le ha0
  exact put_any m x w h (by omega) hx0 hx1

def OfPost (t : Bool) (f : Nat → Int) (L : List Reg) (n : Nat) (w : World) (e : Ending) (w' : World) : Prop :=
  match t with
  | true => ∃ p q A cap, e = .returned (.tuple #[.pointer (some ⟨p, 0, none⟩), .int .i64 0]) ∧ Mem_ w' p q A n cap L f ∧ n ≤ cap ∧ cap ≤ 9223372036854775807 ∧ w.heap.size ≤ p ∧ w.heap.size ≤ q ∧ Below w.heap.size w w'
  | false => e = .returned (.tuple #[.pointer none, .int .i64 2]) ∧ Below w.heap.size w w'

set_option maxRecDepth 100000 in
set_option maxHeartbeats 2000000 in
theorem of_no (A A' : Option Addr) (n cap n' c' : Nat) (L : List Reg) (w : World) (hr : RegsAt w w.heap.size A n L) (hc : n ≤ cap) (hcm : cap ≤ 9223372036854775807) (hL : mayL L = false) :
    Calls Tryz.prog 77 #[.slice A n cap, .slice A' n' c'] w fun e w' => e = .returned (.tuple #[.pointer none, .int .i64 2]) ∧ Below w.heap.size w w' := by
  have hk := Lib.hid (new_no A n cap L w hr hc hcm hL)
  clear hL hr
  go_enter Tryz.func77, Tryz.ntmps77
  go_wp2_with fail
  refine hk.out.mono ?_
  rintro e w1 ⟨rfl, hb⟩
  have hb' := Lib.hid hb
  clear hb
  go_wp2
  go_ret2
  exact ⟨rfl, hb'.out⟩

set_option maxRecDepth 100000 in
set_option maxHeartbeats 2000000 in
theorem of_any (A A' : Option Addr) (n cap n' c' : Nat) (L : List Reg) (W : List (List Int)) (w : World) (hr : RegsAt w w.heap.size A n L) (hc : n ≤ cap) (hcm : cap ≤ 9223372036854775807) (hL : mayL L = true)
    (hW : W.length = n') (hw : WsAt w A' W) (hn' : n' ≤ 9223372036854775807) :
    Calls Tryz.prog 77 #[.slice A n cap, .slice A' n' c'] w (OfPost (fitsB L W) (fillA (fun _ => 0) L W n) L n w) := by
  have hk := Lib.hid (new_yes A n cap L w hr hc hcm hL)
  have hm' := Lib.hid (mayL_mem hL)
  have hn16 : n ≤ 16 := by rw [← hr.1]; exact mayL_len hL
  have hr' := Lib.hid hr
  have hW' := Lib.hid hW
  have hw' := Lib.hid hw
  obtain ⟨t, ht⟩ : ∃ t, fitsB L W = t := ⟨_, rfl⟩
  rw [ht]
  have ht' := Lib.hid ht
  clear hr hL hW hw ht
  go_enter Tryz.func77, Tryz.ntmps77
  go_wp2_with fail
  refine hk.out.mono ?_
  rintro e w1 ⟨p, q, A1, cap1, rfl, hM, z1, z2, z3, z4, hb⟩
  have hM' := Lib.hid hM
  have hb' := Lib.hid hb
  clear hM hb
  by_cases hnn : n = n'
  · subst hnn
    go_wp2_with fail
    go_loopg [28] n (fun g s4 wr => ∃ k : Nat, k + g = n ∧ s4 = .int .i64 k ∧ wr.heap[q]? = some (.cells (bytes (fillA (fun _ => 0) L W k)) 162 (0, 0)) ∧ w1.grownBy wr (some q) ∧ ∀ i r ws, i < k → L[i]? = some r → W[i]? = some ws → (ws.length : Int) = r.size)
    case atStart => exact ⟨0, by omega, rfl, hM'.out.hq, World.grownBy.refl w1 _, fun i _ _ h => absurd h (by omega)⟩
    case round =>
      obtain ⟨k, hkg, rfl, hq, hg, hall⟩ := hrel
      have hq' := Lib.hid hq
      have hg' := Lib.hid hg
      have hall' := Lib.hid hall
      have hbg := Lib.hid (hb'.out.grown hg hb'.out.size (fun k e => by cases e; exact z4))
      clear hq hg hall
      cases gk with
      | zero =>
        have e0 : ¬ ((k : Int) < (n : Int)) := by omega
        have hkn : k = n := by omega
        have hfin := ht'.out
        rw [fits_yes hr'.out.1 hW'.out (fun i r ws hi => hall'.out i r ws (by omega))] at hfin
        subst hfin
        rw [hkn] at hq'
        clear hkn
        go_wp2
        go_ret2
        exact ⟨p, q, A1, cap1, rfl, hM'.out.turn hg'.out hq'.out (fillA_byte hM'.out.hf _ _ _), z1, z2, z3, z4, hbg.out⟩
      | succ g =>
        have e0 : (k : Int) < (n : Int) := by omega
        obtain ⟨blk, off, r, rfl, hB, hL, hR, hWf⟩ := (hr'.out.below hb'.out).at_ (k := k) (by omega)
        obtain ⟨blk', off', ws, Ai', ci', rfl, hws, w1', w2, w4⟩ := (hw'.out.below hb'.out).at_ (k := k) (by rw [hW'.out]; omega)
        obtain ⟨m1, m2, m3, m4, m5, m6, m7⟩ := (mayB_iff r).1 (hm'.out r (List.mem_of_getElem? hL))
        have v1 := keep_turn hM'.out.hq hg'.out (v := .slice Ai' ws.length ci') (fun y e => by cases e) w1'
        have r2 := keep_turn hM'.out.hq hg'.out (v := .int .i64 r.size) (fun y e => by cases e) hR.2.2.1
        have hL' := Lib.hid hL
        have hws' := Lib.hid hws
        have w4' := Lib.hid w4
        have hR' := Lib.hid hR
        clear hL hws w1' w4 hWf hR
        by_cases hsz : (ws.length : Int) = r.size
        · have hd : ((ws.length : Int) != r.size) = false := by simp [hsz]
          go_wp2_with fail
          clear v1 r2
          go_loopg [43] ws.length (fun g2 s5 wy => ∃ j : Nat, j + g2 = ws.length ∧ s5 = .int .i64 j ∧ wy.heap[q]? = some (.cells (bytes (fillR (fillA (fun _ => 0) L W k) r.addr.toNat ws j)) 162 (0, 0)) ∧ w1.grownBy wy (some q))
          case atStart => exact ⟨0, by omega, rfl, hq'.out, hg'.out⟩
          case round =>
            obtain ⟨j, hjg, rfl, hq2, hg2⟩ := hrel
            have hq2' := Lib.hid hq2
            have hg2' := Lib.hid hg2
            have Hy := hM'.out.turn hg2 hq2 (fillR_byte (fillA_byte hM'.out.hf _ _ _) _ _ _)
            clear hq2 hg2
            cases gk with
            | zero =>
              have e1 : ¬ ((j : Int) < (ws.length : Int)) := by omega
              have hjn := Lib.hid (show j = ws.length by omega)
              clear Hy
              go_wp2
              go_roundg g
              case measure => omega
              case rel =>
                refine ⟨k + 1, by omega, by go_num, ?_, hg2'.out, fun i r' ws' hi hr2 hws2 => ?_⟩
                · rw [fillA_succ hL'.out hws'.out, ← hjn.out]
                  exact hq2'.out
                · rcases Nat.lt_or_ge i k with h | h
                  · exact hall'.out i r' ws' h hr2 hws2
                  · obtain rfl : i = k := by omega
                    rw [hL'.out] at hr2
                    rw [hws'.out] at hws2
                    cases hr2
                    cases hws2
                    exact hsz
            | succ g2 =>
              have e1 : (j : Int) < (ws.length : Int) := by omega
              obtain ⟨b2, o2, x, rfl, hx, x1, x2, x3⟩ := (w4'.out.turn hM'.out.hq hg2'.out).at_ (k := j) (by omega)
              have r1 := keep_turn hM'.out.hq hg2'.out (v := .int .i64 r.addr) (fun y e => by cases e) hR'.out.2.1
              have e2 : (j : Int) < 512 := by omega
              have hx' := Lib.hid hx
              have hput := Lib.hid (put_int (r.addr + 8 * j) x wr Hy (by omega) (by omega) x2 (by omega))
              clear Hy hx
              go_wp2_with fail
              refine hput.out.mono ?_
              rintro e w3 ⟨rfl, hq3, hg3⟩
              have hq3' := Lib.hid hq3
              have hg3' := Lib.hid (grown_trans hg2'.out hg3)
              clear hq3 hg3
              go_wp2
              go_roundg g2
              case measure => omega
              case rel =>
                refine ⟨j + 1, by omega, by go_num, ?_, hg3'.out⟩
                rw [fillR_succ hx'.out, show r.addr.toNat + 8 * j = (r.addr + 8 * (j : Int)).toNat by omega]
                exact hq3'.out
        · have hd : ((ws.length : Int) != r.size) = true := by simp [hsz]
          have hfin := ht'.out
          rw [fits_no hL'.out hws'.out hsz] at hfin
          subst hfin
          go_wp2
          go_ret2
          exact ⟨rfl, hbg.out⟩
  · have hd : ((n' : Int) != (n : Int)) = true := by simp; omega
    have hfin : t = false := by
      rw [← ht'.out, ← Bool.not_eq_true]
      intro h
      exact hnn (by rw [← hr'.out.1, ← hW'.out, fits_len h])
    subst hfin
    clear hnn
    go_wp2
    go_ret2
    exact ⟨rfl, hb'.out⟩
end Go.Proofs.YtkbmckmlnphpmaaGreatDoor.Me
