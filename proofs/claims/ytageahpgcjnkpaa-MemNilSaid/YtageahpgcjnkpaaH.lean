/- What an address is asked for; loads and stores. -/
import Derived.Test.YtageahpgcjnkpaaG
set_option linter.unusedSimpArgs false
set_option linter.unusedVariables false
namespace Go.Proofs.Ytageahpgcjnkpaa
open Go.RowKit

def askI (L : List Reg) (a b : Int) : Int := if a % b ≠ 0 then 2 else if (placeI L a).1 = -2 then 14 else 0
def One (x : Int) (w : World) (e : Ending) (w' : World) : Prop := e = .returned (.int .i64 x) ∧ Below w.heap.size w w'

set_option maxHeartbeats 1000000 in
theorem ask_odd {p q : Nat} {A : Option Addr} {n cap : Nat} {L : List Reg} {f : Nat → Int} (a b : Int) (w : World) (h : Mem_ w p q A n cap L f) (ha0 : 0 ≤ a) (ha1 : a < 18446744073709551616) (hb : b = 1 ∨ b = 8) (hr : a % b ≠ 0) :
    Calls Try.prog 45 #[.pointer (some ⟨p, 0, none⟩), .int .u64 a, .int .u64 b] w (One 2 w) := by
  have H := Lib.hid h
  clear h
  have h8 : b = 8 := by
    rcases hb with rfl | rfl
    · omega
    · rfl
  subst h8
  have hd : (a % 8 != 0) = true := by simpa using hr
  clear hr hb
  go_enter Try.func45, Try.ntmps45
  go_wp2_with fail
  refine (there_any _ H.out).mono ?_
  rintro e w1 ⟨rfl, rfl⟩
  go_wp2
  go_ret
  exact ⟨rfl, Below.refl _ _⟩

set_option maxHeartbeats 1000000 in
theorem ask_even {p q : Nat} {A : Option Addr} {n cap : Nat} {L : List Reg} {f : Nat → Int} (a b x y : Int) (w : World) (h : Mem_ w p q A n cap L f) (hm : ∀ r ∈ L, mayB r = true) (ha0 : 0 ≤ a) (ha1 : a < 18446744073709551616) (hb : b = 1 ∨ b = 8) (hr : a % b = 0)
    (hx : (placeI L a).1 = x) (hy : (placeI L a).2 = y) (t : Bool) (ht : (x == -2) = t) :
    Calls Try.prog 45 #[.pointer (some ⟨p, 0, none⟩), .int .u64 a, .int .u64 b] w (One (if t then 14 else 0) w) := by
  have H := Lib.hid h
  have hm' := Lib.hid hm
  clear h hm
  have hd : (a % b != 0) = false := by simpa using hr
  have hp := Lib.hid (fun w h => place_any (p := p) (q := q) (A := A) (n := n) (cap := cap) (f := f) a w h hm'.out ha0 ha1)
  rw [hx, hy] at hp
  clear hr hx hy
  rcases hb with rfl | rfl <;> cases t
  all_goals
    go_enter Try.func45, Try.ntmps45
    go_wp2_with fail
    refine (there_any _ H.out).mono ?_
    rintro e w1 ⟨rfl, rfl⟩
    go_wp2_with fail
    refine (hp.out _ H.out).mono ?_
    rintro e w1 ⟨rfl, hb⟩
    have hb' := Lib.hid hb
    clear hb
    go_wp2
    go_ret
    exact ⟨rfl, hb'.out⟩

theorem ask_any {p q : Nat} {A : Option Addr} {n cap : Nat} {L : List Reg} {f : Nat → Int} (a b : Int) (w : World) (h : Mem_ w p q A n cap L f) (hm : ∀ r ∈ L, mayB r = true) (ha0 : 0 ≤ a) (ha1 : a < 18446744073709551616) (hb : b = 1 ∨ b = 8) :
    Calls Try.prog 45 #[.pointer (some ⟨p, 0, none⟩), .int .u64 a, .int .u64 b] w (One (askI L a b) w) := by
  unfold askI
  by_cases hr : a % b = 0
  · rw [if_neg (by simpa using hr)]
    have := ask_even a b _ _ w h hm ha0 ha1 hb hr rfl rfl _ rfl
    by_cases hx : (placeI L a).1 = -2
    · rw [if_pos hx]; rw [hx] at this; exact this
    · rw [if_neg hx]; rw [beq_eq_false_iff_ne.2 hx] at this; exact this
  · rw [if_pos hr]; exact ask_odd a b w h ha0 ha1 hb hr
/-- an address that lies within is below the end -/
theorem ask_0 {L : List Reg} {a b : Int} (h : askI L a b = 0) (hm : ∀ r ∈ L, mayB r = true) : a < 65536 ∧ a % b = 0 ∧ (placeI L a).1 ≠ -2 := by
  unfold askI at h
  by_cases hr : a % b = 0
  · rw [if_neg (by simpa using hr)] at h
    by_cases hx : (placeI L a).1 = -2
    · rw [if_pos hx] at h; omega
    · refine ⟨?_, hr, hx⟩
      rcases Int.lt_or_le a 65536 with k | k
      · exact k
      · exact absurd (by unfold placeI; rw [if_pos k]) hx
  · rw [if_pos hr] at h; omega
theorem ask_cases (L : List Reg) (a b : Int) : askI L a b = 0 ∨ askI L a b = 2 ∨ askI L a b = 14 := by unfold askI; split <;> (try split) <;> simp

def loadI (L : List Reg) (f : Nat → Int) (a : Int) : Int := if askI L a 8 = 0 then get8 f a.toNat else 0
def loadB (L : List Reg) (f : Nat → Int) (a : Int) : Int := if askI L a 1 = 0 then f a.toNat else 0
def LoadPost (k : IntKind) (x er : Int) (w : World) (e : Ending) (w' : World) : Prop := e = .returned (.tuple #[.int k x, .int .i64 er]) ∧ Below w.heap.size w w'

set_option maxHeartbeats 1000000 in
theorem load_any {p q : Nat} {A : Option Addr} {n cap : Nat} {L : List Reg} {f : Nat → Int} (a : Int) (w : World) (h : Mem_ w p q A n cap L f) (hm : ∀ r ∈ L, mayB r = true) (ha0 : 0 ≤ a) (ha1 : a < 18446744073709551616) :
    Calls Try.prog 19 #[.pointer (some ⟨p, 0, none⟩), .int .u64 a] w (LoadPost .u64 (loadI L f a) (askI L a 8) w) := by
  have H := Lib.hid h
  have hm' := Lib.hid hm
  have hk := Lib.hid (ask_any a 8 w h hm ha0 ha1 (.inr rfl))
  have h0 := fun k => ask_0 (L := L) (a := a) (b := 8) k hm
  unfold loadI
  obtain ⟨er, her⟩ : ∃ er, askI L a 8 = er := ⟨_, rfl⟩
  rw [her] at hk h0 ⊢
  clear h hm her
  by_cases he : er = 0
  · obtain ⟨h1, h2, h3⟩ := h0 he
    subst he
    rw [if_pos rfl]
    obtain ⟨m, rfl⟩ := Int.eq_ofNat_of_zero_le ha0
    rw [Int.toNat_natCast]
    have hle : m + 8 ≤ 65536 := by omega
    clear h0 h2 h3
    go_enter Try.func19, Try.ntmps19
    go_wp2_with fail
    refine (hk.out).mono ?_
    rintro e w1 ⟨rfl, hb⟩
    have hb' := Lib.hid hb
    clear hb
    go_wp2_with fail
    refine (get_any m _ (H.out.below hb'.out) hle).mono ?_
    rintro e w2 ⟨rfl, rfl⟩
    go_wp2
    go_ret2
    exact ⟨rfl, hb'.out⟩
  · rw [if_neg he]
    have hd : (er != 0) = true := by simpa using he
    clear h0 he
    go_enter Try.func19, Try.ntmps19
    go_wp2_with fail
    refine (hk.out).mono ?_
    rintro e w1 ⟨rfl, hb⟩
    have hb' := Lib.hid hb
    clear hb
    go_wp2
    go_ret2
    exact ⟨rfl, hb'.out⟩

set_option maxHeartbeats 1000000 in
theorem loadByte_any {p q : Nat} {A : Option Addr} {n cap : Nat} {L : List Reg} {f : Nat → Int} (a : Int) (w : World) (h : Mem_ w p q A n cap L f) (hm : ∀ r ∈ L, mayB r = true) (ha0 : 0 ≤ a) (ha1 : a < 18446744073709551616) :
    Calls Try.prog 21 #[.pointer (some ⟨p, 0, none⟩), .int .u64 a] w (LoadPost .u8 (loadB L f a) (askI L a 1) w) := by
  have H := Lib.hid h
  have hm' := Lib.hid hm
  have hk := Lib.hid (ask_any a 1 w h hm ha0 ha1 (.inl rfl))
  have h0 := fun k => ask_0 (L := L) (a := a) (b := 1) k hm
  unfold loadB
  obtain ⟨er, her⟩ : ∃ er, askI L a 1 = er := ⟨_, rfl⟩
  rw [her] at hk h0 ⊢
  clear h hm her
  by_cases he : er = 0
  · obtain ⟨h1, h2, h3⟩ := h0 he
    subst he
    rw [if_pos rfl]
    obtain ⟨m, rfl⟩ := Int.eq_ofNat_of_zero_le ha0
    rw [Int.toNat_natCast]
    have hle : m < 65536 := by omega
    clear h0 h2 h3
    go_enter Try.func21, Try.ntmps21
    go_wp2_with fail
    refine (hk.out).mono ?_
    rintro e w1 ⟨rfl, hb⟩
    have hb' := Lib.hid hb
    have c1 := (H.out.below hb).c1
    have cb := (H.out.below hb).byte m hle
    clear hb
    go_wp2
    go_ret2
    exact ⟨rfl, hb'.out⟩
  · rw [if_neg he]
    have hd : (er != 0) = true := by simpa using he
    clear h0 he
    go_enter Try.func21, Try.ntmps21
    go_wp2_with fail
    refine (hk.out).mono ?_
    rintro e w1 ⟨rfl, hb⟩
    have hb' := Lib.hid hb
    clear hb
    go_wp2
    go_ret2
    exact ⟨rfl, hb'.out⟩

/-- a store: the bytes turn, if the address lies within -/
def storeF (L : List Reg) (f : Nat → Int) (a x : Int) : Nat → Int := if askI L a 8 = 0 then put8 f a.toNat x else f
def storeG (L : List Reg) (f : Nat → Int) (a x : Int) : Nat → Int := if askI L a 1 = 0 then upd f a.toNat x else f
def StorePost (q : Nat) (g : Nat → Int) (er : Int) (w : World) (e : Ending) (w' : World) : Prop :=
  e = .returned (.int .i64 er) ∧ w'.heap[q]? = some (.cells (bytes g) 83 (0, 0)) ∧ w.grownBy w' (some q)
theorem grown_trans {a b c : World} {row : Option Nat} (h : a.grownBy b row) (k : b.grownBy c row) : a.grownBy c row :=
  ⟨k.os.trans h.os, k.tape.trans h.tape, k.output.trans h.output, Nat.le_trans h.size k.size, fun i hi hne => (k.block i (Nat.lt_of_lt_of_le hi h.size) hne).trans (h.block i hi hne)⟩

set_option maxHeartbeats 1000000 in
theorem store_any {p q : Nat} {A : Option Addr} {n cap : Nat} {L : List Reg} {f : Nat → Int} (a x : Int) (w : World) (h : Mem_ w p q A n cap L f) (hm : ∀ r ∈ L, mayB r = true) (ha0 : 0 ≤ a) (ha1 : a < 18446744073709551616) (hx0 : 0 ≤ x) (hx1 : x < 18446744073709551616) :
    Calls Try.prog 20 #[.pointer (some ⟨p, 0, none⟩), .int .u64 a, .int .u64 x] w (StorePost q (storeF L f a x) (askI L a 8) w) := by
  have H := Lib.hid h
  have hm' := Lib.hid hm
  have hk := Lib.hid (ask_any a 8 w h hm ha0 ha1 (.inr rfl))
  have h0 := fun k => ask_0 (L := L) (a := a) (b := 8) k hm
  unfold storeF
  obtain ⟨er, her⟩ : ∃ er, askI L a 8 = er := ⟨_, rfl⟩
  rw [her] at hk h0 ⊢
  clear h hm her
  by_cases he : er = 0
  · obtain ⟨h1, h2, h3⟩ := h0 he
    subst he
    rw [if_pos rfl]
    obtain ⟨m, rfl⟩ := Int.eq_ofNat_of_zero_le ha0
    rw [Int.toNat_natCast]
    have hle : m + 8 ≤ 65536 := by omega
    clear h0 h2 h3
    go_enter Try.func20, Try.ntmps20
    go_wp2_with fail
    refine (hk.out).mono ?_
    rintro e w1 ⟨rfl, hb⟩
    have hb' := Lib.hid hb
    clear hb
    go_wp2_with fail
    refine (put_any m x _ (H.out.below hb'.out) hle hx0 hx1).mono ?_
    rintro e w2 ⟨rfl, hq, hg⟩
    have hq' := Lib.hid hq
    have hg' := Lib.hid (grown_trans (grown_of_below hb'.out _) hg)
    clear hq hg
    go_wp2
    go_ret
    exact ⟨rfl, hq'.out, hg'.out⟩
  · rw [if_neg he]
    have hd : (er == 0) = false := by simpa using he
    clear h0 he
    go_enter Try.func20, Try.ntmps20
    go_wp2_with fail
    refine (hk.out).mono ?_
    rintro e w1 ⟨rfl, hb⟩
    have hb' := Lib.hid hb
    clear hb
    go_wp2
    go_ret
    exact ⟨rfl, (H.out.below hb'.out).hq, grown_of_below hb'.out _⟩

set_option maxHeartbeats 1000000 in
theorem storeByte_any {p q : Nat} {A : Option Addr} {n cap : Nat} {L : List Reg} {f : Nat → Int} (a x : Int) (w : World) (h : Mem_ w p q A n cap L f) (hm : ∀ r ∈ L, mayB r = true) (ha0 : 0 ≤ a) (ha1 : a < 18446744073709551616) :
    Calls Try.prog 22 #[.pointer (some ⟨p, 0, none⟩), .int .u64 a, .int .u8 x] w (StorePost q (storeG L f a x) (askI L a 1) w) := by
  have H := Lib.hid h
  have hm' := Lib.hid hm
  have hk := Lib.hid (ask_any a 1 w h hm ha0 ha1 (.inl rfl))
  have h0 := fun k => ask_0 (L := L) (a := a) (b := 1) k hm
  unfold storeG
  obtain ⟨er, her⟩ : ∃ er, askI L a 1 = er := ⟨_, rfl⟩
  rw [her] at hk h0 ⊢
  clear h hm her
  by_cases he : er = 0
  · obtain ⟨h1, h2, h3⟩ := h0 he
    subst he
    rw [if_pos rfl]
    obtain ⟨m, rfl⟩ := Int.eq_ofNat_of_zero_le ha0
    rw [Int.toNat_natCast]
    have hle : m < 65536 := by omega
    clear h0 h2 h3
    go_enter Try.func22, Try.ntmps22
    go_wp2_with fail
    refine (hk.out).mono ?_
    rintro e w1 ⟨rfl, hb⟩
    have hb' := Lib.hid hb
    have hq := Lib.hid (H.out.below hb).hq
    have c1 := (H.out.below hb).c1
    have cb := (H.out.below hb).byte m hle
    have cf := blk_frozen (H.out.below hb).hq m
    clear hb
    go_wp2
    go_ret
    refine ⟨rfl, ?_, grown_set (grown_of_below hb'.out _) (.inl rfl) _⟩
    rw [heap_setCell_same _ _ _ _ _ _ hq.out, bytes_set]
  · rw [if_neg he]
    have hd : (er == 0) = false := by simpa using he
    clear h0 he
    go_enter Try.func22, Try.ntmps22
    go_wp2_with fail
    refine (hk.out).mono ?_
    rintro e w1 ⟨rfl, hb⟩
    have hb' := Lib.hid hb
    clear hb
    go_wp2
    go_ret
    exact ⟨rfl, (H.out.below hb'.out).hq, grown_of_below hb'.out _⟩
end Go.Proofs.Ytageahpgcjnkpaa
