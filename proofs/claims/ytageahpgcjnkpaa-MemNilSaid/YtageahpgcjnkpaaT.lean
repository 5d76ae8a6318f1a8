/- The reference's words of bytes, its places, its loads and stores. -/
import Derived.Test.YtageahpgcjnkpaaS
import Derived.Test.YtageahpgcjnkpaaM2
set_option linter.unusedSimpArgs false
set_option linter.unusedVariables false
namespace Go.Proofs.Ytageahpgcjnkpaa
open Go.RowKit

section
variable {w w' : World} {p q : Nat} {A : Option Addr} {n cap : Nat} {L : List Reg} {f : Nat → Int}
theorem RMem_.byte (h : RMem_ w p q A n cap L f) (i : Nat) (hi : i < 65536) : w.cell? ⟨q, i, none⟩ = some (.int .u8 (f i)) := by rw [blk_cell h.hq, bytes_at _ _ hi]
theorem RMem_.ne (h : RMem_ w p q A n cap L f) : p ≠ q := by
  intro e
  have h1 := h.hp
  have h2 := h.hq
  rw [e, h2] at h1
  injection h1 with h1
  injection h1 with _ ht
  exact absurd ht (by decide)
theorem regs_turn {t : TypeId} {B : Nat} (h : RegsAt w B A n L) (hB : B ≤ w.heap.size) (hq : w.heap[q]? = some (.cells (bytes f) t (0, 0))) (hg : w.grownBy w' (some q)) : RegsAt w' B A n L := by
  obtain ⟨hl, hw, hc⟩ := h
  refine ⟨hl, hw, fun hn => ?_⟩
  obtain ⟨blk, off, rfl, hb, hi⟩ := hc hn
  refine ⟨blk, off, rfl, hb, fun i r hr => ?_⟩
  obtain ⟨a, b, c, d⟩ := hi i r hr
  exact ⟨keep_turn hq hg (fun y e => by cases e) a, keep_turn hq hg (fun y e => by cases e) b, keep_turn hq hg (fun y e => by cases e) c, keep_turn hq hg (fun y e => by cases e) d⟩
/-- its bytes have turned alone -/
theorem RMem_.turn {g : Nat → Int} (h : RMem_ w p q A n cap L f) (hb : w.grownBy w' (some q)) (hq : w'.heap[q]? = some (.cells (bytes g) 5 (0, 0))) (hg : ByteFn g) : RMem_ w' p q A n cap L g :=
  ⟨(hb.block p (blk_lt h.hp) (by simp [h.ne])).trans h.hp, hq, (regs_turn h.hr (Nat.le_refl _) h.hq hb).more hb.size, h.hn, hg⟩
/-- another memory's bytes have turned -/
theorem RMem_.other {q' : Nat} {g : Nat → Int} {t : TypeId} (h : RMem_ w p q A n cap L f) (hb : w.grownBy w' (some q')) (hq : w.heap[q']? = some (.cells (bytes g) t (0, 0))) (h1 : p ≠ q') (h2 : q ≠ q') : RMem_ w' p q A n cap L f :=
  ⟨(hb.block p (blk_lt h.hp) (by simp [h1])).trans h.hp, (hb.block q (blk_lt h.hq) (by simp [h2])).trans h.hq, (regs_turn h.hr (Nat.le_refl _) hq hb).more hb.size, h.hn, h.hf⟩
theorem Mem_.other {q' : Nat} {g : Nat → Int} {t : TypeId} (h : Mem_ w p q A n cap L f) (hb : w.grownBy w' (some q')) (hq : w.heap[q']? = some (.cells (bytes g) t (0, 0))) (h1 : p ≠ q') (h2 : q ≠ q') : Mem_ w' p q A n cap L f :=
  ⟨(hb.block p (blk_lt h.hp) (by simp [h1])).trans h.hp, (hb.block q (blk_lt h.hq) (by simp [h2])).trans h.hq, (regs_turn h.hr (Nat.le_refl _) hq hb).more hb.size, h.hn, h.hf⟩
end

/-- the upper part of a word's bytes -/
theorem hi_step (f : Nat → Int) (hf : ByteFn f) (at_ k : Nat) (x : Int) (hk : k < 8) (hx0 : 0 ≤ x) (hx : x < 256 ^ (7 - k)) (he : getN f at_ (k + 1) + x * 256 ^ (k + 1) = get8 f at_) :
    getN f at_ k + (x * 256 + f (at_ + k)) * 256 ^ k = get8 f at_ ∧ 0 ≤ x * 256 + f (at_ + k) ∧ x * 256 + f (at_ + k) < 256 ^ (8 - k) := by
  obtain ⟨h0, h1⟩ := hf (at_ + k)
  refine ⟨?_, by omega, ?_⟩
  · rw [← he]
    simp only [getN, Int.pow_succ, Int.add_mul, Int.mul_assoc, Int.mul_comm (256 : Int)]
    omega
  · have e : (256 : Int) ^ (8 - k) = 256 ^ (7 - k) * 256 := by rw [show 8 - k = (7 - k) + 1 from by omega, Int.pow_succ]
    rw [e]
    omega
theorem pow256_le (k : Nat) (hk : k ≤ 7) : (256 : Int) ^ k ≤ 72057594037927936 := by
  have h := Nat.pow_le_pow_right (n := 256) (by omega) hk
  have e : ((256 : Int) ^ k) = ((256 ^ k : Nat) : Int) := by simp
  rw [e]
  omega

set_option maxRecDepth 100000 in
set_option maxHeartbeats 1000000 in
theorem refGet_any {p q : Nat} {A : Option Addr} {n cap : Nat} {L : List Reg} {f : Nat → Int} (at_ : Nat) (w : World) (h : RMem_ w p q A n cap L f) (hat : at_ + 8 ≤ 65536) :
    Calls Try.prog 51 #[.pointer (some ⟨p, 0, none⟩), .int .i64 at_] w fun e w' => e = .returned (.int .u64 (get8 f at_)) ∧ w = w' := by
  have c1 := h.c1
  have H := Lib.hid h
  clear h
  go_enter Try.func51, Try.ntmps51
  go_wp2_with fail
  go_loopg [5, 6] 8 (fun g x i wr => ∃ v : Int, i = .int .i64 ((g : Int) - 1) ∧ x = .int .u64 v ∧ 0 ≤ v ∧ v < 256 ^ (8 - g) ∧ g ≤ 8 ∧ getN f at_ g + v * 256 ^ g = get8 f at_ ∧ w = wr)
  case atStart => exact ⟨0, rfl, rfl, by omega, by decide, by omega, by simp [get8], rfl⟩
  case round =>
    obtain ⟨v, rfl, rfl, v0, v1, hk, hv, rfl⟩ := hrel
    cases gk with
    | zero =>
      have e1 : ¬ ((0 : Int) ≤ ((0 : Nat) : Int) - 1) := by omega
      obtain rfl : v = get8 f at_ := by simpa [getN] using hv
      clear hv v1 v0
      go_wp2
      go_ret
      exact ⟨rfl, rfl⟩
    | succ g =>
      have e1 : ((g + 1 : Nat) : Int) - 1 = (g : Int) := by omega
      have e2 : (0 : Int) ≤ (g : Int) := by omega
      obtain ⟨s1, s2, s3⟩ := hi_step f H.out.hf at_ g v (by omega) v0 (by rw [show 7 - g = 8 - (g + 1) from by omega]; exact v1) hv
      have hb := H.out.byte (at_ + g) (by omega)
      obtain ⟨b0, b1⟩ := H.out.hf (at_ + g)
      have hv2 : v ≤ 72057594037927935 := by have := pow256_le (8 - (g + 1)) (by omega); omega
      have s1' := Lib.hid s1
      have s3' := Lib.hid s3
      rw [e1]
      clear hv v1 s1 s3
      go_wp2
      go_roundg g
      case measure => omega
      case rel => exact ⟨_, by go_num, rfl, s2, s3'.out, by omega, s1'.out, rfl⟩

def RPutPost (w : World) (q : Nat) (g : Nat → Int) (e : Ending) (w' : World) : Prop :=
  e = .returned (.tuple #[]) ∧ w'.heap[q]? = some (.cells (bytes g) 5 (0, 0)) ∧ w.grownBy w' (some q)

set_option maxRecDepth 100000 in
set_option maxHeartbeats 1000000 in
theorem refPut_any {p q : Nat} {A : Option Addr} {n cap : Nat} {L : List Reg} {f : Nat → Int} (at_ : Nat) (x : Int) (w : World) (h : RMem_ w p q A n cap L f) (hat : at_ + 8 ≤ 65536) (hx0 : 0 ≤ x) (hx1 : x < 18446744073709551616) :
    Calls Try.prog 63 #[.pointer (some ⟨p, 0, none⟩), .int .i64 at_, .int .u64 x] w (RPutPost w q (put8 f at_ x)) := by
  have H := Lib.hid h
  clear h
  go_enter Try.func63, Try.ntmps63
  go_wp2
  go_loopw [6] (fun i wr => ∃ k : Nat, k ≤ 8 ∧ i = .int .i64 k ∧ wr.heap[q]? = some (.cells (bytes (putN f at_ x k)) 5 (0, 0)) ∧ w.grownBy wr (some q)) (fun i _ => 8 - (intOf i).toNat)
  case atStart => exact ⟨0, by omega, rfl, by rw [putN_0]; exact H.out.hq, World.grownBy.refl w _⟩
  case round =>
    obtain ⟨k, hk, rfl, hq, hg⟩ := hrel
    by_cases hlt : k < 8
    · have c1 : wr.cell? ⟨p, 1, none⟩ = some (.slice (some ⟨q, 0, none⟩) 65536 65536) := (World.cell?_of_block (hg.block p (blk_lt H.out.hp) (by simp [H.out.ne]))).trans H.out.c1
      have hb : wr.cell? ⟨q, at_ + k, none⟩ = some (.int .u8 (putN f at_ x k (at_ + k))) := by rw [blk_cell hq, bytes_at _ _ (by omega)]
      have hz : wr.frozen? ⟨q, at_ + k, none⟩ = false := blk_frozen hq _
      have hq' := Lib.hid hq
      have hg' := Lib.hid hg
      clear hq hg
      go_wp2
      go_roundw
      case rel =>
        refine ⟨k + 1, by omega, by go_num, ?_, (grown_set hg'.out (.inl rfl) _)⟩
        have e : (2 : Int) ^ (8 * k) = 256 ^ k := by rw [Int.pow_mul]; rfl
        show (wr.setCell ⟨q, at_ + k, none⟩ _).heap[q]? = _
        rw [heap_setCell_same _ _ _ _ _ _ hq'.out, bytes_set, putN_succ, e]
      case measure => simp [intOf]; omega
    · obtain rfl : k = 8 := by omega
      have hq' := Lib.hid hq
      have hg' := Lib.hid hg
      clear hq hg
      go_wp2
      go_end0
      exact ⟨rfl, hq'.out, hg'.out⟩

theorem find_no {L : List Reg} {a : Int} (h : ∀ j r, j < L.length → L[j]? = some r → hasB a r = false) : findI L a = none := by
  unfold findI
  rw [List.findIdx?_eq_none_iff]
  intro r hr
  obtain ⟨j, hj⟩ := List.getElem?_of_mem hr
  exact h j r (List.getElem?_eq_some_iff.1 hj).1 hj

set_option maxRecDepth 100000 in
set_option maxHeartbeats 1000000 in
theorem refPlace_any {p q : Nat} {A : Option Addr} {n cap : Nat} {L : List Reg} {f : Nat → Int} (a : Int) (w : World) (h : RMem_ w p q A n cap L f) (hm : ∀ r ∈ L, mayB r = true) (ha0 : 0 ≤ a) (ha1 : a < 18446744073709551616) :
    Calls Try.prog 42 #[.pointer (some ⟨p, 0, none⟩), .int .u64 a] w (Two (placeI L a).1 (placeI L a).2 w) := by
  have H := Lib.hid h
  have c0 := h.c0
  have hn := h.hn
  have hlt := blk_lt h.hp
  have hm' := Lib.hid hm
  clear h hm
  obtain ⟨⟨x, y⟩, ht⟩ : ∃ t, placeI L a = t := ⟨_, rfl⟩
  rw [ht]
  unfold placeI at ht
  by_cases h1 : 65536 ≤ a
  · have hd : decide (65536 ≤ a) = true := by simpa using h1
    rw [if_pos h1] at ht
    cases ht
    go_enter Try.func42, Try.ntmps42
    go_wp2
    go_ret2
    exact ⟨rfl, Below.refl _ _⟩
  · rw [if_neg h1] at ht
    have hd : decide (65536 ≤ a) = false := by simpa using h1
    by_cases h2 : 49152 ≤ a
    · have hd2 : decide (49152 ≤ a) = true := by simpa using h2
      rw [if_pos h2] at ht
      cases ht
      have h1' : a ≤ 70000 := by omega
      clear h1
      go_enter Try.func42, Try.ntmps42
      go_wp2
      go_ret2
      exact ⟨rfl, Below.refl _ _⟩
    · have hd2 : decide (49152 ≤ a) = false := by simpa using h2
      rw [if_neg h2] at ht
      have h1' : a ≤ 49151 := by omega
      clear h1 h2
      have hv' := Lib.hid ht
      clear ht
      go_enter Try.func42, Try.ntmps42
      go_wp2_with fail
      go_loopg [7] n (fun g s7 wr => ∃ k : Nat, k + g = n ∧ s7 = .int .i64 k ∧ (∀ j r, j < k → L[j]? = some r → hasB a r = false) ∧ Below w.heap.size w wr)
      case atStart => exact ⟨0, by omega, rfl, fun j r h => absurd h (by omega), Below.refl _ _⟩
      case round =>
        obtain ⟨k, hkg, rfl, hno, hb⟩ := hrel
        have hno' := Lib.hid hno
        have hb' := Lib.hid hb
        have c0' := (hb.cell (p := ⟨p, 0, none⟩) hlt).trans c0
        have c0h := Lib.hid c0
        clear hno hb c0
        cases gk with
        | zero =>
          have e0 : ¬ ((k : Int) < (n : Int)) := by omega
          have hfin := Lib.hid (show findI L a = none from find_no fun j r hj hr => hno'.out j r (by have := H.out.hr.1; omega) hr)
          have hv := hv'.out
          rw [hfin.out] at hv
          cases hv
          go_wp2
          go_ret2
          exact ⟨rfl, hb'.out⟩
        | succ g =>
          have e0 : (k : Int) < (n : Int) := by omega
          obtain ⟨blk, off, r, rfl, hB, hL, hR, hW⟩ := (H.out.hr.below hb'.out).at_ (k := k) (by omega)
          obtain ⟨m1, m2, m3, m4, m5, m6, m7⟩ := (mayB_iff r).1 (hm'.out r (List.mem_of_getElem? hL))
          obtain ⟨r0, r1, r2, r3⟩ := hR
          have hL' := Lib.hid hL
          clear hL hW
          by_cases hlo : r.addr ≤ a
          · have hd3 : decide (r.addr ≤ a) = true := by simpa using hlo
            by_cases hhi : a < r.addr + 8 * r.size
            · have hd4 : decide (a < r.addr + 8 * r.size) = true := by simpa using hhi
              have hfin := Lib.hid (show findI L a = some k from find_some hL'.out (by unfold hasB Reg.end_; rw [hd3, hd4]; rfl) hno'.out)
              have hget := Lib.hid (show L.getD k default = r by rw [List.getD_eq_getElem?_getD, hL'.out]; rfl)
              have hv := hv'.out
              rw [hfin.out] at hv
              dsimp only at hv
              rw [hget.out] at hv
              cases hv
              go_wp2
              go_quiet (fail)
              go_wp2
              go_quiet (fail)
              go_wp2
              go_ret2
              exact ⟨rfl, below_drewN (below_drewN hb'.out _) _⟩
            · have hd4 : decide (a < r.addr + 8 * r.size) = false := by simpa using hhi
              go_wp2
              go_quiet (fail)
              go_wp2
              go_roundg g
              case measure => omega
              case rel =>
                refine ⟨k + 1, by omega, by go_num, fun j r' hj hr2 => ?_, below_drewN hb'.out _⟩
                rcases Nat.lt_or_ge j k with h | h
                · exact hno'.out j r' h hr2
                · obtain rfl : j = k := by omega
                  rw [hL'.out] at hr2
                  cases hr2
                  unfold hasB Reg.end_; rw [hd3, hd4]; rfl
          · have hd3 : decide (r.addr ≤ a) = false := by simpa using hlo
            go_wp2
            go_quiet (fail)
            go_wp2
            go_roundg g
            case measure => omega
            case rel =>
              refine ⟨k + 1, by omega, by go_num, fun j r' hj hr2 => ?_, below_drewN hb'.out _⟩
              rcases Nat.lt_or_ge j k with h | h
              · exact hno'.out j r' h hr2
              · obtain rfl : j = k := by omega
                rw [hL'.out] at hr2
                cases hr2
                unfold hasB; rw [hd3]; rfl

set_option maxRecDepth 100000 in
set_option maxHeartbeats 1000000 in
theorem refAsk_any {p q : Nat} {A : Option Addr} {n cap : Nat} {L : List Reg} {f : Nat → Int} (a : Int) (w : World) (h : RMem_ w p q A n cap L f) (hm : ∀ r ∈ L, mayB r = true) (ha0 : 0 ≤ a) (ha1 : a < 18446744073709551616) :
    Calls Try.prog 59 #[.pointer (some ⟨p, 0, none⟩), .int .u64 a] w (One (askI L a 8) w) := by
  have hp := Lib.hid (refPlace_any (p := p) (q := q) (A := A) (n := n) (cap := cap) (f := f) a w h hm ha0 ha1)
  unfold askI
  obtain ⟨x, hx⟩ : ∃ x, (placeI L a).1 = x := ⟨_, rfl⟩
  obtain ⟨y, hy⟩ : ∃ y, (placeI L a).2 = y := ⟨_, rfl⟩
  rw [hx, hy] at hp
  rw [hx]
  clear hx hy h hm
  by_cases hr : a % 8 = 0
  · rw [if_neg (by simpa using hr)]
    by_cases h2 : x = -2
    · subst h2
      rw [if_pos rfl]
      go_enter Try.func59, Try.ntmps59
      go_wp2_with fail
      refine hp.out.mono ?_
      rintro e w1 ⟨rfl, hb⟩
      have hb' := Lib.hid hb
      clear hb
      go_wp2
      go_ret
      exact ⟨rfl, hb'.out⟩
    · rw [if_neg h2]
      have hd : (x == -2) = false := by simpa using h2
      clear h2
      go_enter Try.func59, Try.ntmps59
      go_wp2_with fail
      refine hp.out.mono ?_
      rintro e w1 ⟨rfl, hb⟩
      have hb' := Lib.hid hb
      clear hb
      go_wp2
      go_ret
      exact ⟨rfl, hb'.out⟩
  · rw [if_pos hr]
    go_enter Try.func59, Try.ntmps59
    go_wp2
    go_ret
    exact ⟨rfl, Below.refl _ _⟩
theorem ask1 (L : List Reg) (a : Int) : askI L a 1 = if (placeI L a).1 = -2 then 14 else 0 := by
  unfold askI
  rw [if_neg (by rw [Int.emod_one]; simp)]

set_option maxHeartbeats 1000000 in
theorem refLoad_any {p q : Nat} {A : Option Addr} {n cap : Nat} {L : List Reg} {f : Nat → Int} (a : Int) (w : World) (h : RMem_ w p q A n cap L f) (hm : ∀ r ∈ L, mayB r = true) (ha0 : 0 ≤ a) (ha1 : a < 18446744073709551616) :
    Calls Try.prog 39 #[.pointer (some ⟨p, 0, none⟩), .int .u64 a] w (LoadPost .u64 (loadI L f a) (askI L a 8) w) := by
  have H := Lib.hid h
  have hk := Lib.hid (refAsk_any a w h hm ha0 ha1)
  have h0 := fun k => ask_0 (L := L) (a := a) (b := 8) k hm
  unfold loadI
  obtain ⟨er, her⟩ : ∃ er, askI L a 8 = er := ⟨_, rfl⟩
  rw [her] at hk h0 ⊢
  clear h hm her
  by_cases he : er = 0
  · obtain ⟨h1, h2, h3⟩ := h0 he
    subst he
    rw [if_pos rfl]
    obtain ⟨m, rfl⟩ := Int.eq_ofNat_of_zero_le ha0
    rw [Int.toNat_natCast]
    have hle : m + 8 ≤ 65536 := by omega
    clear h0 h2 h3
    go_enter Try.func39, Try.ntmps39
    go_wp2_with fail
    refine (hk.out).mono ?_
    rintro e w1 ⟨rfl, hb⟩
    have hb' := Lib.hid hb
    clear hb
    go_wp2_with fail
    refine (refGet_any m _ (H.out.below hb'.out) hle).mono ?_
    rintro e w2 ⟨rfl, rfl⟩
    go_wp2
    go_ret2
    exact ⟨rfl, hb'.out⟩
  · rw [if_neg he]
    have hd : (er != 0) = true := by simpa using he
    clear h0 he
    go_enter Try.func39, Try.ntmps39
    go_wp2_with fail
    refine (hk.out).mono ?_
    rintro e w1 ⟨rfl, hb⟩
    have hb' := Lib.hid hb
    clear hb
    go_wp2
    go_ret2
    exact ⟨rfl, hb'.out⟩

def RStorePost (q : Nat) (g : Nat → Int) (er : Int) (w : World) (e : Ending) (w' : World) : Prop :=
  e = .returned (.int .i64 er) ∧ w'.heap[q]? = some (.cells (bytes g) 5 (0, 0)) ∧ w.grownBy w' (some q)

set_option maxHeartbeats 1000000 in
theorem refStore_any {p q : Nat} {A : Option Addr} {n cap : Nat} {L : List Reg} {f : Nat → Int} (a x : Int) (w : World) (h : RMem_ w p q A n cap L f) (hm : ∀ r ∈ L, mayB r = true) (ha0 : 0 ≤ a) (ha1 : a < 18446744073709551616) (hx0 : 0 ≤ x) (hx1 : x < 18446744073709551616) :
    Calls Try.prog 64 #[.pointer (some ⟨p, 0, none⟩), .int .u64 a, .int .u64 x] w (RStorePost q (storeF L f a x) (askI L a 8) w) := by
  have H := Lib.hid h
  have hk := Lib.hid (refAsk_any a w h hm ha0 ha1)
  have h0 := fun k => ask_0 (L := L) (a := a) (b := 8) k hm
  unfold storeF
  obtain ⟨er, her⟩ : ∃ er, askI L a 8 = er := ⟨_, rfl⟩
  rw [her] at hk h0 ⊢
  clear h hm her
  by_cases he : er = 0
  · obtain ⟨h1, h2, h3⟩ := h0 he
    subst he
    rw [if_pos rfl]
    obtain ⟨m, rfl⟩ := Int.eq_ofNat_of_zero_le ha0
    rw [Int.toNat_natCast]
    have hle : m + 8 ≤ 65536 := by omega
    clear h0 h2 h3
    go_enter Try.func64, Try.ntmps64
    go_wp2_with fail
    refine (hk.out).mono ?_
    rintro e w1 ⟨rfl, hb⟩
    have hb' := Lib.hid hb
    clear hb
    go_wp2_with fail
    refine (refPut_any m x _ (H.out.below hb'.out) hle hx0 hx1).mono ?_
    rintro e w2 ⟨rfl, hq, hg⟩
    have hq' := Lib.hid hq
    have hg' := Lib.hid (grown_trans (grown_of_below hb'.out _) hg)
    clear hq hg
    go_wp2
    go_ret
    exact ⟨rfl, hq'.out, hg'.out⟩
  · rw [if_neg he]
    have hd : (er != 0) = true := by simpa using he
    clear h0 he
    go_enter Try.func64, Try.ntmps64
    go_wp2_with fail
    refine (hk.out).mono ?_
    rintro e w1 ⟨rfl, hb⟩
    have hb' := Lib.hid hb
    clear hb
    go_wp2
    go_ret
    exact ⟨rfl, (H.out.below hb'.out).hq, grown_of_below hb'.out _⟩

set_option maxHeartbeats 1000000 in
theorem refLoadByte_any {p q : Nat} {A : Option Addr} {n cap : Nat} {L : List Reg} {f : Nat → Int} (a : Int) (w : World) (h : RMem_ w p q A n cap L f) (hm : ∀ r ∈ L, mayB r = true) (ha0 : 0 ≤ a) (ha1 : a < 18446744073709551616) :
    Calls Try.prog 40 #[.pointer (some ⟨p, 0, none⟩), .int .u64 a] w (LoadPost .u8 (loadB L f a) (askI L a 1) w) := by
  have H := Lib.hid h
  have hp := Lib.hid (refPlace_any a w h hm ha0 ha1)
  have h0 := fun k => ask_0 (L := L) (a := a) (b := 1) k hm
  unfold loadB
  rw [ask1] at h0 ⊢
  obtain ⟨x, hx⟩ : ∃ x, (placeI L a).1 = x := ⟨_, rfl⟩
  obtain ⟨y, hy⟩ : ∃ y, (placeI L a).2 = y := ⟨_, rfl⟩
  rw [hx, hy] at hp
  rw [hx] at h0 ⊢
  clear hx hy h hm
  by_cases h2 : x = -2
  · subst h2
    rw [if_pos rfl, if_neg (by decide)]
    clear h0
    go_enter Try.func40, Try.ntmps40
    go_wp2_with fail
    refine hp.out.mono ?_
    rintro e w1 ⟨rfl, hb⟩
    have hb' := Lib.hid hb
    clear hb
    go_wp2
    go_ret2
    exact ⟨rfl, hb'.out⟩
  · rw [if_neg h2] at h0 ⊢
    obtain ⟨h1, h3, h4⟩ := h0 rfl
    rw [if_pos rfl]
    have hd : (x == -2) = false := by simpa using h2
    obtain ⟨m, rfl⟩ := Int.eq_ofNat_of_zero_le ha0
    rw [Int.toNat_natCast]
    have hle : m < 65536 := by omega
    clear h0 h2 h3 h4
    go_enter Try.func40, Try.ntmps40
    go_wp2_with fail
    refine hp.out.mono ?_
    rintro e w1 ⟨rfl, hb⟩
    have hb' := Lib.hid hb
    have c1 := (H.out.below hb).c1
    have cb := (H.out.below hb).byte m hle
    clear hb
    go_wp2
    go_ret2
    exact ⟨rfl, hb'.out⟩

set_option maxHeartbeats 1000000 in
theorem refStoreByte_any {p q : Nat} {A : Option Addr} {n cap : Nat} {L : List Reg} {f : Nat → Int} (a x : Int) (w : World) (h : RMem_ w p q A n cap L f) (hm : ∀ r ∈ L, mayB r = true) (ha0 : 0 ≤ a) (ha1 : a < 18446744073709551616) :
    Calls Try.prog 65 #[.pointer (some ⟨p, 0, none⟩), .int .u64 a, .int .u8 x] w (RStorePost q (storeG L f a x) (askI L a 1) w) := by
  have H := Lib.hid h
  have hp := Lib.hid (refPlace_any a w h hm ha0 ha1)
  have h0 := fun k => ask_0 (L := L) (a := a) (b := 1) k hm
  unfold storeG
  rw [ask1] at h0 ⊢
  obtain ⟨z, hx⟩ : ∃ z, (placeI L a).1 = z := ⟨_, rfl⟩
  obtain ⟨y, hy⟩ : ∃ y, (placeI L a).2 = y := ⟨_, rfl⟩
  rw [hx, hy] at hp
  rw [hx] at h0 ⊢
  clear hx hy h hm
  by_cases h2 : z = -2
  · subst h2
    rw [if_pos rfl, if_neg (by decide)]
    clear h0
    go_enter Try.func65, Try.ntmps65
    go_wp2_with fail
    refine hp.out.mono ?_
    rintro e w1 ⟨rfl, hb⟩
    have hb' := Lib.hid hb
    clear hb
    go_wp2
    go_ret
    exact ⟨rfl, (H.out.below hb'.out).hq, grown_of_below hb'.out _⟩
  · rw [if_neg h2] at h0 ⊢
    obtain ⟨h1, h3, h4⟩ := h0 rfl
    rw [if_pos rfl]
    have hd : (z == -2) = false := by simpa using h2
    obtain ⟨m, rfl⟩ := Int.eq_ofNat_of_zero_le ha0
    rw [Int.toNat_natCast]
    have hle : m < 65536 := by omega
    clear h0 h2 h3 h4
    go_enter Try.func65, Try.ntmps65
    go_wp2_with fail
    refine hp.out.mono ?_
    rintro e w1 ⟨rfl, hb⟩
    have hb' := Lib.hid hb
    have hq := Lib.hid (H.out.below hb).hq
    have c1 := (H.out.below hb).c1
    have cb := (H.out.below hb).byte m hle
    have cf := blk_frozen (H.out.below hb).hq m
    clear hb
    go_wp2
    go_ret
    refine ⟨rfl, ?_, grown_set (grown_of_below hb'.out _) (.inl rfl) _⟩
    rw [heap_setCell_same _ _ _ _ _ _ hq.out, bytes_set]
end Go.Proofs.Ytageahpgcjnkpaa
