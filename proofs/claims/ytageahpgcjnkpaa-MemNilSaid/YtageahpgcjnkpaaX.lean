/- One step of a play: a memory, and the document's, go on together. -/
import Derived.Test.YtageahpgcjnkpaaV2
set_option linter.unusedSimpArgs false
set_option linter.unusedVariables false
namespace Go.Proofs.Ytageahpgcjnkpaa
open Go.RowKit

structure Stp where
  kind : Int
  addr : Int
  x : Int
instance : Inhabited Stp := ⟨⟨0, 0, 0⟩⟩
def Stp.Wf (s : Stp) : Prop := (-9223372036854775808 ≤ s.kind ∧ s.kind ≤ 9223372036854775807) ∧ (0 ≤ s.addr ∧ s.addr ≤ 18446744073709551615) ∧ (0 ≤ s.x ∧ s.x ≤ 18446744073709551615)
/-- what a step makes of the bytes -/
def stepF (L : List Reg) (f : Nat → Int) (s : Stp) : Nat → Int :=
  if s.kind = 1 then storeF L f s.addr s.x else if s.kind = 2 then storeG L f s.addr (s.x % 256) else f

theorem upd_byte {f : Nat → Int} (hf : ByteFn f) (i : Nat) (v : Int) (h0 : 0 ≤ v) (h1 : v < 256) : ByteFn (upd f i v) := by
  intro k
  unfold upd
  split
  · exact ⟨h0, h1⟩
  · exact hf k
theorem storeF_byte {f : Nat → Int} (hf : ByteFn f) (L : List Reg) (a x : Int) : ByteFn (storeF L f a x) := by
  unfold storeF
  split
  · exact putN_byte hf _ _ _
  · exact hf
theorem storeG_byte {f : Nat → Int} (hf : ByteFn f) (L : List Reg) (a x : Int) (h0 : 0 ≤ x) (h1 : x < 256) : ByteFn (storeG L f a x) := by
  unfold storeG
  split
  · exact upd_byte hf _ _ h0 h1
  · exact hf
theorem stepF_byte {f : Nat → Int} (hf : ByteFn f) (L : List Reg) (s : Stp) : ByteFn (stepF L f s) := by
  unfold stepF
  split
  · exact storeF_byte hf _ _ _
  · split
    · exact storeG_byte hf _ _ _ (Int.emod_nonneg _ (by omega)) (Int.emod_lt_of_pos _ (by omega))
    · exact hf

theorem blk_ne {w : World} {a b : Nat} {c d : Array Value} {t u : TypeId} (h1 : w.heap[a]? = some (.cells c t (0, 0))) (h2 : w.heap[b]? = some (.cells d u (0, 0))) (h : t ≠ u) : a ≠ b := by
  rintro rfl
  rw [h1] at h2
  injection h2 with h2
  injection h2 with _ ht
  exact h ht

/-- a memory and the document's, side by side, grown out of a world -/
structure Both (w0 : World) (p q p' q' : Nat) (A : Option Addr) (n cap : Nat) (A' : Option Addr) (n' cap' : Nat) (L : List Reg) (f g : Nat → Int) (w : World) : Prop where
  m : Mem_ w p q A n cap L f
  r : RMem_ w p' q' A' n' cap' L g
  b : ∀ B, B ≤ q → B ≤ q' → B ≤ w0.heap.size → Below B w0 w
  s : w0.heap.size ≤ w.heap.size

section
variable {w0 w w' : World} {p q p' q' n cap n' cap' : Nat} {A A' : Option Addr} {L : List Reg} {f g h : Nat → Int}
theorem Both.below (H : Both w0 p q p' q' A n cap A' n' cap' L f g w) (hb : Below w.heap.size w w') : Both w0 p q p' q' A n cap A' n' cap' L f g w' :=
  ⟨H.m.below hb, H.r.below hb, fun B h1 h2 h3 => (H.b B h1 h2 h3).trans (hb.mono (Nat.le_trans h3 H.s)), Nat.le_trans H.s hb.size⟩
theorem Both.storeM (H : Both w0 p q p' q' A n cap A' n' cap' L f g w) (hb : w.grownBy w' (some q)) (hq : w'.heap[q]? = some (.cells (bytes h) 83 (0, 0))) (hh : ByteFn h) : Both w0 p q p' q' A n cap A' n' cap' L h g w' :=
  ⟨H.m.turn hb hq hh, H.r.other hb H.m.hq (blk_ne H.r.hp H.m.hq (by decide)) (blk_ne H.r.hq H.m.hq (by decide)), fun B h1 h2 h3 => (H.b B h1 h2 h3).grown hb (Nat.le_trans h3 H.s) (fun k e => by cases e; exact h1), Nat.le_trans H.s hb.size⟩
theorem Both.storeR (H : Both w0 p q p' q' A n cap A' n' cap' L f g w) (hb : w.grownBy w' (some q')) (hq : w'.heap[q']? = some (.cells (bytes h) 5 (0, 0))) (hh : ByteFn h) : Both w0 p q p' q' A n cap A' n' cap' L f h w' :=
  ⟨H.m.other hb H.r.hq (blk_ne H.m.hp H.r.hq (by decide)) (blk_ne H.m.hq H.r.hq (by decide)), H.r.turn hb hq hh, fun B h1 h2 h3 => (H.b B h1 h2 h3).grown hb (Nat.le_trans h3 H.s) (fun k e => by cases e; exact h2), Nat.le_trans H.s hb.size⟩
end

/-- how a step ends -/
def DoPost (n : Nat) (p q p' q' : Nat) (A' : Option Addr) (n' cap' : Nat) (L : List Reg) (g : Nat → Int) (w : World) (e : Ending) (w' : World) : Prop :=
  ∃ p2 q2 A2 cap2, e = .returned (.tuple #[.pointer (some ⟨p2, 0, none⟩), .bool true]) ∧ Mem_ w' p2 q2 A2 n cap2 L g ∧ RMem_ w' p' q' A' n' cap' L g ∧ n ≤ cap2 ∧ cap2 ≤ 9223372036854775807 ∧ (p2 = p ∨ w.heap.size ≤ p2) ∧ (q2 = q ∨ w.heap.size ≤ q2) ∧
    (∀ B, B ≤ q → B ≤ q' → B ≤ w.heap.size → Below B w w') ∧ w.heap.size ≤ w'.heap.size

theorem box3 {w : World} {b : Nat} {k a x : Int} {t : TypeId} (h : w.heap[b]? = some (.cells #[.int .i64 k, .int .u64 a, .int .u64 x] t (0, 0))) :
    w.cell? ⟨b, 0, none⟩ = some (.int .i64 k) ∧ w.cell? ⟨b, 1, none⟩ = some (.int .u64 a) ∧ w.cell? ⟨b, 2, none⟩ = some (.int .u64 x) := by
  refine ⟨?_, ?_, ?_⟩ <;> (rw [blk_cell h]; rfl)

set_option maxRecDepth 100000 in
set_option maxHeartbeats 2000000 in
theorem do_store {p q p' q' n cap n' cap' : Nat} {A A' : Option Addr} {L : List Reg} {f : Nat → Int} (a x : Int) (w : World) (h : Mem_ w p q A n cap L f) (h' : RMem_ w p' q' A' n' cap' L f) (hc : n ≤ cap) (hcm : cap ≤ 9223372036854775807) (hm : ∀ r ∈ L, mayB r = true)
    (ha0 : 0 ≤ a) (ha1 : a ≤ 18446744073709551615) (hx0 : 0 ≤ x) (hx1 : x ≤ 18446744073709551615) :
    Calls Try.prog 55 #[.pointer (some ⟨p, 0, none⟩), .pointer (some ⟨p', 0, none⟩), .agg #[.int .i64 1, .int .u64 a, .int .u64 x]] w (DoPost n p q p' q' A' n' cap' L (storeF L f a x) w) := by
  have hg := storeF_byte h.hf L a x
  have hq0 := blk_lt h.hq
  have hq1 := blk_lt h'.hq
  have hM := Lib.hid fun (W : World) (g : Nat → Int) (H : Hid (Both w p q p' q' A n cap A' n' cap' L f g W)) (B : Hid (W.heap[w.heap.size]? = some (.cells #[.int .i64 1, .int .u64 a, .int .u64 x] 97 (0, 0)))) => (store_any a (x) W H.out.m hm ha0 (by omega) hx0 (by omega)).mono fun e w' ⟨e1, e2, e3⟩ =>
    (⟨e1, Lib.hid (H.out.storeM e3 e2 hg), Lib.hid ((e3.block _ (blk_lt B.out) (by simp; omega)).trans B.out)⟩ : e = Ending.returned (.int .i64 (askI L a 8)) ∧ Hid (Both w p q p' q' A n cap A' n' cap' L (storeF L f a (x)) g w') ∧ Hid (w'.heap[w.heap.size]? = some (Obj.cells #[.int .i64 1, .int .u64 a, .int .u64 x] 97 (0, 0))))
  have hR := Lib.hid fun (W : World) (g : Nat → Int) (H : Hid (Both w p q p' q' A n cap A' n' cap' L g f W)) (B : Hid (W.heap[w.heap.size]? = some (.cells #[.int .i64 1, .int .u64 a, .int .u64 x] 97 (0, 0)))) => (refStore_any a (x) W H.out.r hm ha0 (by omega) hx0 (by omega)).mono fun e w' ⟨e1, e2, e3⟩ =>
    (⟨e1, Lib.hid (H.out.storeR e3 e2 hg), Lib.hid ((e3.block _ (blk_lt B.out) (by simp; omega)).trans B.out)⟩ : e = Ending.returned (.int .i64 (askI L a 8)) ∧ Hid (Both w p q p' q' A n cap A' n' cap' L g (storeF L f a (x)) w') ∧ Hid (w'.heap[w.heap.size]? = some (Obj.cells #[.int .i64 1, .int .u64 a, .int .u64 x] 97 (0, 0))))
  have H0 := Lib.hid (show Both w p q p' q' A n cap A' n' cap' L f f w from ⟨h, h', fun B _ _ _ => Below.refl _ _, Nat.le_refl _⟩)
  generalize storeF L f a (x) = g at hM hR hg ⊢
  generalize askI L a 8 = er at hM hR
  clear h h' hm hg
  go_enter Try.func55, Try.ntmps55
  go_wp2_with fail
  have S0 := Lib.hid ((H0.out.below ((Below.refl _ _).alloc (Nat.le_refl _) (.cells #[.int .i64 1, .int .u64 a, .int .u64 x] 97))).below (Below.refl _ _).drew)
  have B0 := Lib.hid (show (w.alloc (.cells #[.int .i64 1, .int .u64 a, .int .u64 x] 97)).drew.heap[w.heap.size]? = some (.cells #[.int .i64 1, .int .u64 a, .int .u64 x] 97 (0, 0)) from heap_alloc_new w _)
  clear H0
  obtain ⟨b0, b1, b2⟩ := box3 B0.out
  go_region_held3 (fun W => W.cell? ⟨w.heap.size, 1, none⟩ = some (.int .u64 a) ∧ W.cell? ⟨w.heap.size, 2, none⟩ = some (.int .u64 x)) (exact ⟨b1, b2⟩) (first
    | (go_at_call 15; refine (num_any _ _).mono ?_; rintro e w1 ⟨rfl, rfl⟩)
    | (go_at_call 20; with_reducible (refine (hM.out _ _ S0 B0).mono ?_); rintro e w1 ⟨rfl, S1, B1⟩; obtain ⟨b0, b1, b2⟩ := box3 B1.out)
    | (go_at_call 20; with_reducible (refine (hM.out _ _ S1 B1).mono ?_); rintro e w1 ⟨rfl, S2, B2⟩; obtain ⟨b0, b1, b2⟩ := box3 B2.out)
    | (go_at_call 64; with_reducible (refine (hR.out _ _ S0 B0).mono ?_); rintro e w1 ⟨rfl, S1, B1⟩; obtain ⟨b0, b1, b2⟩ := box3 B1.out)
    | (go_at_call 64; with_reducible (refine (hR.out _ _ S1 B1).mono ?_); rintro e w1 ⟨rfl, S2, B2⟩; obtain ⟨b0, b1, b2⟩ := box3 B2.out))
  all_goals
    go_wp2
    go_ret2
    exact ⟨p, q, A, cap, rfl, S2.out.m, S2.out.r, hc, hcm, .inl rfl, .inl rfl, S2.out.b, S2.out.s⟩

set_option maxRecDepth 100000 in
set_option maxHeartbeats 2000000 in
theorem do_byte {p q p' q' n cap n' cap' : Nat} {A A' : Option Addr} {L : List Reg} {f : Nat → Int} (a x : Int) (w : World) (h : Mem_ w p q A n cap L f) (h' : RMem_ w p' q' A' n' cap' L f) (hc : n ≤ cap) (hcm : cap ≤ 9223372036854775807) (hm : ∀ r ∈ L, mayB r = true)
    (ha0 : 0 ≤ a) (ha1 : a ≤ 18446744073709551615) (hx0 : 0 ≤ x) (hx1 : x ≤ 18446744073709551615) :
    Calls Try.prog 55 #[.pointer (some ⟨p, 0, none⟩), .pointer (some ⟨p', 0, none⟩), .agg #[.int .i64 2, .int .u64 a, .int .u64 x]] w (DoPost n p q p' q' A' n' cap' L (storeG L f a (IntKind.u8.wrap x)) w) := by
  have hg := storeG_byte h.hf L a (IntKind.u8.wrap x) (by rw [IntKind.wrap_u8]; omega) (by rw [IntKind.wrap_u8]; omega)
  have hq0 := blk_lt h.hq
  have hq1 := blk_lt h'.hq
  have hM := Lib.hid fun (W : World) (g : Nat → Int) (H : Hid (Both w p q p' q' A n cap A' n' cap' L f g W)) (B : Hid (W.heap[w.heap.size]? = some (.cells #[.int .i64 2, .int .u64 a, .int .u64 x] 97 (0, 0)))) => (storeByte_any a (IntKind.u8.wrap x) W H.out.m hm ha0 (by omega) ).mono fun e w' ⟨e1, e2, e3⟩ =>
    (⟨e1, Lib.hid (H.out.storeM e3 e2 hg), Lib.hid ((e3.block _ (blk_lt B.out) (by simp; omega)).trans B.out)⟩ : e = Ending.returned (.int .i64 (askI L a 1)) ∧ Hid (Both w p q p' q' A n cap A' n' cap' L (storeG L f a (IntKind.u8.wrap x)) g w') ∧ Hid (w'.heap[w.heap.size]? = some (Obj.cells #[.int .i64 2, .int .u64 a, .int .u64 x] 97 (0, 0))))
  have hR := Lib.hid fun (W : World) (g : Nat → Int) (H : Hid (Both w p q p' q' A n cap A' n' cap' L g f W)) (B : Hid (W.heap[w.heap.size]? = some (.cells #[.int .i64 2, .int .u64 a, .int .u64 x] 97 (0, 0)))) => (refStoreByte_any a (IntKind.u8.wrap x) W H.out.r hm ha0 (by omega) ).mono fun e w' ⟨e1, e2, e3⟩ =>
    (⟨e1, Lib.hid (H.out.storeR e3 e2 hg), Lib.hid ((e3.block _ (blk_lt B.out) (by simp; omega)).trans B.out)⟩ : e = Ending.returned (.int .i64 (askI L a 1)) ∧ Hid (Both w p q p' q' A n cap A' n' cap' L g (storeG L f a (IntKind.u8.wrap x)) w') ∧ Hid (w'.heap[w.heap.size]? = some (Obj.cells #[.int .i64 2, .int .u64 a, .int .u64 x] 97 (0, 0))))
  have H0 := Lib.hid (show Both w p q p' q' A n cap A' n' cap' L f f w from ⟨h, h', fun B _ _ _ => Below.refl _ _, Nat.le_refl _⟩)
  generalize storeG L f a (IntKind.u8.wrap x) = g at hM hR hg ⊢
  generalize askI L a 1 = er at hM hR
  clear h h' hm hg
  go_enter Try.func55, Try.ntmps55
  go_wp2_with fail
  have S0 := Lib.hid ((H0.out.below ((Below.refl _ _).alloc (Nat.le_refl _) (.cells #[.int .i64 2, .int .u64 a, .int .u64 x] 97))).below (Below.refl _ _).drew)
  have B0 := Lib.hid (show (w.alloc (.cells #[.int .i64 2, .int .u64 a, .int .u64 x] 97)).drew.heap[w.heap.size]? = some (.cells #[.int .i64 2, .int .u64 a, .int .u64 x] 97 (0, 0)) from heap_alloc_new w _)
  clear H0
  obtain ⟨b0, b1, b2⟩ := box3 B0.out
  go_region_held3 (fun W => W.cell? ⟨w.heap.size, 1, none⟩ = some (.int .u64 a) ∧ W.cell? ⟨w.heap.size, 2, none⟩ = some (.int .u64 x)) (exact ⟨b1, b2⟩) (first
    | (go_at_call 15; refine (num_any _ _).mono ?_; rintro e w1 ⟨rfl, rfl⟩)
    | (go_at_call 22; with_reducible (refine (hM.out _ _ S0 B0).mono ?_); rintro e w1 ⟨rfl, S1, B1⟩; obtain ⟨b0, b1, b2⟩ := box3 B1.out)
    | (go_at_call 22; with_reducible (refine (hM.out _ _ S1 B1).mono ?_); rintro e w1 ⟨rfl, S2, B2⟩; obtain ⟨b0, b1, b2⟩ := box3 B2.out)
    | (go_at_call 65; with_reducible (refine (hR.out _ _ S0 B0).mono ?_); rintro e w1 ⟨rfl, S1, B1⟩; obtain ⟨b0, b1, b2⟩ := box3 B1.out)
    | (go_at_call 65; with_reducible (refine (hR.out _ _ S1 B1).mono ?_); rintro e w1 ⟨rfl, S2, B2⟩; obtain ⟨b0, b1, b2⟩ := box3 B2.out))
  all_goals
    go_wp2
    go_ret2
    exact ⟨p, q, A, cap, rfl, S2.out.m, S2.out.r, hc, hcm, .inl rfl, .inl rfl, S2.out.b, S2.out.s⟩

set_option maxRecDepth 100000 in
set_option maxHeartbeats 2000000 in
theorem do_else {p q p' q' n cap n' cap' : Nat} {A A' : Option Addr} {L : List Reg} {f : Nat → Int} (k a x : Int) (w : World) (h : Mem_ w p q A n cap L f) (h' : RMem_ w p' q' A' n' cap' L f) (hc : n ≤ cap) (hcm : cap ≤ 9223372036854775807) (h1 : k ≠ 1) (h2 : k ≠ 2) (h3 : k ≠ 3) :
    Calls Try.prog 55 #[.pointer (some ⟨p, 0, none⟩), .pointer (some ⟨p', 0, none⟩), .agg #[.int .i64 k, .int .u64 a, .int .u64 x]] w (DoPost n p q p' q' A' n' cap' L f w) := by
  have H := Lib.hid h
  have H' := Lib.hid h'
  have d1 : (k == 1) = false := by simpa using h1
  have d2 : (k == 2) = false := by simpa using h2
  have d3 : (k == 3) = false := by simpa using h3
  clear h h' h1 h2 h3
  go_enter Try.func55, Try.ntmps55
  go_wp2
  go_ret2
  have hb : Below w.heap.size w (w.alloc (.cells #[.int .i64 k, .int .u64 a, .int .u64 x] 97)) := (Below.refl _ _).alloc (Nat.le_refl _) _
  exact ⟨p, q, A, cap, rfl, H.out.below hb, H'.out.below hb, hc, hcm, .inl rfl, .inl rfl, fun B _ _ h3 => hb.mono h3, hb.size⟩

theorem eqF_refl (f : Nat → Int) : eqF f f = true := (eqF_iff f f).2 fun _ _ => rfl

set_option maxRecDepth 100000 in
set_option maxHeartbeats 2000000 in
theorem do_copy {p q p' q' n cap n' cap' : Nat} {A A' : Option Addr} {L : List Reg} {f : Nat → Int} (a x : Int) (w : World) (h : Mem_ w p q A n cap L f) (h' : RMem_ w p' q' A' n' cap' L f) (hc : n ≤ cap) (hcm : cap ≤ 9223372036854775807) (hm : ∀ r ∈ L, mayB r = true) :
    Calls Try.prog 55 #[.pointer (some ⟨p, 0, none⟩), .pointer (some ⟨p', 0, none⟩), .agg #[.int .i64 3, .int .u64 a, .int .u64 x]] w (DoPost n p q p' q' A' n' cap' L f w) := by
  have H := Lib.hid h
  have H' := Lib.hid h'
  have hm' := Lib.hid hm
  have hne := fun w p => run_neq_mem w p
  clear h h' hm
  have hb : Below w.heap.size w (w.alloc (.cells #[.int .i64 3, .int .u64 a, .int .u64 x] 97)) := (Below.refl _ _).alloc (Nat.le_refl _) _
  have hb' := Lib.hid hb
  clear hb
  go_enter Try.func55, Try.ntmps55
  go_wp2_with fail
  refine (copy_any _ (H.out.below hb'.out) hc).mono ?_
  rintro e w2 ⟨p2, q2, A2, cap2, rfl, hM, z1, z2, z3, z4, hb2⟩
  have hM' := Lib.hid hM
  have hb2' := Lib.hid (Below.next hb'.out hb2)
  simp only [World.size_alloc] at z3 z4
  clear hM hb2
  go_wp2_with fail
  refine (same_any _ hM'.out (H.out.below hb2'.out)).mono ?_
  rintro e w3 ⟨rfl, hb3⟩
  have hb3' := Lib.hid (Below.next hb2'.out hb3)
  have hM3 := Lib.hid (hM'.out.below hb3)
  have hs3 := hb3.size
  clear hb3
  rw [eqF_refl, show decide (L = L) = true by simp]
  go_wp2_with fail
  refine (store_any 65528 77 _ (H.out.below hb3'.out) hm'.out (by decide) (by decide) (by decide) (by decide)).mono ?_
  rintro e w4 ⟨rfl, hq, hg⟩
  have hq' := Lib.hid hq
  have hg' := Lib.hid hg
  clear hq hg
  go_wp2
  go_ret2
  have hqlt := blk_lt H.out.hq
  have hplt := blk_lt H.out.hp
  exact ⟨p2, q2, A2, cap2, rfl, hM3.out.other hg'.out (H.out.below hb3'.out).hq (by omega) (by omega), (H'.out.below hb3'.out).other hg'.out (H.out.below hb3'.out).hq (blk_ne H'.out.hp H.out.hq (by decide)) (blk_ne H'.out.hq H.out.hq (by decide)), z1, z2, .inr (by omega), .inr (by omega),
    fun B h1 h2 h3 => (hb3'.out.mono h3).grown hg'.out (Nat.le_trans h3 hb3'.out.size) (fun k e => by cases e; exact h1), Nat.le_trans hb3'.out.size hg'.out.size⟩

theorem do_any {p q p' q' n cap n' cap' : Nat} {A A' : Option Addr} {L : List Reg} {f : Nat → Int} (s : Stp) (hs : s.Wf) (w : World) (h : Mem_ w p q A n cap L f) (h' : RMem_ w p' q' A' n' cap' L f) (hc : n ≤ cap) (hcm : cap ≤ 9223372036854775807) (hm : ∀ r ∈ L, mayB r = true) :
    Calls Try.prog 55 #[.pointer (some ⟨p, 0, none⟩), .pointer (some ⟨p', 0, none⟩), .agg #[.int .i64 s.kind, .int .u64 s.addr, .int .u64 s.x]] w (DoPost n p q p' q' A' n' cap' L (stepF L f s) w) := by
  obtain ⟨k, a, x⟩ := s
  obtain ⟨⟨k0, k1⟩, ⟨a0, a1⟩, x0, x1⟩ := hs
  dsimp only at k0 k1 a0 a1 x0 x1 ⊢
  unfold stepF
  dsimp only
  by_cases h1 : k = 1
  · subst h1
    exact do_store a x w h h' hc hcm hm a0 a1 x0 x1
  · rw [if_neg h1]
    by_cases h2 : k = 2
    · subst h2
      exact do_byte a x w h h' hc hcm hm a0 a1 x0 x1
    · rw [if_neg h2]
      by_cases h3 : k = 3
      · subst h3
        exact do_copy a x w h h' hc hcm hm
      · exact do_else k a x w h h' hc hcm h1 h2 h3
end Go.Proofs.Ytageahpgcjnkpaa
