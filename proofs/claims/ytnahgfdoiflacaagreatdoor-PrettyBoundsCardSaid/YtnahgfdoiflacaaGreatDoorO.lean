/- all[Expr]: whether all are so. -/
import Derived.Test.YtnahgfdoiflacaaGreatDoorN
import Derived.BigQuiet
import Derived.Laws.Rows
set_option linter.unusedSimpArgs false
set_option linter.unusedVariables false
namespace Go.Proofs.YtnahgfdoiflacaaGreatDoor
open Go.RowKit Go.Lib Go.Shelf

/-- the worlds that have grown out of w -/
def Sub (w : World) : Type := { w' : World // Below w.heap.size w w' }
instance (w : World) : Nonempty (Sub w) := ⟨⟨w, Below.refl _ _⟩⟩
theorem wp_region_below {P : Program} {id : Nat} {Q : Exit → Act → World → Prop} {a : Act} {w : World} {l : List Oper} (hm : P.follows .mixedOrders = true) (hB : Region.lexB .any l.toArray = true)
    (h : wpQuiet P l.toArray (fun w' => ∃ s : Sub w, w' = s.val) (fun a' => ∀ w', (∃ s : Sub w, w' = s.val) → Q .normal a' w') l a) : (Code.region id l.toArray true).wp P Q a w :=
  wp_region_quiet (C := fun w' => ∃ s : Sub w, w' = s.val) hm hB ⟨⟨{ w with drawn := w.drawn + 1 }, (Below.refl _ _).drew⟩, rfl⟩ (by simpa using h)
theorem Sub.cell {w : World} {b o : Nat} {v : Value} (h : w.cell? ⟨b, o, none⟩ = some v) : ∀ s : Sub w, s.val.cell? ⟨b, o, none⟩ = some v :=
  fun s => (s.property.cell (p := ⟨b, o, none⟩) (World.block_lt_of_cell? w _ h)).trans h
theorem Sub.call {P : Program} {f : FuncId} {args : Array Value} {w : World} {s : Sub w} {v : Value} (h : Calls P f args s.val fun e w' => e = .returned v ∧ Below s.val.heap.size s.val w') :
    Calls P f args s.val fun e w'' => e = .returned v ∧ ∃ t : Sub w, w'' = t.val :=
  h.mono fun _ w'' ⟨he, hb⟩ => ⟨he, ⟨w'', Below.next s.property hb⟩, rfl⟩
theorem ret_bool {a b : Bool} (h : a = b) : Ending.returned (.bool a) = .returned (.bool b) := by rw [h]
theorem below_drewN {B : Nat} {a w : World} (h : Below B a w) (n : Nat) : Below B a (w.drewN n) := ⟨h.os, h.tape, h.output, h.size, h.block⟩
def IdxPost (t : Bool) (w : World) (e : Ending) (w' : World) : Prop := ∃ v : Int, e = .returned (.int .i64 v) ∧ (t = true → v = -1) ∧ (t = false → 0 ≤ v) ∧ Below w.heap.size w w'

set_option maxRecDepth 100000 in
set_option maxHeartbeats 2000000 in
theorem notE_any (g : Nat) (hent : ∀ args w, (callFunc g args).run Tryz.prog w = .ok (.enter g args) w) (x : Ex) (B : Option Addr) (C : Nat) (t : Bool) (b : Nat) (W : World) (hb : W.cell? ⟨b, 0, none⟩ = some (.func (.func g) #[] #[]))
    (hc : Calls Tryz.prog g #[exV x B C] (W.alloc (.cells #[.int .i64 x.op, .int .u64 x.u, .string x.nm, .slice B x.ars.length C] 26)) (BoolPost t (W.alloc (.cells #[.int .i64 x.op, .int .u64 x.u, .string x.nm, .slice B x.ars.length C] 26)))) :
    Calls Tryz.prog 131 #[exV x B C, .pointer (some ⟨b, 0, none⟩)] W (BoolPost (!t) W) := by
  have hb0 := Lib.hid ((Below.refl W.heap.size W).alloc (Nat.le_refl _) (.cells #[.int .i64 x.op, .int .u64 x.u, .string x.nm, .slice B x.ars.length C] 26))
  have hc := Lib.hid hc
  have hlt := cell_some_lt hb
  unfold exV at hc ⊢
  go_enter Tryz.func131, Tryz.ntmps131
  go_wp2_with fail
  refine hc.out.mono ?_
  rintro e w1 ⟨rfl, hb1⟩
  have hfin := Lib.hid (Below.next hb0.out hb1)
  clear hb1
  cases t
  all_goals
    go_wp2
    go_ret
    exact ⟨rfl, hfin.out⟩
set_option maxRecDepth 100000 in
set_option maxHeartbeats 2000000 in
theorem idxE_any (g : Nat) (hent : ∀ args w, (callFunc g args).run Tryz.prog w = .ok (.enter g args) w) (p : Ex → Bool) (w0 : World) (L : List (Ex)) (A : Option Addr) (h : ExsAt w0 L A) (c b : Nat) (W : World)
    (hW : Below w0.heap.size w0 W) (hn : L.length ≤ 1000000) (hb : W.cell? ⟨b, 0, none⟩ = some (.func (.func g) #[] #[]))
    (hc : ∀ (i : Nat) (x : Ex) (B : Option Addr), L[i]? = some x → ExAt w0 x B → ∀ (C : Nat) (W' : World), Below w0.heap.size w0 W' → Calls Tryz.prog g #[exV x B C] W' (BoolPost (p x) W')) :
    Calls Tryz.prog 157 #[.slice A L.length c, .func (.func 131) #[] #[.pointer (some ⟨b, 0, none⟩)]] W (IdxPost (L.all p) W) := by
  have hs := Lib.hid h
  have hc' := Lib.hid hc
  have hW' := Lib.hid hW
  have hbl := cell_some_lt hb
  have hb' := Lib.hid hb
  obtain ⟨n, hnn⟩ : ∃ n, L.length = n := ⟨_, rfl⟩
  rw [hnn] at hn ⊢
  have hL' := Lib.hid hnn
  clear hc hW hnn h hb
  go_enter Tryz.func157, Tryz.ntmps157
  go_wp2_with fail
  go_loopg [8] n (fun g s8 wr => ∃ k : Nat, k + g = n ∧ s8 = .int .i64 k ∧ (∀ (i : Nat) (x : Ex), i < k → L[i]? = some x → p x = true) ∧ Below W.heap.size W wr)
  case atStart => exact ⟨0, by omega, rfl, fun i x h => absurd h (by omega), Below.refl _ _⟩
  case round =>
    obtain ⟨k, hkg, rfl, hall, hbr⟩ := hrel
    have hall' := Lib.hid hall
    have hbr' := Lib.hid hbr
    clear hall hbr
    cases gk with
    | zero =>
      have e0 : ¬ ((k : Int) < (n : Int)) := by omega
      have hs := Lib.hid (show L.all p = true by
        rw [List.all_eq_true]
        intro x hx
        obtain ⟨i, hi⟩ := List.getElem?_of_mem hx
        exact hall'.out i x (by have := (List.getElem?_eq_some_iff.1 hi).1; have := hL'.out; omega) hi)
      go_wp2
      go_ret
      exact ⟨-1, rfl, fun _ => rfl, (fun h => by rw [hs.out] at h; cases h), hbr'.out⟩
    | succ g2 =>
      have e0 : (k : Int) < (n : Int) := by omega
      have hbw := Lib.hid (hW'.out.trans (hbr'.out.mono hW'.out.size))
      obtain ⟨blk, off, x, B, C, rfl, hx, v0, v1, v2, v3, hxe⟩ := (hs.out).at_ (k := k) (by rw [hL'.out]; omega)
      have v0 := (hbw.out.cell (p := ⟨blk, off + k * 4, none⟩) (cell_some_lt v0)).trans v0
      have v1 := (hbw.out.cell (p := ⟨blk, off + k * 4 + 1, none⟩) (cell_some_lt v1)).trans v1
      have v2 := (hbw.out.cell (p := ⟨blk, off + k * 4 + 2, none⟩) (cell_some_lt v2)).trans v2
      have v3 := (hbw.out.cell (p := ⟨blk, off + k * 4 + 3, none⟩) (cell_some_lt v3)).trans v3
      have hx' := Lib.hid hx
      obtain ⟨t, ht⟩ : ∃ t, p x = t := ⟨_, rfl⟩
      have hk2 := notE_any g hent x B C t b wr ((hbr'.out.cell (p := ⟨b, 0, none⟩) hbl).trans hb'.out) (by
        have h := hc'.out k x B hx hxe C (wr.alloc (.cells #[.int .i64 x.op, .int .u64 x.u, .string x.nm, .slice B x.ars.length C] 26)) (hbw.out.alloc hbw.out.size _)
        rw [ht] at h
        exact h)
      unfold exV at hk2
      have hk2 := Lib.hid hk2
      have ht' := Lib.hid ht
      clear ht hx hxe
      go_wp2_with fail
      refine hk2.out.mono ?_
      rintro e w1 ⟨rfl, hb1⟩
      have hb1' := Lib.hid (Below.next hbr'.out hb1)
      clear hb1
      cases t
      · have hs := Lib.hid (show L.all p = false by
          rw [List.all_eq_false]
          exact ⟨x, List.mem_of_getElem? hx'.out, by rw [ht'.out]; simp⟩)
        go_wp2
        go_ret
        exact ⟨k, rfl, (fun h => by rw [hs.out] at h; cases h), (fun _ => by omega), hb1'.out⟩
      · go_wp2
        go_roundg g2
        case measure => omega
        case rel =>
          refine ⟨k + 1, by omega, by go_num, fun i y hi hv => ?_, hb1'.out⟩
          rcases Nat.lt_or_ge i k with h | h
          · exact hall'.out i y h hv
          · obtain rfl : i = k := by omega
            rw [hx'.out] at hv
            cases hv
            exact ht'.out
set_option maxRecDepth 100000 in
set_option maxHeartbeats 2000000 in
theorem hasE_any (g : Nat) (hent : ∀ args w, (callFunc g args).run Tryz.prog w = .ok (.enter g args) w) (p : Ex → Bool) (w0 : World) (L : List (Ex)) (A : Option Addr) (h : ExsAt w0 L A) (c b : Nat) (W : World)
    (hW : Below w0.heap.size w0 W) (hn : L.length ≤ 1000000) (hb : W.cell? ⟨b, 0, none⟩ = some (.func (.func g) #[] #[]))
    (hc : ∀ (i : Nat) (x : Ex) (B : Option Addr), L[i]? = some x → ExAt w0 x B → ∀ (C : Nat) (W' : World), Below w0.heap.size w0 W' → Calls Tryz.prog g #[exV x B C] W' (BoolPost (p x) W')) :
    Calls Tryz.prog 130 #[.slice A L.length c, .func (.func 131) #[] #[.pointer (some ⟨b, 0, none⟩)]] W (BoolPost (!L.all p) W) := by
  have hk := Lib.hid (idxE_any g hent p w0 L A h c b W hW hn hb hc)
  generalize L.all p = t at hk ⊢
  clear hc hW h hb
  go_enter Tryz.func130, Tryz.ntmps130
  go_wp2_with fail
  refine hk.out.mono ?_
  rintro e w1 ⟨v, rfl, h1, h2, hb1⟩
  have hb1' := Lib.hid hb1
  clear hb1
  cases t
  · have e0 : 0 ≤ v := h2 rfl
    have e0' := Lib.hid e0
    clear h1 h2
    go_wp2
    go_ret
    exact ⟨ret_bool (by simp [e0'.out]), hb1'.out⟩
  · have e0 : ¬ 0 ≤ v := by have := h1 rfl; omega
    have e0' := Lib.hid e0
    clear h1 h2
    go_wp2
    go_ret
    exact ⟨ret_bool (by simp [e0'.out]), hb1'.out⟩
set_option maxRecDepth 100000 in
set_option maxHeartbeats 2000000 in
theorem allE_any (g : Nat) (hent : ∀ args w, (callFunc g args).run Tryz.prog w = .ok (.enter g args) w) (p : Ex → Bool) (w0 : World) (L : List (Ex)) (A : Option Addr) (h : ExsAt w0 L A) (c : Nat) (W : World)
    (hW : Below w0.heap.size w0 W) (hn : L.length ≤ 1000000)
    (hc : ∀ (i : Nat) (x : Ex) (B : Option Addr), L[i]? = some x → ExAt w0 x B → ∀ (C : Nat) (W' : World), Below w0.heap.size w0 W' → Calls Tryz.prog g #[exV x B C] W' (BoolPost (p x) W')) :
    Calls Tryz.prog 95 #[.slice A L.length c, .func (.func g) #[] #[]] W (BoolPost (L.all p) W) := by
  have hb0 := Lib.hid ((Below.refl W.heap.size W).alloc (Nat.le_refl _) (.cells #[.func (.func g) #[] #[]] 33))
  have hk := Lib.hid (hasE_any g hent p w0 L A h c W.heap.size (W.alloc (.cells #[.func (.func g) #[] #[]] 33)) (hW.alloc hW.size _) hn (by rw [blk_cell (heap_alloc_new W _)]; rfl) hc)
  generalize L.all p = t at hk ⊢
  clear hc hW h
  go_enter Tryz.func95, Tryz.ntmps95
  go_wp2_with fail
  refine hk.out.mono ?_
  rintro e w1 ⟨rfl, hb1⟩
  have hb1' := Lib.hid (Below.next hb0.out hb1)
  clear hb1
  cases t
  all_goals
    go_wp2
    go_ret
    exact ⟨rfl, hb1'.out⟩
end Go.Proofs.YtnahgfdoiflacaaGreatDoor
