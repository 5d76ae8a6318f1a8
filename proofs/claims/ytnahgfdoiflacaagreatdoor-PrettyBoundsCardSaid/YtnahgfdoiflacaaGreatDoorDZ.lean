/- The iterator over lines of statements. -/
import Derived.Test.YtnahgfdoiflacaaGreatDoorDW
import Derived.Test.YtnahgfdoiflacaaGreatDoorDJ
import Derived.Test.YtnahgfdoiflacaaGreatDoorX
import Derived.Sort.LoopGhostIn
import Derived.ControlIn
import Derived.Shelf.RegionOpen
set_option linter.unusedSimpArgs false
set_option linter.unusedVariables false
namespace Go.Proofs.YtnahgfdoiflacaaGreatDoor
open Go.RowKit Go.Lib Go.Shelf

/-- what an iterator reads stays: what lies below B, and what was made since C (but rows of bytes) -/
structure Kp (B C : Nat) (W W' : World) : Prop where
  below : Below B W W'
  keep : ∀ (k : Nat) (o : Obj), C ≤ k → W.heap[k]? = some o → (∀ cs fr, o ≠ .cells cs 5 fr) → W'.heap[k]? = some o
theorem Kp.refl (B C : Nat) (W : World) : Kp B C W W := ⟨Below.refl _ _, fun _ _ _ h _ => h⟩
theorem Kp.trans {B C : Nat} {W W1 W2 : World} (h : Kp B C W W1) (g : Kp B C W1 W2) : Kp B C W W2 := ⟨h.below.trans g.below, fun k o hk ho hn => g.keep k o hk (h.keep k o hk ho hn) hn⟩
theorem Kp.of_below {B C : Nat} {W W' : World} (hB : B ≤ W.heap.size) (h : Below W.heap.size W W') : Kp B C W W' := ⟨h.mono hB, fun k o _ ho _ => (h.block k (blk_lt ho)).trans ho⟩
theorem Kp.next {B C : Nat} {W W1 W2 : World} (h : Kp B C W W1) (hB : B ≤ W.heap.size) (g : Below W1.heap.size W1 W2) : Kp B C W W2 := h.trans (Kp.of_below (Nat.le_trans hB h.below.size) g)
theorem yieldAt_any {n m : Nat} {P : Program} {l : Nat} {args : Array Value} {W : World} {R : Ending → World → Prop} (h : YieldAt Fence.wide n P l args W R) : YieldAt Fence.wide m P l args W R := by
  obtain ⟨fn, tmps, assign, body, h1, h2⟩ := h
  exact ⟨fn, tmps, assign, body, h1, h2.1, fun c cs _ => h2.2 c cs (room_wide _)⟩
/-- what a line's yield leaves -/
def LinePost (J : List Ln → World → Prop) (B C : Nat) (l : List Ln) (W : World) (e : Ending) (W' : World) : Prop := e = .returned (.bool true) ∧ J l W' ∧ Kp B C W W'
/-- the lines' yield -/
def YieldsL (l : Nat) (ALL : List Ln) (J : List Ln → World → Prop) (B C : Nat) : Prop :=
  ∀ pre x rest W1, J pre W1 → pre ++ x :: rest = ALL → YieldAt Fence.wide 7 Tryz.prog l #[.int .i64 (x.1 : Int), .string x.2] W1 (LinePost J B C (pre ++ [x]) W1)
def Grows (J : List Ln → World → Prop) : Prop := ∀ s W W', J s W → Below W.heap.size W W' → J s W'
structure TellBox (l p q : Nat) (W : World) : Prop where
  y : W.heap[p]? = some (.cells #[.func (.yield l) #[] #[]] 71 (0, 0))
  t : W.heap[q]? = some (.cells #[.func (.func 82) #[] #[.pointer (some ⟨p, 0, none⟩), .pointer (some ⟨q, 0, none⟩)]] 61 (0, 0))
theorem TellBox.keep {l p q B C : Nat} {W W' : World} (h : TellBox l p q W) (hp : C ≤ p) (hq : C ≤ q) (hk : Kp B C W W') : TellBox l p q W' :=
  ⟨hk.keep p _ hp h.y (fun _ _ e => by cases e), hk.keep q _ hq h.t (fun _ _ e => by cases e)⟩
theorem TellBox.cells {l p q : Nat} {W : World} (h : TellBox l p q W) : W.cell? ⟨p, 0, none⟩ = some (.func (.yield l) #[] #[]) ∧ W.cell? ⟨q, 0, none⟩ = some (.func (.func 82) #[] #[.pointer (some ⟨p, 0, none⟩), .pointer (some ⟨q, 0, none⟩)]) :=
  ⟨by rw [blk_cell h.y]; rfl, by rw [blk_cell h.t]; rfl⟩
attribute [local go_sem] Oper.semAt_some
theorem undef_no (b : Bool) (h : some undef = some (Value.bool b)) : False := by
  unfold undef at h
  cases h

set_option maxRecDepth 100000 in
set_option maxHeartbeats 32000000 in
theorem tell_any (w0 : World) (hE : Env w0) (l p q C : Nat) (hCp : C ≤ p) (hCq : C ≤ q) (hC0 : w0.heap.size ≤ C) (ALL : List Ln) (J : List Ln → World → Prop) (hJ : Grows J) (hY : YieldsL l ALL J w0.heap.size C) (L : List St) (A : Option Addr) (h : StsAt w0 L A) :
    ∀ (t c : Nat) (W : World) (pre rest : List Ln), cntSs L ≤ 30000 → maySs L = true → t + cntSs L ≤ 100000 → Below w0.heap.size w0 W → TellBox l p q W → pre ++ (linesL t L ++ rest) = ALL → J pre W → Calls Tryz.prog 82 #[.slice A L.length c, .int .i64 t, .pointer (some ⟨p, 0, none⟩), .pointer (some ⟨q, 0, none⟩)] W (LinePost J w0.heap.size C (pre ++ linesL t L) W) := by
  refine StsAt.all (M := fun L A => ∀ (t c : Nat) (W : World) (pre rest : List Ln), cntSs L ≤ 30000 → maySs L = true → t + cntSs L ≤ 100000 → Below w0.heap.size w0 W → TellBox l p q W → pre ++ (linesL t L ++ rest) = ALL → J pre W → Calls Tryz.prog 82 #[.slice A L.length c, .int .i64 t, .pointer (some ⟨p, 0, none⟩), .pointer (some ⟨q, 0, none⟩)] W (LinePost J w0.heap.size C (pre ++ linesL t L) W)) ?_ L A h
  intro L A hL ih t c W pre rest hc hm ht hW hT hALL hJ0
  have l1 := len_cntSs L
  have hs := Lib.hid hL
  have hW' := Lib.hid hW
  have ih' := Lib.hid ih
  have hc' := Lib.hid hc
  have hm' := Lib.hid (show ∀ x ∈ L, mayS x = true by rw [maySs_all, List.all_eq_true] at hm; exact hm)
  have ht' := Lib.hid ht
  have hE' := Lib.hid hE
  have hJ' := Lib.hid hJ
  have hY' := Lib.hid hY
  have hT' := Lib.hid hT
  have hA' := Lib.hid hALL
  have hJ0' := Lib.hid hJ0
  have hC := Lib.hid (And.intro hCp (And.intro hCq hC0))
  have htb : t ≤ 100000 := by omega
  obtain ⟨n, hnn⟩ : ∃ n, L.length = n := ⟨_, rfl⟩
  rw [hnn] at l1 ⊢
  have hn' := Lib.hid hnn
  have hn : n ≤ 30000 := by omega
  clear hL hW ih hnn l1 hc h hm ht hE hJ hY hT hALL hJ0 hCp hCq hC0
  refine (callsIn_wide (n := 8)).1 ?_
  refine callsIn_of_wp Tryz.func82 rfl trivial ?_ rfl
  simp only [Tryz.ntmps82, List.size_toArray, List.length_cons, List.length_nil, Nat.reduceAdd, Nat.reduceSub, Array.replicate_succ, Array.replicate_zero, List.push_toArray, List.append_toArray, List.nil_append, List.cons_append]
  gi_wp2_with fail
  gi_loopg [11] n (fun g s11 wr => ∃ k : Nat, k + g = n ∧ s11 = .int .i64 k ∧ J (pre ++ linesL t (L.take k)) wr ∧ Kp w0.heap.size C W wr)
  case atStart => exact ⟨0, by omega, rfl, by rw [List.take_zero, linesL_nil, List.append_nil]; exact hJ0'.out, Kp.refl _ _ _⟩
  case round =>
    obtain ⟨k, hkg, rfl, hJr, hkr⟩ := hrel
    have hJr := Lib.hid hJr
    have hkr := Lib.hid hkr
    cases gk with
    | zero =>
      have e0 : ¬ (k : Int) < (n : Int) := by omega
      have hfin := Lib.hid (show L.take k = L by rw [List.take_of_length_le (by rw [hn'.out]; omega)])
      gi_wp2
      go_ret
      exact ⟨rfl, by have := hJr.out; rw [hfin.out] at this; exact this, hkr.out⟩
    | succ g2 =>
      have e0 : (k : Int) < (n : Int) := by omega
      have hbw := Lib.hid (hW'.out.trans hkr.out.below)
      obtain ⟨blk, off, x, r, rfl, hx, hcx, hnow, hbd, hel⟩ := (hs.out).at_ (k := k) (by rw [hn'.out]; omega)
      have hmx := hm'.out x (List.mem_of_getElem? hx)
      have c1 := cntS_mem hx
      have c2 := cntS_bd x
      have c3 := hc'.out
      have c4 := ht'.out
      have hhead := fun (W' : World) (hb : Below w0.heap.size w0 W') => head_any w0 hE'.out x r hnow hmx W' hb (by omega)
      have hkd : 1 ≤ x.kd ∧ x.kd ≤ 6 := by simpa [kindOk] using (mayS_parts hmx).1
      have hmb : maySs x.bd = true ∧ maySs x.el = true := by
        rw [mayS_eq, Bool.and_eq_true, Bool.and_eq_true, Bool.and_eq_true] at hmx
        exact hmx.2.2
      have hnext := linesL_take t hx
      have hsp := hA'.out
      rw [linesL_split t hx, List.append_assoc, ← List.append_assoc] at hsp
      obtain ⟨kd, nm, ⟨nA, nn, nc⟩, ⟨eo, eu, en, ⟨eA, ek, ec⟩⟩, ⟨ao, au, an, ⟨aA, ak, ac⟩⟩, ⟨gA, gn, gc⟩, lo, hi, ⟨bA, bn, bc⟩, ⟨lA, ln, lc⟩⟩ := r
      obtain ⟨kx, mx, nx, nxA, ⟨ex1, ex2, ex3, ex4, exA, exu⟩, ⟨ax1, ax2, ax3, ax4, axA, axu⟩, gx, gxA, lx, hx', loh, hih, bx, elx⟩ := hnow
      dsimp only at kx mx nx nxA ex1 ex2 ex3 ex4 exA ax1 ax2 ax3 ax4 axA gx gxA lx hx' bx elx hbd hel
      have v0 : w0.cell? ⟨blk, off + k * 16, none⟩ = some (.int .i64 kd) := hcx 0 (by omega)
      have v0 := (hbw.out.cell (p := ⟨blk, off + k * 16, none⟩) (cell_some_lt v0)).trans v0
      have v1 : w0.cell? ⟨blk, off + k * 16 + 1, none⟩ = some (.string nm) := hcx 1 (by omega)
      have v1 := (hbw.out.cell (p := ⟨blk, off + k * 16 + 1, none⟩) (cell_some_lt v1)).trans v1
      have v2 : w0.cell? ⟨blk, off + k * 16 + 2, none⟩ = some (.slice nA nn nc) := hcx 2 (by omega)
      have v2 := (hbw.out.cell (p := ⟨blk, off + k * 16 + 2, none⟩) (cell_some_lt v2)).trans v2
      have v3 : w0.cell? ⟨blk, off + k * 16 + 3, none⟩ = some (.int .i64 eo) := hcx 3 (by omega)
      have v3 := (hbw.out.cell (p := ⟨blk, off + k * 16 + 3, none⟩) (cell_some_lt v3)).trans v3
      have v4 : w0.cell? ⟨blk, off + k * 16 + 4, none⟩ = some (.int .u64 eu) := hcx 4 (by omega)
      have v4 := (hbw.out.cell (p := ⟨blk, off + k * 16 + 4, none⟩) (cell_some_lt v4)).trans v4
      have v5 : w0.cell? ⟨blk, off + k * 16 + 5, none⟩ = some (.string en) := hcx 5 (by omega)
      have v5 := (hbw.out.cell (p := ⟨blk, off + k * 16 + 5, none⟩) (cell_some_lt v5)).trans v5
      have v6 : w0.cell? ⟨blk, off + k * 16 + 6, none⟩ = some (.slice eA ek ec) := hcx 6 (by omega)
      have v6 := (hbw.out.cell (p := ⟨blk, off + k * 16 + 6, none⟩) (cell_some_lt v6)).trans v6
      have v7 : w0.cell? ⟨blk, off + k * 16 + 7, none⟩ = some (.int .i64 ao) := hcx 7 (by omega)
      have v7 := (hbw.out.cell (p := ⟨blk, off + k * 16 + 7, none⟩) (cell_some_lt v7)).trans v7
      have v8 : w0.cell? ⟨blk, off + k * 16 + 8, none⟩ = some (.int .u64 au) := hcx 8 (by omega)
      have v8 := (hbw.out.cell (p := ⟨blk, off + k * 16 + 8, none⟩) (cell_some_lt v8)).trans v8
      have v9 : w0.cell? ⟨blk, off + k * 16 + 9, none⟩ = some (.string an) := hcx 9 (by omega)
      have v9 := (hbw.out.cell (p := ⟨blk, off + k * 16 + 9, none⟩) (cell_some_lt v9)).trans v9
      have v10 : w0.cell? ⟨blk, off + k * 16 + 10, none⟩ = some (.slice aA ak ac) := hcx 10 (by omega)
      have v10 := (hbw.out.cell (p := ⟨blk, off + k * 16 + 10, none⟩) (cell_some_lt v10)).trans v10
      have v11 : w0.cell? ⟨blk, off + k * 16 + 11, none⟩ = some (.slice gA gn gc) := hcx 11 (by omega)
      have v11 := (hbw.out.cell (p := ⟨blk, off + k * 16 + 11, none⟩) (cell_some_lt v11)).trans v11
      have v12 : w0.cell? ⟨blk, off + k * 16 + 12, none⟩ = some (.int .u64 lo) := hcx 12 (by omega)
      have v12 := (hbw.out.cell (p := ⟨blk, off + k * 16 + 12, none⟩) (cell_some_lt v12)).trans v12
      have v13 : w0.cell? ⟨blk, off + k * 16 + 13, none⟩ = some (.int .u64 hi) := hcx 13 (by omega)
      have v13 := (hbw.out.cell (p := ⟨blk, off + k * 16 + 13, none⟩) (cell_some_lt v13)).trans v13
      have v14 : w0.cell? ⟨blk, off + k * 16 + 14, none⟩ = some (.slice bA bn bc) := hcx 14 (by omega)
      have v14 := (hbw.out.cell (p := ⟨blk, off + k * 16 + 14, none⟩) (cell_some_lt v14)).trans v14
      have v15 : w0.cell? ⟨blk, off + k * 16 + 15, none⟩ = some (.slice lA ln lc) := hcx 15 (by omega)
      have v15 := (hbw.out.cell (p := ⟨blk, off + k * 16 + 15, none⟩) (cell_some_lt v15)).trans v15
      obtain ⟨w1, hw1⟩ : ∃ w1, wr.alloc (.cells #[.int .i64 kd, .string nm, .slice nA nn nc, .int .i64 eo, .int .u64 eu, .string en, .slice eA ek ec, .int .i64 ao, .int .u64 au, .string an, .slice aA ak ac, .slice gA gn gc, .int .u64 lo, .int .u64 hi, .slice bA bn bc, .slice lA ln lc] 50) = w1 := ⟨_, rfl⟩
      have hb1 : Below wr.heap.size wr w1 := by rw [← hw1]; exact (Below.refl _ wr).alloc (Nat.le_refl _) _
      have hX : w1.heap[wr.heap.size]? = some (.cells #[.int .i64 kd, .string nm, .slice nA nn nc, .int .i64 eo, .int .u64 eu, .string en, .slice eA ek ec, .int .i64 ao, .int .u64 au, .string an, .slice aA ak ac, .slice gA gn gc, .int .u64 lo, .int .u64 hi, .slice bA bn bc, .slice lA ln lc] 50 (0, 0)) := by rw [← hw1]; exact heap_alloc_new _ _
      have hwz : w0.heap.size ≤ W.heap.size := hW'.out.size
      have hk1 : Kp w0.heap.size C W w1 := hkr.out.next hwz hb1
      have hCr : C ≤ wr.heap.size := by have := hkr.out.below.size; have := blk_lt hT'.out.y; have := hC.out.1; omega
      have hT1 := hT'.out.keep hC.out.1 hC.out.2.1 hk1
      have hJ1 := hJ'.out _ _ _ hJr.out hb1
      obtain ⟨p0, p1, p2, p3, p4, p5, p6, p7, p8, p9, p10, p11, p12, p13, p14, p15⟩ := box16 hX
      obtain ⟨y0, y1⟩ := hT1.cells
      have hh83 := Lib.hid (fun s : Sub w1 => hhead s.val (hW'.out.trans (hk1.below.trans (s.property.mono (Nat.le_trans hwz hk1.below.size)))))
      unfold vlT at hh83
      dsimp only at hh83
      have hbdC := fun (W' : World) (pre' rest' : List Ln) (h1 : Kp w0.heap.size C W W') (h2 : TellBox l p q W') => (ih'.out k x bA hx).1 hbd (t + 1) bc W' pre' rest' (by omega) hmb.1 (by omega) (hW'.out.trans h1.below) h2
      have helC := fun (W' : World) (pre' rest' : List Ln) (h1 : Kp w0.heap.size C W W') (h2 : TellBox l p q W') => (ih'.out k x lA hx).2 hel (t + 1) lc W' pre' rest' (by omega) hmb.2 (by omega) (hW'.out.trans h1.below) h2
      rw [← bx] at hbdC
      rw [← elx] at helC
      have hbdC := Lib.hid hbdC
      have helC := Lib.hid helC
      have hX := Lib.hid hX
      have hk1 := Lib.hid hk1
      have hT1 := Lib.hid hT1
      have hJ1 := Lib.hid hJ1
      have hnext := Lib.hid hnext
      have hsp := Lib.hid hsp
      have hw1' := Lib.hid hw1
      have hCr := Lib.hid hCr
      have hwz := Lib.hid hwz
      have elx' := Lib.hid elx
      have kx' := Lib.hid kx
      have hkd : 1 ≤ kd ∧ kd ≤ 6 := by rw [kx]; exact hkd
      clear hcx hx kx mx nx nxA ex1 ex2 ex3 ex4 exA exu ax1 ax2 ax3 ax4 axA axu gx gxA lx hx' bx elx hbd hel hw1 c1 c2 c3 c4 hmx hmb loh hih hhead hb1
      obtain ⟨P0, hP0⟩ : ∃ P0, pre ++ linesL t (L.take k) = P0 := ⟨_, rfl⟩
      obtain ⟨T, hTT⟩ : ∃ T, headB x = T := ⟨_, rfl⟩
      have hS := linesS_eq t x
      rw [← kx'.out] at hS
      rw [hTT] at hh83 hS
      have hJ1 := hJ1.out
      have hsp := hsp.out
      rw [hP0] at hJ1 hsp
      have hn1 : pre ++ linesL t (L.take (k + 1)) = P0 ++ linesS t x := by rw [hnext.out, ← hP0, List.append_assoc]
      have hn1 := Lib.hid hn1
      have hJ1 := Lib.hid hJ1
      clear hP0 hTT hnext
      gi_wp2_with fail
      clear v0 v1 v2 v3 v4 v5 v6 v7 v8 v9 v10 v11 v12 v13 v14 v15
      first | rw [hw1'.out] | skip
      have c0 := Sub.cell p0
      have c1 := Sub.cell p1
      have c2 := Sub.cell p2
      have c3 := Sub.cell p3
      have c4 := Sub.cell p4
      have c5 := Sub.cell p5
      have c6 := Sub.cell p6
      have c7 := Sub.cell p7
      have c8 := Sub.cell p8
      have c9 := Sub.cell p9
      have c10 := Sub.cell p10
      have c11 := Sub.cell p11
      have c12 := Sub.cell p12
      have c13 := Sub.cell p13
      have c14 := Sub.cell p14
      have c15 := Sub.cell p15
      have d0 := Sub.cell y0
      refine wpIn_region_below_tail 4 (by kernel_rfl) (by kernel_rfl) ?_
      simp only [List.take_succ_cons, List.take_zero, List.drop_succ_cons, List.drop_zero]
      repeat (go_big_quiet_step ((go_at_call 83; with_reducible exact Sub.call (hh83.out _))))
      refine wpQuiet_nil ?_
      rintro w4 ⟨s4, hs4⟩
      have hb4 := hs4 ▸ s4.property
      clear hs4 s4 p0 p1 p2 p3 p4 p5 p6 p7 p8 p9 p10 p11 p12 p13 p14 p15 c0 c1 c2 c3 c4 c5 c6 c7 c8 c9 c10 c11 c12 c13 c14 c15 d0 y0 y1
      have hk4 := hk1.out.next hwz.out hb4
      have hJ4 := hJ'.out _ _ _ hJ1.out hb4
      have hX4 := (hb4.block _ (blk_lt hX.out)).trans hX.out
      have hk4 := Lib.hid hk4
      have hX4 := Lib.hid hX4
      cases hf : flatK kd with
      | true =>
        have hS2 : linesS t x = [(t, T)] := by rw [hS, hf]; rfl
        rw [hS2] at hn1 hsp
        obtain ⟨fn, tmps, assign, body, hy, hRo⟩ := hY'.out P0 (t, T) _ w4 hJ4 hsp
        have hRo := Lib.hid hRo
        have hn1 := Lib.hid hn1.out
        clear hJ4 hsp hS
        gi_wp2_with fail
        refine hRo.out.mono ?_
        rintro e w5 ⟨rfl, hJ5, hk5⟩
        have hX5 := hk5.keep _ _ hCr.out hX4.out (fun _ _ e => by cases e)
        have hk5 := Lib.hid (hk4.out.trans hk5)
        have hJ5 := Lib.hid hJ5
        obtain ⟨p0, p1, p2, p3, p4, p5, p6, p7, p8, p9, p10, p11, p12, p13, p14, p15⟩ := box16 hX5
        clear hRo hy hX5
        have hfl : kd < 3 ∨ kd = 6 := by
          unfold flatK at hf
          simpa using hf
        rcases hfl with hlt | rfl
        · gi_wp2
          go_roundg g2
          case measure => omega
          case rel => exact ⟨k + 1, by omega, by go_num, by rw [hn1.out]; exact hJ5.out, hk5.out⟩
        · gi_wp2
          go_roundg g2
          case measure => omega
          case rel => exact ⟨k + 1, by omega, by go_num, by rw [hn1.out]; exact hJ5.out, hk5.out⟩
      | false =>
        have hlt : ¬ kd < 3 := by
          intro h
          unfold flatK at hf
          rw [decide_eq_true h] at hf
          cases hf
        have hn6 : ¬ kd = 6 := by
          intro h
          unfold flatK at hf
          rw [h] at hf
          cases hf
        have hb6 : (kd == 6) = false := by simp [hn6]
        rw [hf] at hS
        simp only [Bool.false_eq_true, if_false] at hS
        rw [hS] at hn1 hsp
        clear hS
        obtain ⟨LB, hLB⟩ : ∃ LB, linesL (t + 1) x.bd = LB := ⟨_, rfl⟩
        obtain ⟨LE, hLE⟩ : ∃ LE, linesL (t + 1) x.el = LE := ⟨_, rfl⟩
        have hbdC := hbdC.out
        have helC := helC.out
        have hn1 := hn1.out
        rw [hLB] at hbdC hn1 hsp
        rw [hLE] at helC hn1 hsp
        have hbdC := Lib.hid hbdC
        have helC := Lib.hid helC
        clear hLB hLE
        simp only [List.cons_append, List.append_assoc] at hsp
        obtain ⟨fn, tmps, assign, body, hy, hRo⟩ := hY'.out P0 (t, T) _ w4 hJ4 hsp
        have hRo := Lib.hid hRo
        have hsp := Lib.hid hsp
        have hn1 := Lib.hid hn1
        clear hJ4
        gi_wp2_with fail
        refine hRo.out.mono ?_
        rintro e w5 ⟨rfl, hJ5, hk5⟩
        have hX5 := hk5.keep _ _ hCr.out hX4.out (fun _ _ e => by cases e)
        have hT5 := hT'.out.keep hC.out.1 hC.out.2.1 (hk4.out.trans hk5)
        have hk5 := Lib.hid (hk4.out.trans hk5)
        obtain ⟨p0, p1, p2, p3, p4, p5, p6, p7, p8, p9, p10, p11, p12, p13, p14, p15⟩ := box16 hX5
        obtain ⟨y0, y1⟩ := hT5.cells
        have hcall := hbdC.out w5 (P0 ++ [(t, T)]) _ hk5.out hT5 (by rw [List.append_assoc]; exact hsp.out) hJ5
        have hcall := Lib.hid hcall
        have hX5 := Lib.hid hX5
        clear hRo hy hJ5 hT5
        gi_wp2_with fail
        refine ⟨trivial, ?_⟩
        refine (callsIn_wide.2 hcall.out).mono ?_
        rintro e w6 ⟨rfl, hJ6, hk6⟩
        have hX6 := hk6.keep _ _ hCr.out hX5.out (fun _ _ e => by cases e)
        have hT6 := hT'.out.keep hC.out.1 hC.out.2.1 (hk5.out.trans hk6)
        have hk6 := Lib.hid (hk5.out.trans hk6)
        clear p0 p1 p2 p3 p4 p5 p6 p7 p8 p9 p10 p11 p12 p13 p14 p15 y0 y1 hcall hX5
        obtain ⟨p0, p1, p2, p3, p4, p5, p6, p7, p8, p9, p10, p11, p12, p13, p14, p15⟩ := box16 hX6
        obtain ⟨y0, y1⟩ := hT6.cells
        have hX6 := Lib.hid hX6
        by_cases hn0 : ln = 0
        · have e1 : ¬ (0 : Int) < (ln : Int) := by omega
          have hel0 : x.el.isEmpty = true := by rw [List.isEmpty_iff]; exact List.length_eq_zero_iff.1 (by rw [← elx'.out]; exact hn0)
          have hsp := hsp.out
          have hn1 := hn1.out
          rw [hel0] at hsp hn1
          simp only [if_true, List.nil_append] at hsp hn1
          have hn1 := Lib.hid hn1
          obtain ⟨fn, tmps, assign, body, hy, hRo⟩ := hY'.out (P0 ++ [(t, T)] ++ LB) (t, endB) _ w6 hJ6 (by simpa using hsp)
          dsimp only [endB] at hy
          have hRo := Lib.hid hRo
          clear hn0 hel0 hsp hJ6
          gi_wp2_with fail
          repeat (first | (exfalso; exact undef_no _ ‹_›) | ((with_reducible (refine And.intro ?_ ?_)); (first | trivial | exact (fun f e => by cases e)); gi_wp2_with fail))
          refine hRo.out.mono ?_
          rintro e w7 ⟨rfl, hJ7, hk7⟩
          have hk7 := Lib.hid (hk6.out.trans hk7)
          have hJ7 := Lib.hid hJ7
          clear hRo hy p0 p1 p2 p3 p4 p5 p6 p7 p8 p9 p10 p11 p12 p13 p14 p15 y0 y1
          gi_wp2
          go_roundg g2
          case measure => omega
          case rel => exact ⟨k + 1, by omega, by go_num, by rw [hn1.out]; simpa using hJ7.out, hk7.out⟩
        · have e1 : (0 : Int) < (ln : Int) := by omega
          have hel0 : x.el.isEmpty = false := by
            have := elx'.out
            cases hxe : x.el with
            | nil => rw [hxe] at this; exact absurd this hn0
            | cons y z => rfl
          have hsp := hsp.out
          have hn1 := hn1.out
          rw [hel0] at hsp hn1
          simp only [Bool.false_eq_true, if_false, List.cons_append, List.append_assoc, List.nil_append] at hsp hn1
          have hn1 := Lib.hid hn1
          obtain ⟨fn, tmps, assign, body, hy, hRo⟩ := hY'.out (P0 ++ [(t, T)] ++ LB) (t, elseB) _ w6 hJ6 (by simpa using hsp)
          dsimp only [elseB] at hy
          have hRo := Lib.hid hRo
          have hsp := Lib.hid hsp
          clear hn0 hel0 hJ6
          gi_wp2_with fail
          refine hRo.out.mono ?_
          rintro e w7 ⟨rfl, hJ7, hk7⟩
          have hX7 := hk7.keep _ _ hCr.out hX6.out (fun _ _ e => by cases e)
          have hT7 := hT'.out.keep hC.out.1 hC.out.2.1 (hk6.out.trans hk7)
          have hk7 := Lib.hid (hk6.out.trans hk7)
          clear p0 p1 p2 p3 p4 p5 p6 p7 p8 p9 p10 p11 p12 p13 p14 p15 y0 y1 hRo hy hX6
          obtain ⟨p0, p1, p2, p3, p4, p5, p6, p7, p8, p9, p10, p11, p12, p13, p14, p15⟩ := box16 hX7
          obtain ⟨y0, y1⟩ := hT7.cells
          have hcall := helC.out w7 (P0 ++ [(t, T)] ++ LB ++ [(t, elseB)]) _ hk7.out hT7 (by simpa using hsp.out) hJ7
          have hcall := Lib.hid hcall
          have hX7 := Lib.hid hX7
          clear hJ7 hT7
          gi_wp2_with fail
          refine ⟨trivial, ?_⟩
          refine (callsIn_wide.2 hcall.out).mono ?_
          rintro e w8 ⟨rfl, hJ8, hk8⟩
          have hT8 := hT'.out.keep hC.out.1 hC.out.2.1 (hk7.out.trans hk8)
          have hk8 := Lib.hid (hk7.out.trans hk8)
          clear p0 p1 p2 p3 p4 p5 p6 p7 p8 p9 p10 p11 p12 p13 p14 p15 y0 y1 hcall hX7
          obtain ⟨y0, y1⟩ := hT8.cells
          obtain ⟨fn, tmps, assign, body, hy, hRo⟩ := hY'.out (P0 ++ [(t, T)] ++ LB ++ [(t, elseB)] ++ LE) (t, endB) _ w8 hJ8 (by simpa using hsp.out)
          dsimp only [endB] at hy
          have hRo := Lib.hid hRo
          clear hJ8
          gi_wp2_with fail
          refine hRo.out.mono ?_
          rintro e w9 ⟨rfl, hJ9, hk9⟩
          have hk9 := Lib.hid (hk8.out.trans hk9)
          have hJ9 := Lib.hid hJ9
          clear hRo hy y0 y1
          gi_wp2
          go_roundg g2
          case measure => omega
          case rel => exact ⟨k + 1, by omega, by go_num, by rw [hn1.out]; simpa using hJ9.out, hk9.out⟩
end Go.Proofs.YtnahgfdoiflacaaGreatDoor
