/- MemAgain answers true. -/
import Derived.Test.YtageahpgcjnkpaaWSame
import Derived.Test.YtageahpgcjnkpaaQ2
set_option linter.unusedSimpArgs false
set_option linter.unusedVariables false
namespace Go.Proofs.Ytageahpgcjnkpaa
open Go.RowKit Go.Shelf

attribute [local go_sem] Oper.semAt_some

theorem run_eql_fn (w : World) (p : Value) : (binOp .eql 63 (.func (.func 58) #[] #[p]) .nilFunc).run Try.prog w = .ok (.bool false) w := by kernel_rfl
theorem new_any' {A : Option Addr} {n cap : Nat} {L : List Reg} {w W : World} (h : RegsIn w A n cap L) (hb : Below w.heap.size w W) (ht : mayL L = true) : Calls Try.prog 14 #[.slice A n cap] W (NewPost L n W) :=
  new_yes A n cap L W ((h.hr.below hb).more hb.size) h.hc h.hcm ht

/-- a cell is of a block of cells -/
theorem cell_not_row {W : World} {b o r : Nat} {v : Value} (hc : W.cell? ⟨b, o, none⟩ = some v) (h : ∃ x : Obj, W.heap[r]? = some x ∧ x.isCells = false) : b ≠ r := by
  rintro rfl
  obtain ⟨x, hx, hn⟩ := h
  cases x <;> simp_all [World.cell?, Obj.isCells]
theorem blk_not_row {W : World} {b r : Nat} {cs : Array Value} {t : TypeId} (hc : W.heap[b]? = some (.cells cs t (0, 0))) (h : ∃ x : Obj, W.heap[r]? = some x ∧ x.isCells = false) : b ≠ r := by
  rintro rfl
  obtain ⟨x, hx, hn⟩ := h
  rw [hc] at hx
  cases hx
  cases hn
theorem keep_row {W W' : World} {row : Option Nat} (hg : W.grownBy W' row) (hr : ∀ r, row = some r → ∃ x : Obj, W.heap[r]? = some x ∧ x.isCells = false) {b o : Nat} {v : Value} (hc : W.cell? ⟨b, o, none⟩ = some v) : W'.cell? ⟨b, o, none⟩ = some v := by
  have hne : some b ≠ row := by
    intro e
    exact cell_not_row hc (hr b e.symm) rfl
  exact (World.cell?_of_block (a := ⟨b, o, none⟩) (hg.block b (cell_some_lt hc) hne)).trans hc
theorem keep_blk {W W' : World} {row : Option Nat} (hg : W.grownBy W' row) (hr : ∀ r, row = some r → ∃ x : Obj, W.heap[r]? = some x ∧ x.isCells = false) {b : Nat} {cs : Array Value} {t : TypeId} (hc : W.heap[b]? = some (.cells cs t (0, 0))) : W'.heap[b]? = some (.cells cs t (0, 0)) := by
  have hne : some b ≠ row := by
    intro e
    exact blk_not_row hc (hr b e.symm) rfl
  exact (hg.block b (blk_lt hc) hne).trans hc
theorem regs_row {W W' : World} {row : Option Nat} (hg : W.grownBy W' row) (hr : ∀ r, row = some r → ∃ x : Obj, W.heap[r]? = some x ∧ x.isCells = false) {A : Option Addr} {n : Nat} {L : List Reg} (h : RegsAt W W.heap.size A n L) : RegsAt W' W'.heap.size A n L := by
  obtain ⟨hl, hw, hc⟩ := h
  refine ⟨hl, hw, fun hn => ?_⟩
  obtain ⟨blk, off, e, hb, hi⟩ := hc hn
  refine ⟨blk, off, e, Nat.lt_of_lt_of_le hb hg.size, fun i r hr2 => ?_⟩
  obtain ⟨a, b, c, d⟩ := hi i r hr2
  exact ⟨keep_row hg hr a, keep_row hg hr b, keep_row hg hr c, keep_row hg hr d⟩
theorem Mem_.row {W W' : World} {row : Option Nat} (hg : W.grownBy W' row) (hr : ∀ r, row = some r → ∃ x : Obj, W.heap[r]? = some x ∧ x.isCells = false) {p q : Nat} {A : Option Addr} {n cap : Nat} {L : List Reg} {f : Nat → Int} (h : Mem_ W p q A n cap L f) : Mem_ W' p q A n cap L f :=
  ⟨keep_blk hg hr h.hp, keep_blk hg hr h.hq, regs_row hg hr h.hr, h.hn, h.hf⟩
theorem RMem_.row {W W' : World} {row : Option Nat} (hg : W.grownBy W' row) (hr : ∀ r, row = some r → ∃ x : Obj, W.heap[r]? = some x ∧ x.isCells = false) {p q : Nat} {A : Option Addr} {n cap : Nat} {L : List Reg} {f : Nat → Int} (h : RMem_ W p q A n cap L f) : RMem_ W' p q A n cap L f :=
  ⟨keep_blk hg hr h.hp, keep_blk hg hr h.hq, regs_row hg hr h.hr, h.hn, h.hf⟩
theorem kp3_put {w W : World} {a b c l : Nat} {o o' : Obj} (h1 : a < w.heap.size) (h2 : b < w.heap.size) (h3 : c < w.heap.size) (hl : w.heap.size ≤ l) (ho : W.heap[l]? = some o) : Kp3 a b c W (W.putObj l o') := by
  have hlt : l < W.heap.size := (Array.getElem?_eq_some_iff.1 ho).1
  have hg := grownBy_putObj' W l o'
  exact ⟨hg.block a (by omega) (by simp; omega), hg.block b (by omega) (by simp; omega), hg.block c (by omega) (by simp; omega)⟩

/-- what the loop of MemAgain keeps -/
structure AgI (w : World) (N bN p q p2 q2 : Nat) (A A2 : Option Addr) (n cap cap2 : Nat) (L : List Reg) (f : Nat → Int) (pre : List Nat) (W : World) : Prop where
  m : Mem_ W p q A n cap L f
  k : Mem_ W p2 q2 A2 n cap2 L (refill L f pre)
  x : Boxed W bN 25 (.pointer (some ⟨p2, 0, none⟩))
  r : Boxed W w.heap.size 4 (.bool false)
  b : Below w.heap.size w W
  z : N ≤ W.heap.size
theorem agI_own {w : World} {N bN p q p2 q2 : Nat} {A A2 : Option Addr} {n cap cap2 : Nat} {L : List Reg} {f : Nat → Int} (B : Nat) (hB : w.heap.size ≤ B) : OwnFrom B (AgI w N bN p q p2 q2 A A2 n cap cap2 L f) := by
  intro s X Y row h hg hr
  have hr' : ∀ r, row = some r → ∃ x : Obj, X.heap[r]? = some x ∧ x.isCells = false := fun r e => (hr r e).2
  exact ⟨h.m.row hg hr', h.k.row hg hr', keep_blk hg hr' h.x, keep_blk hg hr' h.r, h.b.grown hg h.b.size (fun k e => Nat.le_trans hB (hr k e).1), Nat.le_trans h.z hg.size⟩
def vals (pre : List (Fin 8192)) : List Nat := pre.map fun x => x.val
/-- how the loop stops early: the word was refused -/
def AgX (w : World) (L : List Reg) (f : Nat → Int) (c : Code) (pre : List Nat) (W : World) : Prop := ∃ (ini : List Nat) (x : Nat), pre = ini ++ [x] ∧ askI L (8 * (x : Int)) 8 ≠ 0
theorem agX_no {w W : World} {L : List Reg} {f : Nat → Int} (hm : ∀ r ∈ L, mayB r = true) (hi : Inside L f) {c : Code} {k : Nat} (hk : k ≤ 8192) (h : AgX w L f c (fullN f k) W) : False := by
  obtain ⟨ini, x, e, h2⟩ := h
  obtain ⟨h3, h4⟩ := fullN_mem (f := f) (k := k) (x := x) (by rw [e]; simp)
  exact h2 (word_in hm hi (by omega) h4)

set_option maxRecDepth 100000 in
set_option maxHeartbeats 4000000 in
theorem memAgain_in (A : Option Addr) (n cap : Nat) (L : List Reg) (A3 : Option Addr) (n3 cap3 : Nat) (V : List (List Int)) (A5 : Option Addr) (n5 cap5 : Nat) (S : List Stp) (w : World) (h1 : RegsIn w A n cap L) (h3 : RowsIn w A3 n3 cap3 V) (h5 : StepsIn w A5 n5 cap5 S) :
    CallsIn Fence.wide 5 Try.prog 8 #[.slice A n cap, .slice A3 n3 cap3, .slice A5 n5 cap5] w (Yes w) := by
  obtain ⟨c1, e1⟩ : ∃ c, longB L = c := ⟨_, rfl⟩
  obtain ⟨c2, e2⟩ : ∃ c, mayL L = c := ⟨_, rfl⟩
  obtain ⟨c3, e3⟩ : ∃ c, fitsB L V = c := ⟨_, rfl⟩
  have k1 := Lib.hid fun W hb => long_any' h1 (W := W) hb e1
  have k2 := Lib.hid fun W hb => may_any' h1 (W := W) hb e2
  have k3 := Lib.hid fun W hb => fits_any' h1 h3 (W := W) hb e3
  have kp := Lib.hid fun W hb (g3 : c2 = true) (g5 : c3 = true) => play_any' h1 h3 h5 (W := W) hb (e2.trans g3) (e3.trans g5)
  have kn := Lib.hid fun W hb (g3 : c2 = true) => new_any' h1 (W := W) hb (e2.trans g3)
  have hm' := Lib.hid fun (g3 : c2 = true) => mayL_mem (e2.trans g3)
  have hin := Lib.hid fun (g3 : c2 = true) (g5 : c3 = true) => inside_play (mayL_mem (e2.trans g3)) (e3.trans g5) h5.hs.2.1 S.length (Nat.le_refl _)
  have hLn := h1.hr.1
  have hSn := h5.hs.1
  have hn5 := Nat.le_trans h5.hc h5.hcm
  clear h1 h3 h5 e1 e2 e3
  have hb' := Lib.hid ((Below.refl w.heap.size w).alloc (Nat.le_refl _) (.cells #[.bool false] 4))
  have bx' := Lib.hid (Boxed.new w 4 (.bool false))
  refine callsIn_of_wp_marks Try.func8 rfl trivial ?_ rfl
  simp only [Try.ntmps8, List.size_toArray, List.length_cons, List.length_nil, Nat.reduceAdd, Nat.reduceSub, Array.replicate_succ, Array.replicate_zero, List.push_toArray, List.append_toArray, List.nil_append, List.cons_append]
  gi_wp2_with fail
  repeat ((with_reducible (refine And.intro ?_ ?_)); (first | trivial | exact (fun f e => by cases e)); try gi_wp2_with fail)
  refine (callsIn_wide.2 (k1.out _ hb'.out)).mono ?_
  rintro e w1 ⟨rfl, b1⟩
  have hb' := Lib.hid (Below.next hb'.out b1)
  have bx' := Lib.hid (show Boxed w1 w.heap.size 4 (.bool false) from (b1.block _ bx'.out.lt).trans bx'.out)
  clear b1
  cases c1
  · gi_wp2_with fail
    repeat ((with_reducible (refine And.intro ?_ ?_)); (first | trivial | exact (fun f e => by cases e)); try gi_wp2_with fail)
    refine (callsIn_wide.2 (k2.out _ hb'.out)).mono ?_
    rintro e w1 ⟨rfl, b1⟩
    have hb' := Lib.hid (Below.next hb'.out b1)
    have bx' := Lib.hid (show Boxed w1 w.heap.size 4 (.bool false) from (b1.block _ bx'.out.lt).trans bx'.out)
    clear b1
    cases c2
    · gi_wp2_with fail
      repeat ((with_reducible (refine And.intro ?_ ?_)); (first | trivial | exact (fun f e => by cases e)); try gi_wp2_with fail)
      refine (callsIn_wide.2 (known_any _)).mono ?_
      rintro e w3 ⟨rfl, b3⟩
      have hb' := Lib.hid (Below.next hb'.out b3)
      have bx' := Lib.hid (show Boxed w3 w.heap.size 4 (.bool false) from (b3.block _ bx'.out.lt).trans bx'.out)
      clear b3
      have y1 := bx'.out.cell
      have y2 := bx'.out.frozen
      gi_wp2
      have hc := (bx'.out.set (.bool true)).cell
      refine ⟨.bool true, by simp [results, Try.f8, go_sem, hc], rfl, hb'.out.setCell (p := ⟨w.heap.size, 0, none⟩) (Nat.le_refl _) _⟩
    · gi_wp2_with fail
      repeat ((with_reducible (refine And.intro ?_ ?_)); (first | trivial | exact (fun f e => by cases e)); try gi_wp2_with fail)
      refine (callsIn_wide.2 (k3.out _ hb'.out)).mono ?_
      rintro e w1 ⟨rfl, b1⟩
      have hb' := Lib.hid (Below.next hb'.out b1)
      have bx' := Lib.hid (show Boxed w1 w.heap.size 4 (.bool false) from (b1.block _ bx'.out.lt).trans bx'.out)
      clear b1
      cases c3
      · gi_wp2_with fail
        repeat ((with_reducible (refine And.intro ?_ ?_)); (first | trivial | exact (fun f e => by cases e)); try gi_wp2_with fail)
        refine (callsIn_wide.2 (known_any _)).mono ?_
        rintro e w3 ⟨rfl, b3⟩
        have hb' := Lib.hid (Below.next hb'.out b3)
        have bx' := Lib.hid (show Boxed w3 w.heap.size 4 (.bool false) from (b3.block _ bx'.out.lt).trans bx'.out)
        clear b3
        have y1 := bx'.out.cell
        have y2 := bx'.out.frozen
        gi_wp2
        have hc := (bx'.out.set (.bool true)).cell
        refine ⟨.bool true, by simp [results, Try.f8, go_sem, hc], rfl, hb'.out.setCell (p := ⟨w.heap.size, 0, none⟩) (Nat.le_refl _) _⟩
      · by_cases g7 : 60 < n5
        · have d7 : decide ((60 : Int) < (n5 : Int)) = true := by simp; omega
          gi_wp2_with fail
          repeat ((with_reducible (refine And.intro ?_ ?_)); (first | trivial | exact (fun f e => by cases e)); try gi_wp2_with fail)
          refine (callsIn_wide.2 (known_any _)).mono ?_
          rintro e w3 ⟨rfl, b3⟩
          have hb' := Lib.hid (Below.next hb'.out b3)
          have bx' := Lib.hid (show Boxed w3 w.heap.size 4 (.bool false) from (b3.block _ bx'.out.lt).trans bx'.out)
          clear b3
          have y1 := bx'.out.cell
          have y2 := bx'.out.frozen
          gi_wp2
          have hc := (bx'.out.set (.bool true)).cell
          refine ⟨.bool true, by simp [results, Try.f8, go_sem, hc], rfl, hb'.out.setCell (p := ⟨w.heap.size, 0, none⟩) (Nat.le_refl _) _⟩
        · have d7 : decide ((60 : Int) < (n5 : Int)) = false := by simp; omega
          have hm := hm'.out (by trivial)
          have hm2 := Lib.hid hm
          have hin2 := Lib.hid (hin.out (by trivial) (by trivial))
          clear hm hm' hin
          gi_wp2_with fail
          repeat ((with_reducible (refine And.intro ?_ ?_)); (first | trivial | exact (fun f e => by cases e)); try gi_wp2_with fail)
          refine (callsIn_wide.2 (kp.out _ hb'.out (by trivial) (by trivial))).mono ?_
          rintro e w1 ⟨p, q, p', q', B1, bc1, B2, bc2, rfl, hM, hR, u1, u2, u3, b1⟩
          have hb' := Lib.hid (Below.next hb'.out b1)
          have bx' := Lib.hid (show Boxed w1 w.heap.size 4 (.bool false) from (b1.block _ bx'.out.lt).trans bx'.out)
          have hM' := Lib.hid hM
          clear hM hR u3 b1
          gi_wp2_with fail
          repeat ((with_reducible (refine And.intro ?_ ?_)); (first | trivial | exact (fun f e => by cases e)); try gi_wp2_with fail)
          refine (callsIn_wide.2 (kn.out _ hb'.out (by trivial))).mono ?_
          rintro e w1 ⟨p2, q2, B3, bc3, rfl, hM2, v1, v2, v3, v4, b1⟩
          have hq2 : w.heap.size ≤ q2 := Nat.le_trans hb'.out.size v4
          have hqq : q ≠ q2 := by have := blk_lt hM'.out.hq; omega
          have hb' := Lib.hid (Below.next hb'.out b1)
          have bx' := Lib.hid (show Boxed w1 w.heap.size 4 (.bool false) from (b1.block _ bx'.out.lt).trans bx'.out)
          have hM' := Lib.hid (hM'.out.below b1)
          have hM2' := Lib.hid hM2
          clear hM2 v3 v4 b1
          gi_wp2_with fail
          have hbA : Below w1.heap.size w1 (w1.alloc (.cells #[.pointer (some ⟨p2, 0, none⟩)] 25)) := (Below.refl _ _).alloc (Nat.le_refl _) _
          have hM' := Lib.hid (hM'.out.below hbA)
          have hM2' := Lib.hid (hM2'.out.below hbA)
          have hb' := Lib.hid (Below.next hb'.out hbA)
          have bx' := Lib.hid (bx'.out.alloc (.cells #[.pointer (some ⟨p2, 0, none⟩)] 25))
          have bN' := Lib.hid (Boxed.new w1 25 (.pointer (some ⟨p2, 0, none⟩)))
          obtain ⟨bN, hbN⟩ : ∃ bN, w1.heap.size = bN := ⟨_, rfl⟩
          obtain ⟨W1, hW1⟩ : ∃ W1, w1.alloc (.cells #[.pointer (some ⟨p2, 0, none⟩)] 25) = W1 := ⟨_, rfl⟩
          rw [hW1] at hM' hM2' hb' bx' bN' ⊢
          rw [hbN] at bN' ⊢
          clear hbA hW1 hbN
          refine ⟨trivial, ?_⟩
          refine (callsIn_wide.2 (num_any _ _)).mono ?_
          rintro e w4 ⟨rfl, rfl⟩
          have y3 := bN'.out.cell
          have hq0 := run_eql_mem
          have hq1 := run_eql_fn
          gi_wp2_with fail
          repeat ((with_reducible (refine And.intro ?_ ?_)); (first | trivial | exact (fun f e => by cases e)); try gi_wp2_with fail)
          refine (callsIn_wide.2 (all_any _ hM'.out u1)).mono ?_
          rintro e w5 ⟨Bs, pA, qA, rfl, hO, z1, b1⟩
          have hb' := Lib.hid (Below.next hb'.out b1)
          have bx' := Lib.hid (show Boxed w5 w.heap.size 4 (.bool false) from (b1.block _ bx'.out.lt).trans bx'.out)
          have hn1 : q2 ≠ Bs := by have := blk_lt hM2'.out.hq; omega
          have hn2 : q2 ≠ pA := by have := blk_lt hM2'.out.hq; omega
          have hn3 : q2 ≠ qA := by have := blk_lt hM2'.out.hq; omega
          have hM' := Lib.hid (hM'.out.below b1)
          have hM2' := Lib.hid (hM2'.out.below b1)
          have hq2lt := blk_lt hM2'.out.hq
          have bN' := Lib.hid (show Boxed w5 bN 25 (.pointer (some ⟨p2, 0, none⟩)) from (b1.block _ bN'.out.lt).trans bN'.out)
          have hO' := Lib.hid hO
          clear y3 hO z1 b1
          gi_wp2_with fail
          have hvb := Lib.hid (playN_byte L V n S n5)
          rw [hSn, hLn] at hin2
          obtain ⟨F, hF⟩ : ∃ F, playN L V n S n5 = F := ⟨_, rfl⟩
          rw [hF] at hM' hO' hin2 hvb
          clear hF kp kn k1 k2 k3
          have hB := hO'.out.blk
          refine wpIn_rangeFunc_ownH (F := Fence.wide) (n := 5) rfl (by omega) (gf := 58) (lb := #[.pointer (some ⟨Bs, 0, none⟩)]) rfl trivial (enters_of Try.func58 (by kernel_rfl) rfl)
            (all58_stops (5 - 1) (by omega) Bs pA qA F w5 hO'.out) Kp3.trans (fun W l o o' hl ho hc hw => kp3_put hB.1 hB.2.1 hB.2.2 hl ho) (Below.refl _ _) (fun _ => rfl)
            (fun pre W => AgI w w5.heap.size bN p q p2 q2 B1 B3 n bc1 bc3 L F (vals pre) W) (fun c pre W => AgX w L F c (vals pre) W ∧ Below w.heap.size w W)
            (fun s X Y row h hg hr => agI_own _ hb'.out.size (vals s) X Y row h hg hr) (fun c => OwnFrom.and (fun s X Y row h _ _ => by unfold AgX at h ⊢; exact h) (ownFrom_below (Nat.le_refl _) hb'.out.size))
            ⟨hM'.out, hM2'.out, bN'.out, bx'.out, hb'.out, Nat.le_refl _⟩
            (fun x a' W => a' = { tmps := #[.slice A n cap, .slice A3 n3 cap3, .slice A5 n5 cap5, undef, undef, undef, .pointer (some ⟨w.heap.size, 0, none⟩), .pointer (some ⟨p, 0, none⟩), .pointer (some ⟨p', 0, none⟩), .bool true, .pointer (some ⟨bN, 0, none⟩), .int .i64 0, .func (.func 58) #[] #[.pointer (some ⟨Bs, 0, none⟩)], .int .u64 (8 * ((x.val : Nat) : Int)), .int .u64 (get8 F (8 * x.val)), .slice A n cap, .bool false, .bool false, .slice A n cap, .bool true, .bool false, .bool false, .bool false, .slice A n cap, .slice A3 n3 cap3, .bool true, .bool false, .bool false, .bool false, .slice A5 n5 cap5, .int .i64 (n5 : Int), .bool false, .bool false, undef, .tuple #[.pointer (some ⟨p, 0, none⟩), .pointer (some ⟨p', 0, none⟩), .bool true], .slice A n cap, .slice A3 n3 cap3, .slice A5 n5 cap5, .tuple #[.pointer (some ⟨p, 0, none⟩), .pointer (some ⟨p', 0, none⟩), .bool true], .pointer (some ⟨p, 0, none⟩), .pointer (some ⟨p', 0, none⟩), .bool true, .bool true, .bool false, .tuple #[.pointer (some ⟨p2, 0, none⟩), .int .i64 0], .slice A n cap, .tuple #[.pointer (some ⟨p2, 0, none⟩), .int .i64 0], .pointer (some ⟨p2, 0, none⟩), .int .i64 0, .int .i64 0, .int .i64 0, .bool false, .bool false, .pointer (some ⟨p2, 0, none⟩), .bool false, .bool false, .pointer (some ⟨p, 0, none⟩), .func (.func 58) #[] #[.pointer (some ⟨Bs, 0, none⟩)], .func (.func 58) #[] #[.pointer (some ⟨Bs, 0, none⟩)], .bool false, .func (.func 58) #[] #[.pointer (some ⟨Bs, 0, none⟩)], .int .u64 (8 * ((x.val : Nat) : Int)), .int .u64 (get8 F (8 * x.val)), undef, undef, undef, undef, undef, undef, undef, undef, undef, undef, undef, undef], defers := [] })
            (fun x a' s X Y row hs _ _ => hs)
            ?assign ?body ?done ?stop
          case assign =>
            rintro l pre x W K hI hK
            have hI' := Lib.hid hI
            have hK' := Lib.hid hK
            clear hI hK
            gi_wp2
            exact hK'.out _ _ (KeepsFrom.refl _ _) (Kp3.refl _) hI'.out rfl
          case body =>
            rintro l pre ⟨x, hx⟩ a' W hl ⟨lr, hlr⟩ hI rfl hlt
            dsimp only
            have hI' := Lib.hid hI
            have hst := Lib.hid (store_any (8 * (x : Int)) (get8 F (8 * x)) W hI.k hm2.out (by omega) (by omega) (getN_bd F (8 * x) hvb.out 8).1 (by have : get8 F (8 * x) < 256 ^ 8 := (getN_bd F (8 * x) hvb.out 8).2; omega))
            have hap := Lib.hid (refill_append L F (vals pre) x)
            have y1 := hI.r.cell
            have y2 := hI.r.frozen
            have y3 := hI.x.cell
            have hAX := Lib.hid (show askI L (8 * (x : Int)) 8 ≠ 0 → AgX w L F .ret (vals pre ++ [x]) W from fun h => ⟨_, _, rfl, h⟩)
            have hxx := Lib.hid hx
            have hm3 := Lib.hid (show vals (pre ++ [(⟨x, hx⟩ : Fin 8192)]) = vals pre ++ [x] by simp [vals])
            clear hI hlt
            rw [← hap.out] at hst
            obtain ⟨er, her⟩ : ∃ er, askI L (8 * (x : Int)) 8 = er := ⟨_, rfl⟩
            rw [her] at hst hAX
            clear her
            by_cases he : er = 0
            · subst he
              gi_wp2_with fail
              refine ⟨trivial, ?_⟩
              refine (callsIn_wide.2 hst.out).mono ?_
              rintro e w6 ⟨rfl, hq, hg⟩
              have hq' := Lib.hid hq
              have hg' := Lib.hid hg
              clear hq hg y1 y2 y3
              gi_wp2_with fail
              refine ⟨trivial, ?_⟩
              refine (callsIn_wide.2 (num_any _ _)).mono ?_
              rintro e w7 ⟨rfl, rfl⟩
              gi_wp2
              have hI := hI'.out
              have hg := hg'.out
              refine ⟨KeepsFrom.of_grownBy hg (fun j e => by cases e; exact hq2lt), ⟨hg.block _ ?_ ?_, hg.block _ ?_ ?_, hg.block _ ?_ ?_⟩, ?_⟩
              · exact Nat.lt_of_lt_of_le hB.1 hI.z
              · simpa using fun e => hn1 e.symm
              · exact Nat.lt_of_lt_of_le hB.2.1 hI.z
              · simpa using fun e => hn2 e.symm
              · exact Nat.lt_of_lt_of_le hB.2.2 hI.z
              · simpa using fun e => hn3 e.symm
              dsimp only
              rw [hm3.out]
              exact ⟨hI.m.other hg hI.k.hq (blk_ne hI.m.hp hI.k.hq (by decide)) hqq, hI.k.turn hg hq'.out (refill_byte _ _ _), hI.x.kept hg (by simpa using blk_ne hI.x hI.k.hq (by decide)), hI.r.kept hg (by simpa using blk_ne hI.r hI.k.hq (by decide)),
                hI.b.grown hg hI.b.size (fun k e => by cases e; exact hq2), Nat.le_trans hI.z hg.size⟩
            · have hd : (er != 0) = true := by simpa using he
              have he' := Lib.hid he
              clear he
              gi_wp2_with fail
              refine ⟨trivial, ?_⟩
              refine (callsIn_wide.2 hst.out).mono ?_
              rintro e w6 ⟨rfl, hq, hg⟩
              have hg' := Lib.hid hg
              have b6 := Lib.hid (hI'.out.r.kept hg (by simpa using blk_ne hI'.out.r hI'.out.k.hq (by decide)))
              have y1 := b6.out.cell
              have y2 := b6.out.frozen
              clear hq hg y3
              gi_wp2_with fail
              refine ⟨trivial, ?_⟩
              refine (callsIn_wide.2 (num_any _ _)).mono ?_
              rintro e w7 ⟨rfl, rfl⟩
              gi_wp2
              have hI := hI'.out
              have hg := hg'.out
              have hrl := hb'.out.size
              refine ⟨(KeepsFrom.of_grownBy hg (fun j e => by cases e; exact hq2lt)).trans ((KeepsOthers.setCell _ _ _).from _), ?_, ((hI.b.grown hg hI.b.size (fun k e => by cases e; exact hq2)).setCell (p := ⟨w.heap.size, 0, none⟩) (Nat.le_refl _) _)⟩
              rw [hm3.out]
              exact ⟨_, _, rfl, fun h0 => by
                obtain ⟨i2, x2, e2, h2⟩ := hAX.out he'.out
                obtain ⟨_, e3⟩ := List.append_inj' e2 rfl
                cases e3
                exact h2 h0⟩
          case done =>
            rintro D ys W hD hys hI hK
            have hI' := Lib.hid hI
            have hK' := Lib.hid hK
            have y3 := hI.x.cell
            have hsame := Lib.hid (same_any W hI.m hI.k)
            have hqe : eqF F (refill L F (vals ys)) = true := by
              rw [show vals ys = fullN F 8192 from hys]
              exact refill_same hm2.out hin2.out hvb.out
            rw [hqe, show decide (L = L) = true by simp] at hsame
            clear hI hK hqe
            gi_wp2_with fail
            refine ⟨trivial, ?_⟩
            refine (callsIn_wide.2 hsame.out).mono ?_
            rintro e w6 ⟨rfl, b6⟩
            have b6' := Lib.hid b6
            clear b6 y3
            gi_wp2_with fail
            refine ⟨trivial, ?_⟩
            refine (callsIn_wide.2 (known_any _)).mono ?_
            rintro e w7 ⟨rfl, b7⟩
            have b7' := Lib.hid (Below.next b6'.out b7)
            clear b7
            have r7 := Lib.hid (show Boxed w7 w.heap.size 4 (.bool false) from (b7'.out.block _ hI'.out.r.lt).trans hI'.out.r)
            have y1 := r7.out.cell
            have y2 := r7.out.frozen
            gi_wp2
            have hlt0 := hb'.out.size
            have hDl : D < W.heap.size := (Array.getElem?_eq_some_iff.1 hK'.out).1
            have hKd := (KeepsOthers.setCell w7 ⟨w.heap.size, 0, none⟩ (.bool true)).same D _ ((b7'.out.block D hDl).trans hK'.out) rfl
            refine ⟨by simp, .inl ⟨_, _, rfl, run_takeDeferred hKd, ?_⟩⟩
            have hlr := bx'.out.lt
            have hc := ((r7.out.set (.bool true)).kept (grownBy_putObj' _ D (.deferred none)) (fun e => by cases e; omega)).cell
            refine ⟨.bool true, by simp [results, Try.f8, go_sem, hc], rfl, ?_⟩
            exact (((Below.next hI'.out.b b7'.out).setCell (p := ⟨w.heap.size, 0, none⟩) (Nat.le_refl _) _).grown (grownBy_putObj' _ D _) (by have := hI'.out.b.size; have := b7'.out.size; simp; omega) (fun k e => by cases e; omega))
          case stop =>
            rintro D c pre W hD ⟨k, hk, hpre⟩ hX hK
            rw [show vals pre = fullN F k from hpre] at hX
            exact (agX_no hm2.out hin2.out hk hX.1).elim
  · gi_wp2_with fail
    repeat ((with_reducible (refine And.intro ?_ ?_)); (first | trivial | exact (fun f e => by cases e)); try gi_wp2_with fail)
    refine (callsIn_wide.2 (known_any _)).mono ?_
    rintro e w3 ⟨rfl, b3⟩
    have hb' := Lib.hid (Below.next hb'.out b3)
    have bx' := Lib.hid (show Boxed w3 w.heap.size 4 (.bool false) from (b3.block _ bx'.out.lt).trans bx'.out)
    clear b3
    have y1 := bx'.out.cell
    have y2 := bx'.out.frozen
    gi_wp2
    have hc := (bx'.out.set (.bool true)).cell
    refine ⟨.bool true, by simp [results, Try.f8, go_sem, hc], rfl, hb'.out.setCell (p := ⟨w.heap.size, 0, none⟩) (Nat.le_refl _) _⟩

theorem memAgain_any (A : Option Addr) (n cap : Nat) (L : List Reg) (A3 : Option Addr) (n3 cap3 : Nat) (V : List (List Int)) (A5 : Option Addr) (n5 cap5 : Nat) (S : List Stp) (w : World) (h1 : RegsIn w A n cap L) (h3 : RowsIn w A3 n3 cap3 V) (h5 : StepsIn w A5 n5 cap5 S) :
    Calls Try.prog 8 #[.slice A n cap, .slice A3 n3 cap3, .slice A5 n5 cap5] w (Yes w) := callsIn_wide.1 (memAgain_in A n cap L A3 n3 cap3 V A5 n5 cap5 S w h1 h3 h5)
end Go.Proofs.Ytageahpgcjnkpaa
