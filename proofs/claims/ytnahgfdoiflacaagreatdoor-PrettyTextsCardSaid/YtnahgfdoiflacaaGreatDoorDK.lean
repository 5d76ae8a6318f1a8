/- The reference's rest, names, exprs. -/
import Derived.Test.YtnahgfdoiflacaaGreatDoorDJ
set_option linter.unusedSimpArgs false
set_option linter.unusedVariables false
namespace Go.Proofs.YtnahgfdoiflacaaGreatDoor
open Go.RowKit Go.Lib Go.Shelf

def restX (x : St) : Bool := (decide (0 < x.nm.size) == usesN x.kd) && ((x.kd == 6 || decide (x.ns.length + x.ars.length = 0)) && ((usesE x.kd || noneE x.e) && ((x.kd == 2 || noneE x.a) && ((x.kd == 5 || (decide (x.lo = 0) && decide (x.hi = 0))) && ((x.kd == 3 || (x.kd == 4 || (x.kd == 5 || decide (x.bd.length = 0)))) && (x.kd == 3 || decide (x.el.length = 0)))))))
theorem nat_eq0 (n : Nat) : ((n : Int) == 0) = decide (n = 0) := by
  by_cases h : n = 0
  · subst h; rfl
  · rw [decide_eq_false h]
    simp
    omega
theorem pos_empty (s : ByteArray) : decide (0 < s.size) = !s.toList.isEmpty := by
  rw [empty_iff]
  by_cases h : s.size = 0
  · simp [h]
  · rw [decide_eq_true (show 0 < s.size by omega), decide_eq_false h]; rfl

set_option maxRecDepth 100000 in
set_option maxHeartbeats 4000000 in
theorem names_any (w0 : World) (L : List ByteArray) (A : Option Addr) (h : CellsAt 1 cellsS w0 L A) (c : Nat) (W : World) (hW : Below w0.heap.size w0 W) (hn : L.length ≤ 1000000) (hs : ∀ s ∈ L, s.size ≤ 2000000) :
    Calls Tryz.prog 124 #[.slice A L.length c] W (BoolPost (L.all nameB) W) := by
  have hs' := Lib.hid h
  have hW' := Lib.hid hW
  have hz := Lib.hid hs
  obtain ⟨n, hnn⟩ : ∃ n, L.length = n := ⟨_, rfl⟩
  rw [hnn] at hn ⊢
  have hL' := Lib.hid hnn
  clear hW hnn h hs
  go_enter Tryz.func124, Tryz.ntmps124
  go_wp2_with fail
  go_loopg [3] n (fun g s3 wr => ∃ k : Nat, k + g = n ∧ s3 = .int .i64 k ∧ (∀ (i : Nat) (x : ByteArray), i < k → L[i]? = some x → nameB x = true) ∧ Below W.heap.size W wr)
  case atStart => exact ⟨0, by omega, rfl, fun i x h => absurd h (by omega), Below.refl _ _⟩
  case round =>
    obtain ⟨k, hkg, rfl, hall, hbr⟩ := hrel
    have hall' := Lib.hid hall
    have hbr' := Lib.hid hbr
    clear hall hbr
    cases gk with
    | zero =>
      have e0 : ¬ ((k : Int) < (n : Int)) := by omega
      have hs := Lib.hid (show L.all nameB = true by
        rw [List.all_eq_true]
        intro x hx
        obtain ⟨i, hi⟩ := List.getElem?_of_mem hx
        exact hall'.out i x (by have := (List.getElem?_eq_some_iff.1 hi).1; have := hL'.out; omega) hi)
      go_wp2
      go_ret
      exact ⟨by rw [hs.out]; rfl, hbr'.out⟩
    | succ g2 =>
      have e0 : (k : Int) < (n : Int) := by omega
      have hbw := Lib.hid (hW'.out.trans (hbr'.out.mono hW'.out.size))
      obtain ⟨blk, off, x, rfl, hx, hcell⟩ := (hs'.out).at_ (i := k) (by rw [hL'.out]; omega)
      have v0 : w0.cell? ⟨blk, off + k, none⟩ = some (.string x) := by have := hcell 0 (by omega); rw [Nat.mul_one] at this; exact this
      have v0 := (hbw.out.cell (p := ⟨blk, off + k, none⟩) (cell_some_lt v0)).trans v0
      have hx' := Lib.hid hx
      have hk2 := fun W' : World => refName_any x W' (hz.out x (List.mem_of_getElem? hx))
      obtain ⟨t, ht⟩ : ∃ t, nameB x = t := ⟨_, rfl⟩
      rw [ht] at hk2
      have hk2 := Lib.hid hk2
      have ht' := Lib.hid ht
      clear hcell hx ht
      go_wp2_with fail
      refine (hk2.out _).mono ?_
      rintro e w1 ⟨rfl, hb1⟩
      have hb1' := Lib.hid (Below.next hbr'.out hb1)
      clear hb1
      cases t
      · have hs := Lib.hid (show L.all nameB = false by
          rw [List.all_eq_false]
          exact ⟨x, List.mem_of_getElem? hx'.out, by rw [ht'.out]; simp⟩)
        go_wp2
        go_ret
        exact ⟨by rw [hs.out]; rfl, hb1'.out⟩
      · go_wp2
        go_roundg g2
        case measure => omega
        case rel =>
          refine ⟨k + 1, by omega, by go_num, fun i y hi hv => ?_, hb1'.out⟩
          rcases Nat.lt_or_ge i k with h | h
          · exact hall'.out i y h hv
          · obtain rfl : i = k := by omega
            rw [hx'.out] at hv
            cases hv
            exact ht'.out

set_option maxRecDepth 100000 in
set_option maxHeartbeats 16000000 in
theorem rest1_any (w0 : World) (x : St) (r : StC) (hx : SNow w0 x r) (hk : x.kd = 1) (hcx : cntS x ≤ 30000) (W : World) : Calls Tryz.prog 173 #[vlT r, .bool true, .bool false, .bool true, .bool false, .bool false, .bool false, .bool false] W (BoolPost (restX x) W) := by
  have hcx0 := cntS_bd x
  have l1 := len_cntN x.ns
  have l3 := len_cnt x.ars
  have hkr : r.kd = 1 := hx.kd.trans hk
  obtain ⟨kd, nm, ⟨nA, nn, nc⟩, ⟨eo, eu, en, ⟨eA, ek, ec⟩⟩, ⟨ao, au, an, ⟨aA, ak, ac⟩⟩, ⟨gA, gn, gc⟩, lo, hi, ⟨bA, bn, bc⟩, ⟨lA, ln, lc⟩⟩ := r
  obtain ⟨kx, mx, nx, nxA, ⟨ex1, ex2, ex3, ex4, exA, exu⟩, ⟨ax1, ax2, ax3, ax4, axA, axu⟩, gx, gxA, lx, hx', _, _, bx, elx⟩ := hx
  dsimp only at kx mx nx nxA ex1 ex2 ex3 ex4 exA ax1 ax2 ax3 ax4 axA gx gxA lx hx' bx elx hkr
  have s1 : x.nm = nm := mx.symm
  have s2 : x.lo = lo := lx.symm
  have s3 : x.hi = hi := hx'.symm
  have hrest : restX x = ((!nm.toList.isEmpty) && (decide (nn + gn = 0) && (true && (noneE x.a && ((((lo : Int) == 0) && ((hi : Int) == 0)) && (((bn : Int) == 0) && ((ln : Int) == 0))))))) := by
    unfold restX usesN usesE
    simp only [hk, s1, s2, s3, pos_empty, nat_eq0, nx, gx, bx, elx]
    cases nm.toList.isEmpty <;> rfl
  rw [hrest]
  have hne : ∀ (W' : World), Calls Tryz.prog 167 #[.agg #[.int .i64 eo, .int .u64 eu, .string en, .slice eA ek ec]] W' (BoolPost (noneE x.e) W') := fun W' => by
    rw [ex1, ex2, ex3, ex4]
    exact refNone_any x.e eA ec W' (by have := len_cnt x.e.ars; have : cntL x.e.ars ≤ cntE x.e := (by cases x.e; rw [cntE]; simp only [Ex.ars]; omega); omega)
  have hna : ∀ (W' : World), Calls Tryz.prog 167 #[.agg #[.int .i64 ao, .int .u64 au, .string an, .slice aA ak ac]] W' (BoolPost (noneE x.a) W') := fun W' => by
    rw [ax1, ax2, ax3, ax4]
    exact refNone_any x.a aA ac W' (by have := len_cnt x.a.ars; have : cntL x.a.ars ≤ cntE x.a := (by cases x.a; rw [cntE]; simp only [Ex.ars]; omega); omega)
  generalize noneE x.e = te at hne ⊢
  generalize noneE x.a = ta at hna ⊢
  have hne := Lib.hid hne
  have hna := Lib.hid hna
  have hnb : nn ≤ 30000 := by omega
  have hgb : gn ≤ 30000 := by omega
  subst hkr
  clear hrest hcx0 l1 l3 hcx hk s1 s2 s3 kx mx nx nxA ex1 ex2 ex3 ex4 exA exu ax1 ax2 ax3 ax4 axA axu gx gxA lx hx' bx elx
  unfold vlT
  dsimp only
  obtain ⟨W1, hW1⟩ : ∃ W1, W.alloc (.cells #[.int .i64 1, .string nm, .slice nA nn nc, .int .i64 eo, .int .u64 eu, .string en, .slice eA ek ec, .int .i64 ao, .int .u64 au, .string an, .slice aA ak ac, .slice gA gn gc, .int .u64 lo, .int .u64 hi, .slice bA bn bc, .slice lA ln lc] 50) = W1 := ⟨_, rfl⟩
  have hb1 : Below W.heap.size W W1 := by rw [← hW1]; exact (Below.refl _ W).alloc (Nat.le_refl _) _
  have hX : W1.heap[W.heap.size]? = some (.cells #[.int .i64 1, .string nm, .slice nA nn nc, .int .i64 eo, .int .u64 eu, .string en, .slice eA ek ec, .int .i64 ao, .int .u64 au, .string an, .slice aA ak ac, .slice gA gn gc, .int .u64 lo, .int .u64 hi, .slice bA bn bc, .slice lA ln lc] 50 (0, 0)) := by rw [← hW1]; exact heap_alloc_new _ _
  obtain ⟨p0, p1, p2, p3, p4, p5, p6, p7, p8, p9, p10, p11, p12, p13, p14, p15⟩ := box16 hX
  have hbw := Lib.hid (Below.refl W1.heap.size W1)
  have hX := Lib.hid hX
  have hb1 := Lib.hid hb1
  have hW1' := Lib.hid hW1
  clear hW1
  obtain ⟨b0, e0⟩ : ∃ b, nm.toList.isEmpty = b := ⟨_, rfl⟩
  obtain ⟨bL, eL⟩ : ∃ b, decide (nn + gn = 0) = b := ⟨_, rfl⟩
  obtain ⟨b5, e5⟩ : ∃ b, ((lo : Int) == 0) = b := ⟨_, rfl⟩
  obtain ⟨b6, e6⟩ : ∃ b, ((hi : Int) == 0) = b := ⟨_, rfl⟩
  obtain ⟨b7, e7⟩ : ∃ b, ((bn : Int) == 0) = b := ⟨_, rfl⟩
  obtain ⟨b8, e8⟩ : ∃ b, ((ln : Int) == 0) = b := ⟨_, rfl⟩
  have e5n : ((lo : Int) != 0) = !b5 := by rw [bne, e5]
  have e6n : ((hi : Int) != 0) = !b6 := by rw [bne, e6]
  have eLn : decide ((0 : Int) < (nn : Int) + (gn : Int)) = !bL := by
    rw [← eL]
    by_cases h : nn + gn = 0
    · rw [decide_eq_true h, decide_eq_false (by omega)]; rfl
    · rw [decide_eq_false h, decide_eq_true (by omega)]; rfl
  rw [eL]
  rw [e0, e5, e6, e7, e8]
  clear eL
  cases b0
  rotate_left
  · as_aux_lemma =>
      go_enter Tryz.func173, Tryz.ntmps173
      go_wp2_with fail
      rw [hW1'.out]
      go_wp2
      go_ret
      exact ⟨rfl, Below.next hb1.out hbw.out⟩
  cases bL
  · as_aux_lemma =>
      go_enter Tryz.func173, Tryz.ntmps173
      go_wp2_with fail
      rw [hW1'.out]
      go_wp2
      go_ret
      exact ⟨rfl, Below.next hb1.out hbw.out⟩
  · skip
    go_enter Tryz.func173, Tryz.ntmps173
    go_wp2_with fail
    rw [hW1'.out]
    go_wp2_with fail
    refine (hna.out _).mono ?_
    rintro e w5 ⟨rfl, hbn⟩
    have hbw := Lib.hid (Below.next hbw.out hbn)
    clear hbn p0 p1 p2 p3 p4 p5 p6 p7 p8 p9 p10 p11 p12 p13 p14 p15
    obtain ⟨p0, p1, p2, p3, p4, p5, p6, p7, p8, p9, p10, p11, p12, p13, p14, p15⟩ := box16 ((hbw.out.block _ (blk_lt hX.out)).trans hX.out)
    cases ta
    · as_aux_lemma =>
        go_wp2
        go_ret
        exact ⟨rfl, Below.next hb1.out hbw.out⟩
    · skip
      cases b5
      · as_aux_lemma =>
          go_wp2
          go_ret
          exact ⟨rfl, Below.next hb1.out hbw.out⟩
      · skip
        cases b6
        · as_aux_lemma =>
            go_wp2
            go_ret
            exact ⟨rfl, Below.next hb1.out hbw.out⟩
        · skip
          cases b7
          · as_aux_lemma =>
              go_wp2
              go_ret
              exact ⟨rfl, Below.next hb1.out hbw.out⟩
          · skip
            cases b8
            · as_aux_lemma =>
                go_wp2
                go_ret
                exact ⟨rfl, Below.next hb1.out hbw.out⟩
            · as_aux_lemma =>
                go_wp2
                go_ret
                exact ⟨rfl, Below.next hb1.out hbw.out⟩

set_option maxRecDepth 100000 in
set_option maxHeartbeats 16000000 in
theorem rest2_any (w0 : World) (x : St) (r : StC) (hx : SNow w0 x r) (hk : x.kd = 2) (hcx : cntS x ≤ 30000) (W : World) : Calls Tryz.prog 173 #[vlT r, .bool true, .bool false, .bool true, .bool true, .bool false, .bool false, .bool false] W (BoolPost (restX x) W) := by
  have hcx0 := cntS_bd x
  have l1 := len_cntN x.ns
  have l3 := len_cnt x.ars
  have hkr : r.kd = 2 := hx.kd.trans hk
  obtain ⟨kd, nm, ⟨nA, nn, nc⟩, ⟨eo, eu, en, ⟨eA, ek, ec⟩⟩, ⟨ao, au, an, ⟨aA, ak, ac⟩⟩, ⟨gA, gn, gc⟩, lo, hi, ⟨bA, bn, bc⟩, ⟨lA, ln, lc⟩⟩ := r
  obtain ⟨kx, mx, nx, nxA, ⟨ex1, ex2, ex3, ex4, exA, exu⟩, ⟨ax1, ax2, ax3, ax4, axA, axu⟩, gx, gxA, lx, hx', _, _, bx, elx⟩ := hx
  dsimp only at kx mx nx nxA ex1 ex2 ex3 ex4 exA ax1 ax2 ax3 ax4 axA gx gxA lx hx' bx elx hkr
  have s1 : x.nm = nm := mx.symm
  have s2 : x.lo = lo := lx.symm
  have s3 : x.hi = hi := hx'.symm
  have hrest : restX x = ((!nm.toList.isEmpty) && (decide (nn + gn = 0) && (true && (true && ((((lo : Int) == 0) && ((hi : Int) == 0)) && (((bn : Int) == 0) && ((ln : Int) == 0))))))) := by
    unfold restX usesN usesE
    simp only [hk, s1, s2, s3, pos_empty, nat_eq0, nx, gx, bx, elx]
    cases nm.toList.isEmpty <;> rfl
  rw [hrest]
  have hne : ∀ (W' : World), Calls Tryz.prog 167 #[.agg #[.int .i64 eo, .int .u64 eu, .string en, .slice eA ek ec]] W' (BoolPost (noneE x.e) W') := fun W' => by
    rw [ex1, ex2, ex3, ex4]
    exact refNone_any x.e eA ec W' (by have := len_cnt x.e.ars; have : cntL x.e.ars ≤ cntE x.e := (by cases x.e; rw [cntE]; simp only [Ex.ars]; omega); omega)
  have hna : ∀ (W' : World), Calls Tryz.prog 167 #[.agg #[.int .i64 ao, .int .u64 au, .string an, .slice aA ak ac]] W' (BoolPost (noneE x.a) W') := fun W' => by
    rw [ax1, ax2, ax3, ax4]
    exact refNone_any x.a aA ac W' (by have := len_cnt x.a.ars; have : cntL x.a.ars ≤ cntE x.a := (by cases x.a; rw [cntE]; simp only [Ex.ars]; omega); omega)
  generalize noneE x.e = te at hne ⊢
  generalize noneE x.a = ta at hna ⊢
  have hne := Lib.hid hne
  have hna := Lib.hid hna
  have hnb : nn ≤ 30000 := by omega
  have hgb : gn ≤ 30000 := by omega
  subst hkr
  clear hrest hcx0 l1 l3 hcx hk s1 s2 s3 kx mx nx nxA ex1 ex2 ex3 ex4 exA exu ax1 ax2 ax3 ax4 axA axu gx gxA lx hx' bx elx
  unfold vlT
  dsimp only
  obtain ⟨W1, hW1⟩ : ∃ W1, W.alloc (.cells #[.int .i64 2, .string nm, .slice nA nn nc, .int .i64 eo, .int .u64 eu, .string en, .slice eA ek ec, .int .i64 ao, .int .u64 au, .string an, .slice aA ak ac, .slice gA gn gc, .int .u64 lo, .int .u64 hi, .slice bA bn bc, .slice lA ln lc] 50) = W1 := ⟨_, rfl⟩
  have hb1 : Below W.heap.size W W1 := by rw [← hW1]; exact (Below.refl _ W).alloc (Nat.le_refl _) _
  have hX : W1.heap[W.heap.size]? = some (.cells #[.int .i64 2, .string nm, .slice nA nn nc, .int .i64 eo, .int .u64 eu, .string en, .slice eA ek ec, .int .i64 ao, .int .u64 au, .string an, .slice aA ak ac, .slice gA gn gc, .int .u64 lo, .int .u64 hi, .slice bA bn bc, .slice lA ln lc] 50 (0, 0)) := by rw [← hW1]; exact heap_alloc_new _ _
  obtain ⟨p0, p1, p2, p3, p4, p5, p6, p7, p8, p9, p10, p11, p12, p13, p14, p15⟩ := box16 hX
  have hbw := Lib.hid (Below.refl W1.heap.size W1)
  have hX := Lib.hid hX
  have hb1 := Lib.hid hb1
  have hW1' := Lib.hid hW1
  clear hW1
  obtain ⟨b0, e0⟩ : ∃ b, nm.toList.isEmpty = b := ⟨_, rfl⟩
  obtain ⟨bL, eL⟩ : ∃ b, decide (nn + gn = 0) = b := ⟨_, rfl⟩
  obtain ⟨b5, e5⟩ : ∃ b, ((lo : Int) == 0) = b := ⟨_, rfl⟩
  obtain ⟨b6, e6⟩ : ∃ b, ((hi : Int) == 0) = b := ⟨_, rfl⟩
  obtain ⟨b7, e7⟩ : ∃ b, ((bn : Int) == 0) = b := ⟨_, rfl⟩
  obtain ⟨b8, e8⟩ : ∃ b, ((ln : Int) == 0) = b := ⟨_, rfl⟩
  have e5n : ((lo : Int) != 0) = !b5 := by rw [bne, e5]
  have e6n : ((hi : Int) != 0) = !b6 := by rw [bne, e6]
  have eLn : decide ((0 : Int) < (nn : Int) + (gn : Int)) = !bL := by
    rw [← eL]
    by_cases h : nn + gn = 0
    · rw [decide_eq_true h, decide_eq_false (by omega)]; rfl
    · rw [decide_eq_false h, decide_eq_true (by omega)]; rfl
  rw [eL]
  rw [e0, e5, e6, e7, e8]
  clear eL
  cases b0
  rotate_left
  · as_aux_lemma =>
      go_enter Tryz.func173, Tryz.ntmps173
      go_wp2_with fail
      rw [hW1'.out]
      go_wp2
      go_ret
      exact ⟨rfl, Below.next hb1.out hbw.out⟩
  cases bL
  · as_aux_lemma =>
      go_enter Tryz.func173, Tryz.ntmps173
      go_wp2_with fail
      rw [hW1'.out]
      go_wp2
      go_ret
      exact ⟨rfl, Below.next hb1.out hbw.out⟩
  · skip
    cases b5
    · as_aux_lemma =>
        go_enter Tryz.func173, Tryz.ntmps173
        go_wp2_with fail
        rw [hW1'.out]
        go_wp2
        go_ret
        exact ⟨rfl, Below.next hb1.out hbw.out⟩
    · skip
      cases b6
      · as_aux_lemma =>
          go_enter Tryz.func173, Tryz.ntmps173
          go_wp2_with fail
          rw [hW1'.out]
          go_wp2
          go_ret
          exact ⟨rfl, Below.next hb1.out hbw.out⟩
      · skip
        cases b7
        · as_aux_lemma =>
            go_enter Tryz.func173, Tryz.ntmps173
            go_wp2_with fail
            rw [hW1'.out]
            go_wp2
            go_ret
            exact ⟨rfl, Below.next hb1.out hbw.out⟩
        · skip
          cases b8
          · as_aux_lemma =>
              go_enter Tryz.func173, Tryz.ntmps173
              go_wp2_with fail
              rw [hW1'.out]
              go_wp2
              go_ret
              exact ⟨rfl, Below.next hb1.out hbw.out⟩
          · as_aux_lemma =>
              go_enter Tryz.func173, Tryz.ntmps173
              go_wp2_with fail
              rw [hW1'.out]
              go_wp2
              go_ret
              exact ⟨rfl, Below.next hb1.out hbw.out⟩

set_option maxRecDepth 100000 in
set_option maxHeartbeats 16000000 in
theorem rest3_any (w0 : World) (x : St) (r : StC) (hx : SNow w0 x r) (hk : x.kd = 3) (hcx : cntS x ≤ 30000) (W : World) : Calls Tryz.prog 173 #[vlT r, .bool false, .bool false, .bool true, .bool false, .bool false, .bool true, .bool true] W (BoolPost (restX x) W) := by
  have hcx0 := cntS_bd x
  have l1 := len_cntN x.ns
  have l3 := len_cnt x.ars
  have hkr : r.kd = 3 := hx.kd.trans hk
  obtain ⟨kd, nm, ⟨nA, nn, nc⟩, ⟨eo, eu, en, ⟨eA, ek, ec⟩⟩, ⟨ao, au, an, ⟨aA, ak, ac⟩⟩, ⟨gA, gn, gc⟩, lo, hi, ⟨bA, bn, bc⟩, ⟨lA, ln, lc⟩⟩ := r
  obtain ⟨kx, mx, nx, nxA, ⟨ex1, ex2, ex3, ex4, exA, exu⟩, ⟨ax1, ax2, ax3, ax4, axA, axu⟩, gx, gxA, lx, hx', _, _, bx, elx⟩ := hx
  dsimp only at kx mx nx nxA ex1 ex2 ex3 ex4 exA ax1 ax2 ax3 ax4 axA gx gxA lx hx' bx elx hkr
  have s1 : x.nm = nm := mx.symm
  have s2 : x.lo = lo := lx.symm
  have s3 : x.hi = hi := hx'.symm
  have hrest : restX x = ((nm.toList.isEmpty) && (decide (nn + gn = 0) && (true && (noneE x.a && ((((lo : Int) == 0) && ((hi : Int) == 0)) && (true && true)))))) := by
    unfold restX usesN usesE
    simp only [hk, s1, s2, s3, pos_empty, nat_eq0, nx, gx, bx, elx]
    cases nm.toList.isEmpty <;> rfl
  rw [hrest]
  have hne : ∀ (W' : World), Calls Tryz.prog 167 #[.agg #[.int .i64 eo, .int .u64 eu, .string en, .slice eA ek ec]] W' (BoolPost (noneE x.e) W') := fun W' => by
    rw [ex1, ex2, ex3, ex4]
    exact refNone_any x.e eA ec W' (by have := len_cnt x.e.ars; have : cntL x.e.ars ≤ cntE x.e := (by cases x.e; rw [cntE]; simp only [Ex.ars]; omega); omega)
  have hna : ∀ (W' : World), Calls Tryz.prog 167 #[.agg #[.int .i64 ao, .int .u64 au, .string an, .slice aA ak ac]] W' (BoolPost (noneE x.a) W') := fun W' => by
    rw [ax1, ax2, ax3, ax4]
    exact refNone_any x.a aA ac W' (by have := len_cnt x.a.ars; have : cntL x.a.ars ≤ cntE x.a := (by cases x.a; rw [cntE]; simp only [Ex.ars]; omega); omega)
  generalize noneE x.e = te at hne ⊢
  generalize noneE x.a = ta at hna ⊢
  have hne := Lib.hid hne
  have hna := Lib.hid hna
  have hnb : nn ≤ 30000 := by omega
  have hgb : gn ≤ 30000 := by omega
  subst hkr
  clear hrest hcx0 l1 l3 hcx hk s1 s2 s3 kx mx nx nxA ex1 ex2 ex3 ex4 exA exu ax1 ax2 ax3 ax4 axA axu gx gxA lx hx' bx elx
  unfold vlT
  dsimp only
  obtain ⟨W1, hW1⟩ : ∃ W1, W.alloc (.cells #[.int .i64 3, .string nm, .slice nA nn nc, .int .i64 eo, .int .u64 eu, .string en, .slice eA ek ec, .int .i64 ao, .int .u64 au, .string an, .slice aA ak ac, .slice gA gn gc, .int .u64 lo, .int .u64 hi, .slice bA bn bc, .slice lA ln lc] 50) = W1 := ⟨_, rfl⟩
  have hb1 : Below W.heap.size W W1 := by rw [← hW1]; exact (Below.refl _ W).alloc (Nat.le_refl _) _
  have hX : W1.heap[W.heap.size]? = some (.cells #[.int .i64 3, .string nm, .slice nA nn nc, .int .i64 eo, .int .u64 eu, .string en, .slice eA ek ec, .int .i64 ao, .int .u64 au, .string an, .slice aA ak ac, .slice gA gn gc, .int .u64 lo, .int .u64 hi, .slice bA bn bc, .slice lA ln lc] 50 (0, 0)) := by rw [← hW1]; exact heap_alloc_new _ _
  obtain ⟨p0, p1, p2, p3, p4, p5, p6, p7, p8, p9, p10, p11, p12, p13, p14, p15⟩ := box16 hX
  have hbw := Lib.hid (Below.refl W1.heap.size W1)
  have hX := Lib.hid hX
  have hb1 := Lib.hid hb1
  have hW1' := Lib.hid hW1
  clear hW1
  obtain ⟨b0, e0⟩ : ∃ b, nm.toList.isEmpty = b := ⟨_, rfl⟩
  obtain ⟨bL, eL⟩ : ∃ b, decide (nn + gn = 0) = b := ⟨_, rfl⟩
  obtain ⟨b5, e5⟩ : ∃ b, ((lo : Int) == 0) = b := ⟨_, rfl⟩
  obtain ⟨b6, e6⟩ : ∃ b, ((hi : Int) == 0) = b := ⟨_, rfl⟩
  obtain ⟨b7, e7⟩ : ∃ b, ((bn : Int) == 0) = b := ⟨_, rfl⟩
  obtain ⟨b8, e8⟩ : ∃ b, ((ln : Int) == 0) = b := ⟨_, rfl⟩
  have e5n : ((lo : Int) != 0) = !b5 := by rw [bne, e5]
  have e6n : ((hi : Int) != 0) = !b6 := by rw [bne, e6]
  have eLn : decide ((0 : Int) < (nn : Int) + (gn : Int)) = !bL := by
    rw [← eL]
    by_cases h : nn + gn = 0
    · rw [decide_eq_true h, decide_eq_false (by omega)]; rfl
    · rw [decide_eq_false h, decide_eq_true (by omega)]; rfl
  rw [eL]
  rw [e0, e5, e6]
  clear eL
  cases b0
  · as_aux_lemma =>
      go_enter Tryz.func173, Tryz.ntmps173
      go_wp2_with fail
      rw [hW1'.out]
      go_wp2
      go_ret
      exact ⟨rfl, Below.next hb1.out hbw.out⟩
  · skip
    cases bL
    · as_aux_lemma =>
        go_enter Tryz.func173, Tryz.ntmps173
        go_wp2_with fail
        rw [hW1'.out]
        go_wp2
        go_ret
        exact ⟨rfl, Below.next hb1.out hbw.out⟩
    · skip
      go_enter Tryz.func173, Tryz.ntmps173
      go_wp2_with fail
      rw [hW1'.out]
      go_wp2_with fail
      refine (hna.out _).mono ?_
      rintro e w5 ⟨rfl, hbn⟩
      have hbw := Lib.hid (Below.next hbw.out hbn)
      clear hbn p0 p1 p2 p3 p4 p5 p6 p7 p8 p9 p10 p11 p12 p13 p14 p15
      obtain ⟨p0, p1, p2, p3, p4, p5, p6, p7, p8, p9, p10, p11, p12, p13, p14, p15⟩ := box16 ((hbw.out.block _ (blk_lt hX.out)).trans hX.out)
      cases ta
      · as_aux_lemma =>
          go_wp2
          go_ret
          exact ⟨rfl, Below.next hb1.out hbw.out⟩
      · skip
        cases b5
        · as_aux_lemma =>
            go_wp2
            go_ret
            exact ⟨rfl, Below.next hb1.out hbw.out⟩
        · skip
          cases b6
          · as_aux_lemma =>
              go_wp2
              go_ret
              exact ⟨rfl, Below.next hb1.out hbw.out⟩
          · as_aux_lemma =>
              go_wp2
              go_ret
              exact ⟨rfl, Below.next hb1.out hbw.out⟩

set_option maxRecDepth 100000 in
set_option maxHeartbeats 16000000 in
theorem rest4_any (w0 : World) (x : St) (r : StC) (hx : SNow w0 x r) (hk : x.kd = 4) (hcx : cntS x ≤ 30000) (W : World) : Calls Tryz.prog 173 #[vlT r, .bool false, .bool false, .bool true, .bool false, .bool false, .bool true, .bool false] W (BoolPost (restX x) W) := by
  have hcx0 := cntS_bd x
  have l1 := len_cntN x.ns
  have l3 := len_cnt x.ars
  have hkr : r.kd = 4 := hx.kd.trans hk
  obtain ⟨kd, nm, ⟨nA, nn, nc⟩, ⟨eo, eu, en, ⟨eA, ek, ec⟩⟩, ⟨ao, au, an, ⟨aA, ak, ac⟩⟩, ⟨gA, gn, gc⟩, lo, hi, ⟨bA, bn, bc⟩, ⟨lA, ln, lc⟩⟩ := r
  obtain ⟨kx, mx, nx, nxA, ⟨ex1, ex2, ex3, ex4, exA, exu⟩, ⟨ax1, ax2, ax3, ax4, axA, axu⟩, gx, gxA, lx, hx', _, _, bx, elx⟩ := hx
  dsimp only at kx mx nx nxA ex1 ex2 ex3 ex4 exA ax1 ax2 ax3 ax4 axA gx gxA lx hx' bx elx hkr
  have s1 : x.nm = nm := mx.symm
  have s2 : x.lo = lo := lx.symm
  have s3 : x.hi = hi := hx'.symm
  have hrest : restX x = ((nm.toList.isEmpty) && (decide (nn + gn = 0) && (true && (noneE x.a && ((((lo : Int) == 0) && ((hi : Int) == 0)) && (true && ((ln : Int) == 0))))))) := by
    unfold restX usesN usesE
    simp only [hk, s1, s2, s3, pos_empty, nat_eq0, nx, gx, bx, elx]
    cases nm.toList.isEmpty <;> rfl
  rw [hrest]
  have hne : ∀ (W' : World), Calls Tryz.prog 167 #[.agg #[.int .i64 eo, .int .u64 eu, .string en, .slice eA ek ec]] W' (BoolPost (noneE x.e) W') := fun W' => by
    rw [ex1, ex2, ex3, ex4]
    exact refNone_any x.e eA ec W' (by have := len_cnt x.e.ars; have : cntL x.e.ars ≤ cntE x.e := (by cases x.e; rw [cntE]; simp only [Ex.ars]; omega); omega)
  have hna : ∀ (W' : World), Calls Tryz.prog 167 #[.agg #[.int .i64 ao, .int .u64 au, .string an, .slice aA ak ac]] W' (BoolPost (noneE x.a) W') := fun W' => by
    rw [ax1, ax2, ax3, ax4]
    exact refNone_any x.a aA ac W' (by have := len_cnt x.a.ars; have : cntL x.a.ars ≤ cntE x.a := (by cases x.a; rw [cntE]; simp only [Ex.ars]; omega); omega)
  generalize noneE x.e = te at hne ⊢
  generalize noneE x.a = ta at hna ⊢
  have hne := Lib.hid hne
  have hna := Lib.hid hna
  have hnb : nn ≤ 30000 := by omega
  have hgb : gn ≤ 30000 := by omega
  subst hkr
  clear hrest hcx0 l1 l3 hcx hk s1 s2 s3 kx mx nx nxA ex1 ex2 ex3 ex4 exA exu ax1 ax2 ax3 ax4 axA axu gx gxA lx hx' bx elx
  unfold vlT
  dsimp only
  obtain ⟨W1, hW1⟩ : ∃ W1, W.alloc (.cells #[.int .i64 4, .string nm, .slice nA nn nc, .int .i64 eo, .int .u64 eu, .string en, .slice eA ek ec, .int .i64 ao, .int .u64 au, .string an, .slice aA ak ac, .slice gA gn gc, .int .u64 lo, .int .u64 hi, .slice bA bn bc, .slice lA ln lc] 50) = W1 := ⟨_, rfl⟩
  have hb1 : Below W.heap.size W W1 := by rw [← hW1]; exact (Below.refl _ W).alloc (Nat.le_refl _) _
  have hX : W1.heap[W.heap.size]? = some (.cells #[.int .i64 4, .string nm, .slice nA nn nc, .int .i64 eo, .int .u64 eu, .string en, .slice eA ek ec, .int .i64 ao, .int .u64 au, .string an, .slice aA ak ac, .slice gA gn gc, .int .u64 lo, .int .u64 hi, .slice bA bn bc, .slice lA ln lc] 50 (0, 0)) := by rw [← hW1]; exact heap_alloc_new _ _
  obtain ⟨p0, p1, p2, p3, p4, p5, p6, p7, p8, p9, p10, p11, p12, p13, p14, p15⟩ := box16 hX
  have hbw := Lib.hid (Below.refl W1.heap.size W1)
  have hX := Lib.hid hX
  have hb1 := Lib.hid hb1
  have hW1' := Lib.hid hW1
  clear hW1
  obtain ⟨b0, e0⟩ : ∃ b, nm.toList.isEmpty = b := ⟨_, rfl⟩
  obtain ⟨bL, eL⟩ : ∃ b, decide (nn + gn = 0) = b := ⟨_, rfl⟩
  obtain ⟨b5, e5⟩ : ∃ b, ((lo : Int) == 0) = b := ⟨_, rfl⟩
  obtain ⟨b6, e6⟩ : ∃ b, ((hi : Int) == 0) = b := ⟨_, rfl⟩
  obtain ⟨b7, e7⟩ : ∃ b, ((bn : Int) == 0) = b := ⟨_, rfl⟩
  obtain ⟨b8, e8⟩ : ∃ b, ((ln : Int) == 0) = b := ⟨_, rfl⟩
  have e5n : ((lo : Int) != 0) = !b5 := by rw [bne, e5]
  have e6n : ((hi : Int) != 0) = !b6 := by rw [bne, e6]
  have eLn : decide ((0 : Int) < (nn : Int) + (gn : Int)) = !bL := by
    rw [← eL]
    by_cases h : nn + gn = 0
    · rw [decide_eq_true h, decide_eq_false (by omega)]; rfl
    · rw [decide_eq_false h, decide_eq_true (by omega)]; rfl
  rw [eL]
  rw [e0, e5, e6, e8]
  clear eL
  cases b0
  · as_aux_lemma =>
      go_enter Tryz.func173, Tryz.ntmps173
      go_wp2_with fail
      rw [hW1'.out]
      go_wp2
      go_ret
      exact ⟨rfl, Below.next hb1.out hbw.out⟩
  · skip
    cases bL
    · as_aux_lemma =>
        go_enter Tryz.func173, Tryz.ntmps173
        go_wp2_with fail
        rw [hW1'.out]
        go_wp2
        go_ret
        exact ⟨rfl, Below.next hb1.out hbw.out⟩
    · skip
      go_enter Tryz.func173, Tryz.ntmps173
      go_wp2_with fail
      rw [hW1'.out]
      go_wp2_with fail
      refine (hna.out _).mono ?_
      rintro e w5 ⟨rfl, hbn⟩
      have hbw := Lib.hid (Below.next hbw.out hbn)
      clear hbn p0 p1 p2 p3 p4 p5 p6 p7 p8 p9 p10 p11 p12 p13 p14 p15
      obtain ⟨p0, p1, p2, p3, p4, p5, p6, p7, p8, p9, p10, p11, p12, p13, p14, p15⟩ := box16 ((hbw.out.block _ (blk_lt hX.out)).trans hX.out)
      cases ta
      · as_aux_lemma =>
          go_wp2
          go_ret
          exact ⟨rfl, Below.next hb1.out hbw.out⟩
      · skip
        cases b5
        · as_aux_lemma =>
            go_wp2
            go_ret
            exact ⟨rfl, Below.next hb1.out hbw.out⟩
        · skip
          cases b6
          · as_aux_lemma =>
              go_wp2
              go_ret
              exact ⟨rfl, Below.next hb1.out hbw.out⟩
          · skip
            cases b8
            · as_aux_lemma =>
                go_wp2
                go_ret
                exact ⟨rfl, Below.next hb1.out hbw.out⟩
            · as_aux_lemma =>
                go_wp2
                go_ret
                exact ⟨rfl, Below.next hb1.out hbw.out⟩

set_option maxRecDepth 100000 in
set_option maxHeartbeats 16000000 in
theorem rest5_any (w0 : World) (x : St) (r : StC) (hx : SNow w0 x r) (hk : x.kd = 5) (hcx : cntS x ≤ 30000) (W : World) : Calls Tryz.prog 173 #[vlT r, .bool true, .bool false, .bool false, .bool false, .bool true, .bool true, .bool false] W (BoolPost (restX x) W) := by
  have hcx0 := cntS_bd x
  have l1 := len_cntN x.ns
  have l3 := len_cnt x.ars
  have hkr : r.kd = 5 := hx.kd.trans hk
  obtain ⟨kd, nm, ⟨nA, nn, nc⟩, ⟨eo, eu, en, ⟨eA, ek, ec⟩⟩, ⟨ao, au, an, ⟨aA, ak, ac⟩⟩, ⟨gA, gn, gc⟩, lo, hi, ⟨bA, bn, bc⟩, ⟨lA, ln, lc⟩⟩ := r
  obtain ⟨kx, mx, nx, nxA, ⟨ex1, ex2, ex3, ex4, exA, exu⟩, ⟨ax1, ax2, ax3, ax4, axA, axu⟩, gx, gxA, lx, hx', _, _, bx, elx⟩ := hx
  dsimp only at kx mx nx nxA ex1 ex2 ex3 ex4 exA ax1 ax2 ax3 ax4 axA gx gxA lx hx' bx elx hkr
  have s1 : x.nm = nm := mx.symm
  have s2 : x.lo = lo := lx.symm
  have s3 : x.hi = hi := hx'.symm
  have hrest : restX x = ((!nm.toList.isEmpty) && (decide (nn + gn = 0) && (noneE x.e && (noneE x.a && (true && (true && ((ln : Int) == 0))))))) := by
    unfold restX usesN usesE
    simp only [hk, s1, s2, s3, pos_empty, nat_eq0, nx, gx, bx, elx]
    cases nm.toList.isEmpty <;> rfl
  rw [hrest]
  have hne : ∀ (W' : World), Calls Tryz.prog 167 #[.agg #[.int .i64 eo, .int .u64 eu, .string en, .slice eA ek ec]] W' (BoolPost (noneE x.e) W') := fun W' => by
    rw [ex1, ex2, ex3, ex4]
    exact refNone_any x.e eA ec W' (by have := len_cnt x.e.ars; have : cntL x.e.ars ≤ cntE x.e := (by cases x.e; rw [cntE]; simp only [Ex.ars]; omega); omega)
  have hna : ∀ (W' : World), Calls Tryz.prog 167 #[.agg #[.int .i64 ao, .int .u64 au, .string an, .slice aA ak ac]] W' (BoolPost (noneE x.a) W') := fun W' => by
    rw [ax1, ax2, ax3, ax4]
    exact refNone_any x.a aA ac W' (by have := len_cnt x.a.ars; have : cntL x.a.ars ≤ cntE x.a := (by cases x.a; rw [cntE]; simp only [Ex.ars]; omega); omega)
  generalize noneE x.e = te at hne ⊢
  generalize noneE x.a = ta at hna ⊢
  have hne := Lib.hid hne
  have hna := Lib.hid hna
  have hnb : nn ≤ 30000 := by omega
  have hgb : gn ≤ 30000 := by omega
  subst hkr
  clear hrest hcx0 l1 l3 hcx hk s1 s2 s3 kx mx nx nxA ex1 ex2 ex3 ex4 exA exu ax1 ax2 ax3 ax4 axA axu gx gxA lx hx' bx elx
  unfold vlT
  dsimp only
  obtain ⟨W1, hW1⟩ : ∃ W1, W.alloc (.cells #[.int .i64 5, .string nm, .slice nA nn nc, .int .i64 eo, .int .u64 eu, .string en, .slice eA ek ec, .int .i64 ao, .int .u64 au, .string an, .slice aA ak ac, .slice gA gn gc, .int .u64 lo, .int .u64 hi, .slice bA bn bc, .slice lA ln lc] 50) = W1 := ⟨_, rfl⟩
  have hb1 : Below W.heap.size W W1 := by rw [← hW1]; exact (Below.refl _ W).alloc (Nat.le_refl _) _
  have hX : W1.heap[W.heap.size]? = some (.cells #[.int .i64 5, .string nm, .slice nA nn nc, .int .i64 eo, .int .u64 eu, .string en, .slice eA ek ec, .int .i64 ao, .int .u64 au, .string an, .slice aA ak ac, .slice gA gn gc, .int .u64 lo, .int .u64 hi, .slice bA bn bc, .slice lA ln lc] 50 (0, 0)) := by rw [← hW1]; exact heap_alloc_new _ _
  obtain ⟨p0, p1, p2, p3, p4, p5, p6, p7, p8, p9, p10, p11, p12, p13, p14, p15⟩ := box16 hX
  have hbw := Lib.hid (Below.refl W1.heap.size W1)
  have hX := Lib.hid hX
  have hb1 := Lib.hid hb1
  have hW1' := Lib.hid hW1
  clear hW1
  obtain ⟨b0, e0⟩ : ∃ b, nm.toList.isEmpty = b := ⟨_, rfl⟩
  obtain ⟨bL, eL⟩ : ∃ b, decide (nn + gn = 0) = b := ⟨_, rfl⟩
  obtain ⟨b5, e5⟩ : ∃ b, ((lo : Int) == 0) = b := ⟨_, rfl⟩
  obtain ⟨b6, e6⟩ : ∃ b, ((hi : Int) == 0) = b := ⟨_, rfl⟩
  obtain ⟨b7, e7⟩ : ∃ b, ((bn : Int) == 0) = b := ⟨_, rfl⟩
  obtain ⟨b8, e8⟩ : ∃ b, ((ln : Int) == 0) = b := ⟨_, rfl⟩
  have e5n : ((lo : Int) != 0) = !b5 := by rw [bne, e5]
  have e6n : ((hi : Int) != 0) = !b6 := by rw [bne, e6]
  have eLn : decide ((0 : Int) < (nn : Int) + (gn : Int)) = !bL := by
    rw [← eL]
    by_cases h : nn + gn = 0
    · rw [decide_eq_true h, decide_eq_false (by omega)]; rfl
    · rw [decide_eq_false h, decide_eq_true (by omega)]; rfl
  rw [eL]
  rw [e0, e8]
  clear eL
  cases b0
  rotate_left
  · as_aux_lemma =>
      go_enter Tryz.func173, Tryz.ntmps173
      go_wp2_with fail
      rw [hW1'.out]
      go_wp2
      go_ret
      exact ⟨rfl, Below.next hb1.out hbw.out⟩
  cases bL
  · as_aux_lemma =>
      go_enter Tryz.func173, Tryz.ntmps173
      go_wp2_with fail
      rw [hW1'.out]
      go_wp2
      go_ret
      exact ⟨rfl, Below.next hb1.out hbw.out⟩
  · skip
    go_enter Tryz.func173, Tryz.ntmps173
    go_wp2_with fail
    rw [hW1'.out]
    go_wp2_with fail
    refine (hne.out _).mono ?_
    rintro e w5 ⟨rfl, hbn⟩
    have hbw := Lib.hid (Below.next hbw.out hbn)
    clear hbn p0 p1 p2 p3 p4 p5 p6 p7 p8 p9 p10 p11 p12 p13 p14 p15
    obtain ⟨p0, p1, p2, p3, p4, p5, p6, p7, p8, p9, p10, p11, p12, p13, p14, p15⟩ := box16 ((hbw.out.block _ (blk_lt hX.out)).trans hX.out)
    cases te
    · as_aux_lemma =>
        go_wp2
        go_ret
        exact ⟨rfl, Below.next hb1.out hbw.out⟩
    · skip
      go_wp2_with fail
      refine (hna.out _).mono ?_
      rintro e w6 ⟨rfl, hbn⟩
      have hbw := Lib.hid (Below.next hbw.out hbn)
      clear hbn p0 p1 p2 p3 p4 p5 p6 p7 p8 p9 p10 p11 p12 p13 p14 p15
      obtain ⟨p0, p1, p2, p3, p4, p5, p6, p7, p8, p9, p10, p11, p12, p13, p14, p15⟩ := box16 ((hbw.out.block _ (blk_lt hX.out)).trans hX.out)
      cases ta
      · as_aux_lemma =>
          go_wp2
          go_ret
          exact ⟨rfl, Below.next hb1.out hbw.out⟩
      · skip
        cases b8
        · as_aux_lemma =>
            go_wp2
            go_ret
            exact ⟨rfl, Below.next hb1.out hbw.out⟩
        · as_aux_lemma =>
            go_wp2
            go_ret
            exact ⟨rfl, Below.next hb1.out hbw.out⟩

set_option maxRecDepth 100000 in
set_option maxHeartbeats 16000000 in
theorem rest6_any (w0 : World) (x : St) (r : StC) (hx : SNow w0 x r) (hk : x.kd = 6) (hcx : cntS x ≤ 30000) (W : World) : Calls Tryz.prog 173 #[vlT r, .bool true, .bool true, .bool false, .bool false, .bool false, .bool false, .bool false] W (BoolPost (restX x) W) := by
  have hcx0 := cntS_bd x
  have l1 := len_cntN x.ns
  have l3 := len_cnt x.ars
  have hkr : r.kd = 6 := hx.kd.trans hk
  obtain ⟨kd, nm, ⟨nA, nn, nc⟩, ⟨eo, eu, en, ⟨eA, ek, ec⟩⟩, ⟨ao, au, an, ⟨aA, ak, ac⟩⟩, ⟨gA, gn, gc⟩, lo, hi, ⟨bA, bn, bc⟩, ⟨lA, ln, lc⟩⟩ := r
  obtain ⟨kx, mx, nx, nxA, ⟨ex1, ex2, ex3, ex4, exA, exu⟩, ⟨ax1, ax2, ax3, ax4, axA, axu⟩, gx, gxA, lx, hx', _, _, bx, elx⟩ := hx
  dsimp only at kx mx nx nxA ex1 ex2 ex3 ex4 exA ax1 ax2 ax3 ax4 axA gx gxA lx hx' bx elx hkr
  have s1 : x.nm = nm := mx.symm
  have s2 : x.lo = lo := lx.symm
  have s3 : x.hi = hi := hx'.symm
  have hrest : restX x = ((!nm.toList.isEmpty) && (true && (noneE x.e && (noneE x.a && ((((lo : Int) == 0) && ((hi : Int) == 0)) && (((bn : Int) == 0) && ((ln : Int) == 0))))))) := by
    unfold restX usesN usesE
    simp only [hk, s1, s2, s3, pos_empty, nat_eq0, nx, gx, bx, elx]
    cases nm.toList.isEmpty <;> rfl
  rw [hrest]
  have hne : ∀ (W' : World), Calls Tryz.prog 167 #[.agg #[.int .i64 eo, .int .u64 eu, .string en, .slice eA ek ec]] W' (BoolPost (noneE x.e) W') := fun W' => by
    rw [ex1, ex2, ex3, ex4]
    exact refNone_any x.e eA ec W' (by have := len_cnt x.e.ars; have : cntL x.e.ars ≤ cntE x.e := (by cases x.e; rw [cntE]; simp only [Ex.ars]; omega); omega)
  have hna : ∀ (W' : World), Calls Tryz.prog 167 #[.agg #[.int .i64 ao, .int .u64 au, .string an, .slice aA ak ac]] W' (BoolPost (noneE x.a) W') := fun W' => by
    rw [ax1, ax2, ax3, ax4]
    exact refNone_any x.a aA ac W' (by have := len_cnt x.a.ars; have : cntL x.a.ars ≤ cntE x.a := (by cases x.a; rw [cntE]; simp only [Ex.ars]; omega); omega)
  generalize noneE x.e = te at hne ⊢
  generalize noneE x.a = ta at hna ⊢
  have hne := Lib.hid hne
  have hna := Lib.hid hna
  have hnb : nn ≤ 30000 := by omega
  have hgb : gn ≤ 30000 := by omega
  subst hkr
  clear hrest hcx0 l1 l3 hcx hk s1 s2 s3 kx mx nx nxA ex1 ex2 ex3 ex4 exA exu ax1 ax2 ax3 ax4 axA axu gx gxA lx hx' bx elx
  unfold vlT
  dsimp only
  obtain ⟨W1, hW1⟩ : ∃ W1, W.alloc (.cells #[.int .i64 6, .string nm, .slice nA nn nc, .int .i64 eo, .int .u64 eu, .string en, .slice eA ek ec, .int .i64 ao, .int .u64 au, .string an, .slice aA ak ac, .slice gA gn gc, .int .u64 lo, .int .u64 hi, .slice bA bn bc, .slice lA ln lc] 50) = W1 := ⟨_, rfl⟩
  have hb1 : Below W.heap.size W W1 := by rw [← hW1]; exact (Below.refl _ W).alloc (Nat.le_refl _) _
  have hX : W1.heap[W.heap.size]? = some (.cells #[.int .i64 6, .string nm, .slice nA nn nc, .int .i64 eo, .int .u64 eu, .string en, .slice eA ek ec, .int .i64 ao, .int .u64 au, .string an, .slice aA ak ac, .slice gA gn gc, .int .u64 lo, .int .u64 hi, .slice bA bn bc, .slice lA ln lc] 50 (0, 0)) := by rw [← hW1]; exact heap_alloc_new _ _
  obtain ⟨p0, p1, p2, p3, p4, p5, p6, p7, p8, p9, p10, p11, p12, p13, p14, p15⟩ := box16 hX
  have hbw := Lib.hid (Below.refl W1.heap.size W1)
  have hX := Lib.hid hX
  have hb1 := Lib.hid hb1
  have hW1' := Lib.hid hW1
  clear hW1
  obtain ⟨b0, e0⟩ : ∃ b, nm.toList.isEmpty = b := ⟨_, rfl⟩
  obtain ⟨bL, eL⟩ : ∃ b, decide (nn + gn = 0) = b := ⟨_, rfl⟩
  obtain ⟨b5, e5⟩ : ∃ b, ((lo : Int) == 0) = b := ⟨_, rfl⟩
  obtain ⟨b6, e6⟩ : ∃ b, ((hi : Int) == 0) = b := ⟨_, rfl⟩
  obtain ⟨b7, e7⟩ : ∃ b, ((bn : Int) == 0) = b := ⟨_, rfl⟩
  obtain ⟨b8, e8⟩ : ∃ b, ((ln : Int) == 0) = b := ⟨_, rfl⟩
  have e5n : ((lo : Int) != 0) = !b5 := by rw [bne, e5]
  have e6n : ((hi : Int) != 0) = !b6 := by rw [bne, e6]
  have eLn : decide ((0 : Int) < (nn : Int) + (gn : Int)) = !bL := by
    rw [← eL]
    by_cases h : nn + gn = 0
    · rw [decide_eq_true h, decide_eq_false (by omega)]; rfl
    · rw [decide_eq_false h, decide_eq_true (by omega)]; rfl

  rw [e0, e5, e6, e7, e8]
  clear eL
  cases b0
  rotate_left
  · as_aux_lemma =>
      go_enter Tryz.func173, Tryz.ntmps173
      go_wp2_with fail
      rw [hW1'.out]
      go_wp2
      go_ret
      exact ⟨rfl, Below.next hb1.out hbw.out⟩
  go_enter Tryz.func173, Tryz.ntmps173
  go_wp2_with fail
  rw [hW1'.out]
  go_wp2_with fail
  refine (hne.out _).mono ?_
  rintro e w4 ⟨rfl, hbn⟩
  have hbw := Lib.hid (Below.next hbw.out hbn)
  clear hbn p0 p1 p2 p3 p4 p5 p6 p7 p8 p9 p10 p11 p12 p13 p14 p15
  obtain ⟨p0, p1, p2, p3, p4, p5, p6, p7, p8, p9, p10, p11, p12, p13, p14, p15⟩ := box16 ((hbw.out.block _ (blk_lt hX.out)).trans hX.out)
  cases te
  · as_aux_lemma =>
      go_wp2
      go_ret
      exact ⟨rfl, Below.next hb1.out hbw.out⟩
  · skip
    go_wp2_with fail
    refine (hna.out _).mono ?_
    rintro e w5 ⟨rfl, hbn⟩
    have hbw := Lib.hid (Below.next hbw.out hbn)
    clear hbn p0 p1 p2 p3 p4 p5 p6 p7 p8 p9 p10 p11 p12 p13 p14 p15
    obtain ⟨p0, p1, p2, p3, p4, p5, p6, p7, p8, p9, p10, p11, p12, p13, p14, p15⟩ := box16 ((hbw.out.block _ (blk_lt hX.out)).trans hX.out)
    cases ta
    · as_aux_lemma =>
        go_wp2
        go_ret
        exact ⟨rfl, Below.next hb1.out hbw.out⟩
    · skip
      cases b5
      · as_aux_lemma =>
          go_wp2
          go_ret
          exact ⟨rfl, Below.next hb1.out hbw.out⟩
      · skip
        cases b6
        · as_aux_lemma =>
            go_wp2
            go_ret
            exact ⟨rfl, Below.next hb1.out hbw.out⟩
        · skip
          cases b7
          · as_aux_lemma =>
              go_wp2
              go_ret
              exact ⟨rfl, Below.next hb1.out hbw.out⟩
          · skip
            cases b8
            · as_aux_lemma =>
                go_wp2
                go_ret
                exact ⟨rfl, Below.next hb1.out hbw.out⟩
            · as_aux_lemma =>
                go_wp2
                go_ret
                exact ⟨rfl, Below.next hb1.out hbw.out⟩
end Go.Proofs.YtnahgfdoiflacaaGreatDoor
