/- Which statements can be told: the reference's way, whole. -/
import Derived.Test.YtnahgfdoiflacaaGreatDoorDL
set_option linter.unusedSimpArgs false
set_option linter.unusedVariables false
namespace Go.Proofs.YtnahgfdoiflacaaGreatDoor
open Go.RowKit Go.Lib Go.Shelf

set_option maxRecDepth 100000 in
set_option maxHeartbeats 16000000 in
theorem refMayStmt_any (w0 : World) (x : St) (r : StC) (hx : SNow w0 x r) (W : World) (hW : Below w0.heap.size w0 W) (hcx : cntS x ≤ 30000)
    (hbd : ∀ (W' : World), Below w0.heap.size w0 W' → Calls Tryz.prog 154 #[.slice r.bd.a x.bd.length r.bd.c] W' (BoolPost (maySs x.bd) W'))
    (hel : ∀ (W' : World), Below w0.heap.size w0 W' → Calls Tryz.prog 154 #[.slice r.el.a x.el.length r.el.c] W' (BoolPost (maySs x.el) W')) :
    Calls Tryz.prog 168 #[vlT r] W (BoolPost (mayS x) W) := by
  have hcx0 := cntS_bd x
  have l1 := len_cntN x.ns
  have hexl := exprs_len x hcx
  have hexp := fun (W' : World) (hW' : Below w0.heap.size w0 W') => exprs_any w0 x r hx W' hW'
  have hr1 := fun (k : x.kd = 1) (W' : World) => rest1_any w0 x r hx k hcx W'
  have hr2 := fun (k : x.kd = 2) (W' : World) => rest2_any w0 x r hx k hcx W'
  have hr3 := fun (k : x.kd = 3) (W' : World) => rest3_any w0 x r hx k hcx W'
  have hr4 := fun (k : x.kd = 4) (W' : World) => rest4_any w0 x r hx k hcx W'
  have hr5 := fun (k : x.kd = 5) (W' : World) => rest5_any w0 x r hx k hcx W'
  have hr6 := fun (k : x.kd = 6) (W' : World) => rest6_any w0 x r hx k hcx W'
  obtain ⟨T, hT⟩ : ∃ T, mayS x = T := ⟨_, rfl⟩
  rw [hT]
  -- what the answer comes to
  have hans : kindOk x.kd = true → T = (refH x && restX x) := fun h => hT ▸ refH_eq x h
  have hno : kindOk x.kd = false → T = false := fun h => by rw [← hT, mayS_eq, h, Bool.false_and]
  have hkO : kindOk x.kd = false → ¬ (1 ≤ x.kd ∧ x.kd ≤ 6) := fun h h2 => by
    unfold kindOk at h
    rw [decide_eq_true h2.1, decide_eq_true h2.2] at h
    cases h
  have hfalse : refH x = false → T = false := fun h => by
    cases hk : kindOk x.kd
    · exact hno hk
    · rw [hans hk, h, Bool.false_and]
  have hkr : r.kd = x.kd := hx.kd
  obtain ⟨kd, nm, ⟨nA, nn, nc⟩, ⟨eo, eu, en, ⟨eA, ek, ec⟩⟩, ⟨ao, au, an, ⟨aA, ak, ac⟩⟩, ⟨gA, gn, gc⟩, lo, hi, ⟨bA, bn, bc⟩, ⟨lA, ln, lc⟩⟩ := r
  obtain ⟨kx, mx, nx, nxA, ⟨ex1, ex2, ex3, ex4, exA, exu⟩, ⟨ax1, ax2, ax3, ax4, axA, axu⟩, gx, gxA, lx, hx', _, _, bx, elx⟩ := hx
  dsimp only at kx mx nx nxA ex1 ex2 ex3 ex4 exA ax1 ax2 ax3 ax4 axA gx gxA lx hx' bx elx hkr hbd hel
  rw [← bx] at hbd
  rw [← elx] at hel
  rw [← hkr] at hr1 hr2 hr3 hr4 hr5 hr6 hans hno hkO
  unfold vlT at hexp hr1 hr2 hr3 hr4 hr5 hr6 ⊢
  dsimp only at hexp hr1 hr2 hr3 hr4 hr5 hr6 ⊢
  have h71 : ∀ (W' : World), Calls Tryz.prog 71 #[.string nm] W' (BoolPost (nameB x.nm) W') := fun W' => by
    rw [mx]
    exact refName_any x.nm W' (by omega)
  have h124 : ∀ (W' : World), Below w0.heap.size w0 W' → Calls Tryz.prog 124 #[.slice nA nn nc] W' (BoolPost (x.ns.all nameB) W') := fun W' hW' => by
    rw [nx]
    exact names_any w0 x.ns nA nxA nc W' hW' (by omega) (fun s hs => by
      obtain ⟨i, hi⟩ := List.getElem?_of_mem hs
      have h := cntN_take i hi
      have h2 : ∀ (L : List ByteArray) (k : Nat), cntN (L.take k) ≤ cntN L := fun L => by
        induction L with
        | nil => intro k; simp [cntN]
        | cons s r ih => intro k; cases k with
          | zero => simp [cntN]
          | succ k => rw [List.take_succ_cons, cntN, cntN]; have := ih k; omega
      have h3 := h2 x.ns (i + 1)
      omega)
  have hH : refH x = ((exprsL x).all (mayE nameB) && ((nm.toList.isEmpty || nameB x.nm) && (x.ns.all nameB && (maySs x.bd && maySs x.el)))) := by unfold refH; rw [mx]
  rw [hH] at hans hfalse
  generalize exprsL x = EL at hexp hexl hans hfalse
  generalize nameB x.nm = tn at h71 hans hfalse
  generalize x.ns.all nameB = t1 at h124 hans hfalse
  generalize maySs x.bd = t3 at hbd hans hfalse
  generalize maySs x.el = t4 at hel hans hfalse
  generalize restX x = tr at hr1 hr2 hr3 hr4 hr5 hr6 hans
  clear hH hT hcx0 l1 hcx kx mx nx nxA ex1 ex2 ex3 ex4 exA exu ax1 ax2 ax3 ax4 axA axu gx gxA lx hx' bx elx hkr
  obtain ⟨W1, hW1⟩ : ∃ W1, W.alloc (.cells #[.int .i64 kd, .string nm, .slice nA nn nc, .int .i64 eo, .int .u64 eu, .string en, .slice eA ek ec, .int .i64 ao, .int .u64 au, .string an, .slice aA ak ac, .slice gA gn gc, .int .u64 lo, .int .u64 hi, .slice bA bn bc, .slice lA ln lc] 50) = W1 := ⟨_, rfl⟩
  have hb1 : Below W.heap.size W W1 := by rw [← hW1]; exact (Below.refl _ W).alloc (Nat.le_refl _) _
  have hX : W1.heap[W.heap.size]? = some (.cells #[.int .i64 kd, .string nm, .slice nA nn nc, .int .i64 eo, .int .u64 eu, .string en, .slice eA ek ec, .int .i64 ao, .int .u64 au, .string an, .slice aA ak ac, .slice gA gn gc, .int .u64 lo, .int .u64 hi, .slice bA bn bc, .slice lA ln lc] 50 (0, 0)) := by rw [← hW1]; exact heap_alloc_new _ _
  have up : ∀ W', Below W1.heap.size W1 W' → Below w0.heap.size w0 W' := fun W' h => hW.trans ((Below.next hb1 h).mono hW.size)
  have hexp := Lib.hid (hexp W1 (up _ (Below.refl _ _)))
  have h71 := Lib.hid fun W' (h : Below W1.heap.size W1 W') => h71 W'
  have h124 := Lib.hid fun W' (h : Below W1.heap.size W1 W') => h124 W' (up W' h)
  have hbd := Lib.hid fun W' (h : Below W1.heap.size W1 W') => hbd W' (up W' h)
  have hel := Lib.hid fun W' (h : Below W1.heap.size W1 W') => hel W' (up W' h)
  have hr1 := Lib.hid hr1
  have hr2 := Lib.hid hr2
  have hr3 := Lib.hid hr3
  have hr4 := Lib.hid hr4
  have hr5 := Lib.hid hr5
  have hr6 := Lib.hid hr6
  have hans := Lib.hid hans
  have hno := Lib.hid hno
  have hkO := Lib.hid hkO
  have hfalse := Lib.hid hfalse
  have hexl := Lib.hid hexl
  obtain ⟨p0, p1, p2, p3, p4, p5, p6, p7, p8, p9, p10, p11, p12, p13, p14, p15⟩ := box16 hX
  have hX := Lib.hid hX
  have hb1 := Lib.hid hb1
  have hW1' := Lib.hid hW1
  clear up hW hW1
  go_enter Tryz.func168, Tryz.ntmps168
  go_wp2_with fail
  rw [hW1'.out]
  go_wp2_with fail
  refine hexp.out.mono ?_
  rintro e w2 ⟨A3, c3, rfl, hex3, hb2⟩
  have hex3 := Lib.hid hex3
  have hbw := Lib.hid hb2
  clear hb2 p0 p1 p2 p3 p4 p5 p6 p7 p8 p9 p10 p11 p12 p13 p14 p15
  obtain ⟨n, hnn⟩ : ∃ n, EL.length = n := ⟨_, rfl⟩
  rw [hnn]
  have hL' := Lib.hid hnn
  have hnb : n ≤ 30000 := by have := hexl.out.1; omega
  clear hnn
  go_wp2_with fail
  go_loopg [4] n (fun g s4 wr => ∃ k : Nat, k + g = n ∧ s4 = .int .i64 k ∧ (∀ (i : Nat) (y : Ex), i < k → EL[i]? = some y → mayE nameB y = true) ∧ Below w2.heap.size w2 wr)
  case atStart => exact ⟨0, by omega, rfl, fun i y h => absurd h (by omega), Below.refl _ _⟩
  case round =>
    obtain ⟨k, hkg, rfl, hall, hbr⟩ := hrel
    have hall := Lib.hid hall
    have hbr := Lib.hid hbr
    cases gk with
    | succ g2 =>
      as_aux_lemma =>
        have e0 : (k : Int) < (n : Int) := by omega
        obtain ⟨ab, ao', y, AB, ac', rfl, hy, t0', t1', t2', t3', hye⟩ := (hex3.out).at_ (k := k) (by have := hL'.out; omega)
        have t0' := (hbr.out.cell (p := ⟨ab, ao' + k * 4, none⟩) (cell_some_lt t0')).trans t0'
        have t1' := (hbr.out.cell (p := ⟨ab, ao' + k * 4 + 1, none⟩) (cell_some_lt t1')).trans t1'
        have t2' := (hbr.out.cell (p := ⟨ab, ao' + k * 4 + 2, none⟩) (cell_some_lt t2')).trans t2'
        have t3' := (hbr.out.cell (p := ⟨ab, ao' + k * 4 + 3, none⟩) (cell_some_lt t3')).trans t3'
        have hm := refMay_any w2 y AB hye (hexl.out.2 y (List.mem_of_getElem? hy)) ac' _ hbr.out
        unfold exV at hm
        obtain ⟨t, ht⟩ : ∃ t, mayE nameB y = t := ⟨_, rfl⟩
        rw [ht] at hm
        have hm := Lib.hid hm
        have hy' := Lib.hid hy
        have ht' := Lib.hid ht
        clear hy hye ht
        go_wp2_with fail
        refine hm.out.mono ?_
        rintro e w7 ⟨rfl, hb7⟩
        have hb7 := Lib.hid (Below.next hbr.out hb7)
        clear t0' t1' t2' t3'
        cases t
        · have hs := Lib.hid (show T = false from hfalse.out (by
            have : EL.all (mayE nameB) = false := by
              rw [List.all_eq_false]
              exact ⟨y, List.mem_of_getElem? hy'.out, by rw [ht'.out]; simp⟩
            rw [this, Bool.false_and]))
          go_wp2
          go_ret
          exact ⟨by rw [hs.out]; rfl, Below.next hb1.out (Below.next hbw.out hb7.out)⟩
        · go_wp2
          go_roundg g2
          case measure => omega
          case rel =>
            refine ⟨k + 1, by omega, by go_num, fun i z hi hz => ?_, hb7.out⟩
            rcases Nat.lt_or_ge i k with h | h
            · exact hall.out i z h hz
            · obtain rfl : i = k := by omega
              rw [hy'.out] at hz
              cases hz
              exact ht'.out
    | zero =>
      have e0 : ¬ ((k : Int) < (n : Int)) := by omega
      have hE : EL.all (mayE nameB) = true := by
        rw [List.all_eq_true]
        intro y hy
        obtain ⟨i, hi⟩ := List.getElem?_of_mem hy
        exact hall.out i y (by have := (List.getElem?_eq_some_iff.1 hi).1; have := hL'.out; omega) hi
      have hfalse := hfalse.out
      have hans := hans.out
      rw [hE, Bool.true_and] at hfalse hans
      have hbw := Lib.hid (Below.next hbw.out hbr.out)
      obtain ⟨p0, p1, p2, p3, p4, p5, p6, p7, p8, p9, p10, p11, p12, p13, p14, p15⟩ := box16 ((hbw.out.block _ (blk_lt hX.out)).trans hX.out)
      obtain ⟨b0, e0'⟩ : ∃ b, nm.toList.isEmpty = b := ⟨_, rfl⟩
      rw [e0'] at hfalse hans
      clear hE hall hbr hex3
      cases b0
      · skip
        have hfalse2 := Lib.hid hfalse
        have hans2 := Lib.hid hans
        clear hfalse hans
        go_wp2_with fail
        refine (h71.out _ hbw.out).mono ?_
        rintro e w8 ⟨rfl, hbn⟩
        have hbw := Lib.hid (Below.next hbw.out hbn)
        clear hbn
        clear p0 p1 p2 p3 p4 p5 p6 p7 p8 p9 p10 p11 p12 p13 p14 p15
        obtain ⟨p0, p1, p2, p3, p4, p5, p6, p7, p8, p9, p10, p11, p12, p13, p14, p15⟩ := box16 ((hbw.out.block _ (blk_lt hX.out)).trans hX.out)
        have hfalse := hfalse2.out
        have hans := hans2.out
        clear hfalse2 hans2
        cases tn
        · as_aux_lemma =>
            have hs := Lib.hid (show T = false from by simpa using hfalse)
            clear hfalse hans
            go_wp2
            go_ret
            exact ⟨by rw [hs.out]; rfl, Below.next hb1.out hbw.out⟩
        · skip
          have hfalse2 := Lib.hid hfalse
          have hans2 := Lib.hid hans
          clear hfalse hans
          go_wp2_with fail
          refine (h124.out _ hbw.out).mono ?_
          rintro e w8 ⟨rfl, hbn⟩
          have hbw := Lib.hid (Below.next hbw.out hbn)
          clear hbn
          clear p0 p1 p2 p3 p4 p5 p6 p7 p8 p9 p10 p11 p12 p13 p14 p15
          obtain ⟨p0, p1, p2, p3, p4, p5, p6, p7, p8, p9, p10, p11, p12, p13, p14, p15⟩ := box16 ((hbw.out.block _ (blk_lt hX.out)).trans hX.out)
          have hfalse := hfalse2.out
          have hans := hans2.out
          clear hfalse2 hans2
          cases t1
          · as_aux_lemma =>
              have hs := Lib.hid (show T = false from by simpa using hfalse)
              clear hfalse hans
              go_wp2
              go_ret
              exact ⟨by rw [hs.out]; rfl, Below.next hb1.out hbw.out⟩
          · skip
            have hfalse2 := Lib.hid hfalse
            have hans2 := Lib.hid hans
            clear hfalse hans
            go_wp2_with fail
            refine (hbd.out _ hbw.out).mono ?_
            rintro e w8 ⟨rfl, hbn⟩
            have hbw := Lib.hid (Below.next hbw.out hbn)
            clear hbn
            clear p0 p1 p2 p3 p4 p5 p6 p7 p8 p9 p10 p11 p12 p13 p14 p15
            obtain ⟨p0, p1, p2, p3, p4, p5, p6, p7, p8, p9, p10, p11, p12, p13, p14, p15⟩ := box16 ((hbw.out.block _ (blk_lt hX.out)).trans hX.out)
            have hfalse := hfalse2.out
            have hans := hans2.out
            clear hfalse2 hans2
            cases t3
            · as_aux_lemma =>
                have hs := Lib.hid (show T = false from by simpa using hfalse)
                clear hfalse hans
                go_wp2
                go_ret
                exact ⟨by rw [hs.out]; rfl, Below.next hb1.out hbw.out⟩
            · skip
              have hfalse2 := Lib.hid hfalse
              have hans2 := Lib.hid hans
              clear hfalse hans
              go_wp2_with fail
              refine (hel.out _ hbw.out).mono ?_
              rintro e w8 ⟨rfl, hbn⟩
              have hbw := Lib.hid (Below.next hbw.out hbn)
              clear hbn
              clear p0 p1 p2 p3 p4 p5 p6 p7 p8 p9 p10 p11 p12 p13 p14 p15
              obtain ⟨p0, p1, p2, p3, p4, p5, p6, p7, p8, p9, p10, p11, p12, p13, p14, p15⟩ := box16 ((hbw.out.block _ (blk_lt hX.out)).trans hX.out)
              have hfalse := hfalse2.out
              have hans := hans2.out
              clear hfalse2 hans2
              cases t4
              · as_aux_lemma =>
                  have hs := Lib.hid (show T = false from by simpa using hfalse)
                  clear hfalse hans
                  go_wp2
                  go_ret
                  exact ⟨by rw [hs.out]; rfl, Below.next hb1.out hbw.out⟩
              · skip
                by_cases hk : 1 ≤ kd ∧ kd ≤ 6
                rotate_left
                · as_aux_lemma =>
                    have k1 : (kd == 1) = false := int_ne (by omega)
                    have k2 : (kd == 2) = false := int_ne (by omega)
                    have k3 : (kd == 3) = false := int_ne (by omega)
                    have k4 : (kd == 4) = false := int_ne (by omega)
                    have k5 : (kd == 5) = false := int_ne (by omega)
                    have k6 : (kd == 6) = false := int_ne (by omega)
                    have hs := Lib.hid (hno.out (by
                      unfold kindOk
                      by_cases h : 1 ≤ kd
                      · rw [decide_eq_false (p := kd ≤ 6) (by omega), Bool.and_false]
                      · rw [decide_eq_false h, Bool.false_and]))
                    clear hfalse hans
                    go_wp2
                    go_ret
                    exact ⟨by rw [hs.out]; rfl, Below.next hb1.out hbw.out⟩
                have hs := Lib.hid (show T = tr from by
                  have h := hans (by unfold kindOk; rw [decide_eq_true hk.1, decide_eq_true hk.2]; rfl)
                  simpa using h)
                clear hfalse hans
                rcases (show kd = 1 ∨ kd = 2 ∨ kd = 3 ∨ kd = 4 ∨ kd = 5 ∨ kd = 6 by omega) with rfl | rfl | rfl | rfl | rfl | rfl
                · as_aux_lemma =>
                    go_wp2_with fail
                    refine (hr1.out (by simp) _).mono ?_
                    rintro e w9 ⟨rfl, hbn⟩
                    have hbw := Lib.hid (Below.next hbw.out hbn)
                    clear hbn p0 p1 p2 p3 p4 p5 p6 p7 p8 p9 p10 p11 p12 p13 p14 p15
                    go_wp2
                    go_ret
                    exact ⟨by rw [hs.out]; rfl, Below.next hb1.out hbw.out⟩
                · as_aux_lemma =>
                    go_wp2_with fail
                    refine (hr2.out (by simp) _).mono ?_
                    rintro e w9 ⟨rfl, hbn⟩
                    have hbw := Lib.hid (Below.next hbw.out hbn)
                    clear hbn p0 p1 p2 p3 p4 p5 p6 p7 p8 p9 p10 p11 p12 p13 p14 p15
                    go_wp2
                    go_ret
                    exact ⟨by rw [hs.out]; rfl, Below.next hb1.out hbw.out⟩
                · as_aux_lemma =>
                    go_wp2_with fail
                    refine (hr3.out (by simp) _).mono ?_
                    rintro e w9 ⟨rfl, hbn⟩
                    have hbw := Lib.hid (Below.next hbw.out hbn)
                    clear hbn p0 p1 p2 p3 p4 p5 p6 p7 p8 p9 p10 p11 p12 p13 p14 p15
                    go_wp2
                    go_ret
                    exact ⟨by rw [hs.out]; rfl, Below.next hb1.out hbw.out⟩
                · as_aux_lemma =>
                    go_wp2_with fail
                    refine (hr4.out (by simp) _).mono ?_
                    rintro e w9 ⟨rfl, hbn⟩
                    have hbw := Lib.hid (Below.next hbw.out hbn)
                    clear hbn p0 p1 p2 p3 p4 p5 p6 p7 p8 p9 p10 p11 p12 p13 p14 p15
                    go_wp2
                    go_ret
                    exact ⟨by rw [hs.out]; rfl, Below.next hb1.out hbw.out⟩
                · as_aux_lemma =>
                    go_wp2_with fail
                    refine (hr5.out (by simp) _).mono ?_
                    rintro e w9 ⟨rfl, hbn⟩
                    have hbw := Lib.hid (Below.next hbw.out hbn)
                    clear hbn p0 p1 p2 p3 p4 p5 p6 p7 p8 p9 p10 p11 p12 p13 p14 p15
                    go_wp2
                    go_ret
                    exact ⟨by rw [hs.out]; rfl, Below.next hb1.out hbw.out⟩
                · as_aux_lemma =>
                    go_wp2_with fail
                    refine (hr6.out (by simp) _).mono ?_
                    rintro e w9 ⟨rfl, hbn⟩
                    have hbw := Lib.hid (Below.next hbw.out hbn)
                    clear hbn p0 p1 p2 p3 p4 p5 p6 p7 p8 p9 p10 p11 p12 p13 p14 p15
                    go_wp2
                    go_ret
                    exact ⟨by rw [hs.out]; rfl, Below.next hb1.out hbw.out⟩
      · skip
        have hfalse2 := Lib.hid hfalse
        have hans2 := Lib.hid hans
        clear hfalse hans
        go_wp2_with fail
        refine (h124.out _ hbw.out).mono ?_
        rintro e w8 ⟨rfl, hbn⟩
        have hbw := Lib.hid (Below.next hbw.out hbn)
        clear hbn
        clear p0 p1 p2 p3 p4 p5 p6 p7 p8 p9 p10 p11 p12 p13 p14 p15
        obtain ⟨p0, p1, p2, p3, p4, p5, p6, p7, p8, p9, p10, p11, p12, p13, p14, p15⟩ := box16 ((hbw.out.block _ (blk_lt hX.out)).trans hX.out)
        have hfalse := hfalse2.out
        have hans := hans2.out
        clear hfalse2 hans2
        cases t1
        · as_aux_lemma =>
            have hs := Lib.hid (show T = false from by simpa using hfalse)
            clear hfalse hans
            go_wp2
            go_ret
            exact ⟨by rw [hs.out]; rfl, Below.next hb1.out hbw.out⟩
        · skip
          have hfalse2 := Lib.hid hfalse
          have hans2 := Lib.hid hans
          clear hfalse hans
          go_wp2_with fail
          refine (hbd.out _ hbw.out).mono ?_
          rintro e w8 ⟨rfl, hbn⟩
          have hbw := Lib.hid (Below.next hbw.out hbn)
          clear hbn
          clear p0 p1 p2 p3 p4 p5 p6 p7 p8 p9 p10 p11 p12 p13 p14 p15
          obtain ⟨p0, p1, p2, p3, p4, p5, p6, p7, p8, p9, p10, p11, p12, p13, p14, p15⟩ := box16 ((hbw.out.block _ (blk_lt hX.out)).trans hX.out)
          have hfalse := hfalse2.out
          have hans := hans2.out
          clear hfalse2 hans2
          cases t3
          · as_aux_lemma =>
              have hs := Lib.hid (show T = false from by simpa using hfalse)
              clear hfalse hans
              go_wp2
              go_ret
              exact ⟨by rw [hs.out]; rfl, Below.next hb1.out hbw.out⟩
          · skip
            have hfalse2 := Lib.hid hfalse
            have hans2 := Lib.hid hans
            clear hfalse hans
            go_wp2_with fail
            refine (hel.out _ hbw.out).mono ?_
            rintro e w8 ⟨rfl, hbn⟩
            have hbw := Lib.hid (Below.next hbw.out hbn)
            clear hbn
            clear p0 p1 p2 p3 p4 p5 p6 p7 p8 p9 p10 p11 p12 p13 p14 p15
            obtain ⟨p0, p1, p2, p3, p4, p5, p6, p7, p8, p9, p10, p11, p12, p13, p14, p15⟩ := box16 ((hbw.out.block _ (blk_lt hX.out)).trans hX.out)
            have hfalse := hfalse2.out
            have hans := hans2.out
            clear hfalse2 hans2
            cases t4
            · as_aux_lemma =>
                have hs := Lib.hid (show T = false from by simpa using hfalse)
                clear hfalse hans
                go_wp2
                go_ret
                exact ⟨by rw [hs.out]; rfl, Below.next hb1.out hbw.out⟩
            · skip
              by_cases hk : 1 ≤ kd ∧ kd ≤ 6
              rotate_left
              · as_aux_lemma =>
                  have k1 : (kd == 1) = false := int_ne (by omega)
                  have k2 : (kd == 2) = false := int_ne (by omega)
                  have k3 : (kd == 3) = false := int_ne (by omega)
                  have k4 : (kd == 4) = false := int_ne (by omega)
                  have k5 : (kd == 5) = false := int_ne (by omega)
                  have k6 : (kd == 6) = false := int_ne (by omega)
                  have hs := Lib.hid (hno.out (by
                    unfold kindOk
                    by_cases h : 1 ≤ kd
                    · rw [decide_eq_false (p := kd ≤ 6) (by omega), Bool.and_false]
                    · rw [decide_eq_false h, Bool.false_and]))
                  clear hfalse hans
                  go_wp2
                  go_ret
                  exact ⟨by rw [hs.out]; rfl, Below.next hb1.out hbw.out⟩
              have hs := Lib.hid (show T = tr from by
                have h := hans (by unfold kindOk; rw [decide_eq_true hk.1, decide_eq_true hk.2]; rfl)
                simpa using h)
              clear hfalse hans
              rcases (show kd = 1 ∨ kd = 2 ∨ kd = 3 ∨ kd = 4 ∨ kd = 5 ∨ kd = 6 by omega) with rfl | rfl | rfl | rfl | rfl | rfl
              · as_aux_lemma =>
                  go_wp2_with fail
                  refine (hr1.out (by simp) _).mono ?_
                  rintro e w9 ⟨rfl, hbn⟩
                  have hbw := Lib.hid (Below.next hbw.out hbn)
                  clear hbn p0 p1 p2 p3 p4 p5 p6 p7 p8 p9 p10 p11 p12 p13 p14 p15
                  go_wp2
                  go_ret
                  exact ⟨by rw [hs.out]; rfl, Below.next hb1.out hbw.out⟩
              · as_aux_lemma =>
                  go_wp2_with fail
                  refine (hr2.out (by simp) _).mono ?_
                  rintro e w9 ⟨rfl, hbn⟩
                  have hbw := Lib.hid (Below.next hbw.out hbn)
                  clear hbn p0 p1 p2 p3 p4 p5 p6 p7 p8 p9 p10 p11 p12 p13 p14 p15
                  go_wp2
                  go_ret
                  exact ⟨by rw [hs.out]; rfl, Below.next hb1.out hbw.out⟩
              · as_aux_lemma =>
                  go_wp2_with fail
                  refine (hr3.out (by simp) _).mono ?_
                  rintro e w9 ⟨rfl, hbn⟩
                  have hbw := Lib.hid (Below.next hbw.out hbn)
                  clear hbn p0 p1 p2 p3 p4 p5 p6 p7 p8 p9 p10 p11 p12 p13 p14 p15
                  go_wp2
                  go_ret
                  exact ⟨by rw [hs.out]; rfl, Below.next hb1.out hbw.out⟩
              · as_aux_lemma =>
                  go_wp2_with fail
                  refine (hr4.out (by simp) _).mono ?_
                  rintro e w9 ⟨rfl, hbn⟩
                  have hbw := Lib.hid (Below.next hbw.out hbn)
                  clear hbn p0 p1 p2 p3 p4 p5 p6 p7 p8 p9 p10 p11 p12 p13 p14 p15
                  go_wp2
                  go_ret
                  exact ⟨by rw [hs.out]; rfl, Below.next hb1.out hbw.out⟩
              · as_aux_lemma =>
                  go_wp2_with fail
                  refine (hr5.out (by simp) _).mono ?_
                  rintro e w9 ⟨rfl, hbn⟩
                  have hbw := Lib.hid (Below.next hbw.out hbn)
                  clear hbn p0 p1 p2 p3 p4 p5 p6 p7 p8 p9 p10 p11 p12 p13 p14 p15
                  go_wp2
                  go_ret
                  exact ⟨by rw [hs.out]; rfl, Below.next hb1.out hbw.out⟩
              · as_aux_lemma =>
                  go_wp2_with fail
                  refine (hr6.out (by simp) _).mono ?_
                  rintro e w9 ⟨rfl, hbn⟩
                  have hbw := Lib.hid (Below.next hbw.out hbn)
                  clear hbn p0 p1 p2 p3 p4 p5 p6 p7 p8 p9 p10 p11 p12 p13 p14 p15
                  go_wp2
                  go_ret
                  exact ⟨by rw [hs.out]; rfl, Below.next hb1.out hbw.out⟩

set_option maxRecDepth 100000 in
set_option maxHeartbeats 8000000 in
theorem refMayL_any (w0 : World) (L : List St) (A : Option Addr) (h : StsAt w0 L A) : ∀ (c : Nat) (W : World), cntSs L ≤ 30000 → Below w0.heap.size w0 W →
    Calls Tryz.prog 154 #[.slice A L.length c] W (BoolPost (maySs L) W) := by
  refine StsAt.all (M := fun L A => ∀ (c : Nat) (W : World), cntSs L ≤ 30000 → Below w0.heap.size w0 W → Calls Tryz.prog 154 #[.slice A L.length c] W (BoolPost (maySs L) W)) ?_ L A h
  intro L A hL ih c W hc hW
  have l1 := len_cntSs L
  have hs := Lib.hid hL
  have hW' := Lib.hid hW
  have ih' := Lib.hid ih
  have hc' := Lib.hid hc
  obtain ⟨n, hnn⟩ : ∃ n, L.length = n := ⟨_, rfl⟩
  rw [hnn] at l1 ⊢
  rw [maySs_all]
  have hL' := Lib.hid hnn
  have hn : n ≤ 30000 := by omega
  clear hL hW ih hnn l1 hc h
  go_enter Tryz.func154, Tryz.ntmps154
  go_wp2_with fail
  go_loopg [3] n (fun g s3 wr => ∃ k : Nat, k + g = n ∧ s3 = .int .i64 k ∧ (∀ (i : Nat) (x : St), i < k → L[i]? = some x → mayS x = true) ∧ Below W.heap.size W wr)
  case atStart => exact ⟨0, by omega, rfl, fun i x h => absurd h (by omega), Below.refl _ _⟩
  case round =>
    obtain ⟨k, hkg, rfl, hall, hbr⟩ := hrel
    have hall' := Lib.hid hall
    have hbr' := Lib.hid hbr
    clear hall hbr
    cases gk with
    | zero =>
      have e0 : ¬ ((k : Int) < (n : Int)) := by omega
      have hs := Lib.hid (show L.all mayS = true by
        rw [List.all_eq_true]
        intro x hx
        obtain ⟨i, hi⟩ := List.getElem?_of_mem hx
        exact hall'.out i x (by have := (List.getElem?_eq_some_iff.1 hi).1; have := hL'.out; omega) hi)
      go_wp2
      go_ret
      exact ⟨by rw [hs.out]; rfl, hbr'.out⟩
    | succ g2 =>
      have e0 : (k : Int) < (n : Int) := by omega
      have hbw := Lib.hid (hW'.out.trans (hbr'.out.mono hW'.out.size))
      obtain ⟨blk, off, x, r, rfl, hx, hcx, hxe, hxb, hxl⟩ := (hs.out).at_ (k := k) (by rw [hL'.out]; omega)
      have c1 := cntS_mem hx
      have c2 := cntS_bd x
      have hcl := refMayStmt_any w0 x r hxe wr hbw.out (by have := hc'.out; omega) (fun W2 hW2 => (ih'.out k x _ hx).1 hxb r.bd.c W2 (by have := hc'.out; omega) hW2) (fun W2 hW2 => (ih'.out k x _ hx).2 hxl r.el.c W2 (by have := hc'.out; omega) hW2)
      obtain ⟨kd, nm, ⟨nA, nn, nc⟩, ⟨eo, eu, en, ⟨eA, ek, ec⟩⟩, ⟨ao, au, an, ⟨aA, ak, ac⟩⟩, ⟨gA, gn, gc⟩, lo, hi, ⟨bA, bn, bc⟩, ⟨lA, ln, lc⟩⟩ := r
      unfold vlT at hcl
      dsimp only at hcl
      have v0 : w0.cell? ⟨blk, off + k * 16, none⟩ = some (.int .i64 kd) := hcx 0 (by omega)
      have v0 := (hbw.out.cell (p := ⟨blk, off + k * 16, none⟩) (cell_some_lt v0)).trans v0
      have v1 : w0.cell? ⟨blk, off + k * 16 + 1, none⟩ = some (.string nm) := hcx 1 (by omega)
      have v1 := (hbw.out.cell (p := ⟨blk, off + k * 16 + 1, none⟩) (cell_some_lt v1)).trans v1
      have v2 : w0.cell? ⟨blk, off + k * 16 + 2, none⟩ = some (.slice nA nn nc) := hcx 2 (by omega)
      have v2 := (hbw.out.cell (p := ⟨blk, off + k * 16 + 2, none⟩) (cell_some_lt v2)).trans v2
      have v3 : w0.cell? ⟨blk, off + k * 16 + 3, none⟩ = some (.int .i64 eo) := hcx 3 (by omega)
      have v3 := (hbw.out.cell (p := ⟨blk, off + k * 16 + 3, none⟩) (cell_some_lt v3)).trans v3
      have v4 : w0.cell? ⟨blk, off + k * 16 + 4, none⟩ = some (.int .u64 eu) := hcx 4 (by omega)
      have v4 := (hbw.out.cell (p := ⟨blk, off + k * 16 + 4, none⟩) (cell_some_lt v4)).trans v4
      have v5 : w0.cell? ⟨blk, off + k * 16 + 5, none⟩ = some (.string en) := hcx 5 (by omega)
      have v5 := (hbw.out.cell (p := ⟨blk, off + k * 16 + 5, none⟩) (cell_some_lt v5)).trans v5
      have v6 : w0.cell? ⟨blk, off + k * 16 + 6, none⟩ = some (.slice eA ek ec) := hcx 6 (by omega)
      have v6 := (hbw.out.cell (p := ⟨blk, off + k * 16 + 6, none⟩) (cell_some_lt v6)).trans v6
      have v7 : w0.cell? ⟨blk, off + k * 16 + 7, none⟩ = some (.int .i64 ao) := hcx 7 (by omega)
      have v7 := (hbw.out.cell (p := ⟨blk, off + k * 16 + 7, none⟩) (cell_some_lt v7)).trans v7
      have v8 : w0.cell? ⟨blk, off + k * 16 + 8, none⟩ = some (.int .u64 au) := hcx 8 (by omega)
      have v8 := (hbw.out.cell (p := ⟨blk, off + k * 16 + 8, none⟩) (cell_some_lt v8)).trans v8
      have v9 : w0.cell? ⟨blk, off + k * 16 + 9, none⟩ = some (.string an) := hcx 9 (by omega)
      have v9 := (hbw.out.cell (p := ⟨blk, off + k * 16 + 9, none⟩) (cell_some_lt v9)).trans v9
      have v10 : w0.cell? ⟨blk, off + k * 16 + 10, none⟩ = some (.slice aA ak ac) := hcx 10 (by omega)
      have v10 := (hbw.out.cell (p := ⟨blk, off + k * 16 + 10, none⟩) (cell_some_lt v10)).trans v10
      have v11 : w0.cell? ⟨blk, off + k * 16 + 11, none⟩ = some (.slice gA gn gc) := hcx 11 (by omega)
      have v11 := (hbw.out.cell (p := ⟨blk, off + k * 16 + 11, none⟩) (cell_some_lt v11)).trans v11
      have v12 : w0.cell? ⟨blk, off + k * 16 + 12, none⟩ = some (.int .u64 lo) := hcx 12 (by omega)
      have v12 := (hbw.out.cell (p := ⟨blk, off + k * 16 + 12, none⟩) (cell_some_lt v12)).trans v12
      have v13 : w0.cell? ⟨blk, off + k * 16 + 13, none⟩ = some (.int .u64 hi) := hcx 13 (by omega)
      have v13 := (hbw.out.cell (p := ⟨blk, off + k * 16 + 13, none⟩) (cell_some_lt v13)).trans v13
      have v14 : w0.cell? ⟨blk, off + k * 16 + 14, none⟩ = some (.slice bA bn bc) := hcx 14 (by omega)
      have v14 := (hbw.out.cell (p := ⟨blk, off + k * 16 + 14, none⟩) (cell_some_lt v14)).trans v14
      have v15 : w0.cell? ⟨blk, off + k * 16 + 15, none⟩ = some (.slice lA ln lc) := hcx 15 (by omega)
      have v15 := (hbw.out.cell (p := ⟨blk, off + k * 16 + 15, none⟩) (cell_some_lt v15)).trans v15
      obtain ⟨t, ht⟩ : ∃ t, mayS x = t := ⟨_, rfl⟩
      rw [ht] at hcl
      have hcl := Lib.hid hcl
      have hx' := Lib.hid hx
      have ht' := Lib.hid ht
      clear hcx hx ht hxe hxb hxl c1 c2
      go_wp2_with fail
      refine hcl.out.mono ?_
      rintro e w1 ⟨rfl, hb1⟩
      have hb1' := Lib.hid (Below.next hbr'.out hb1)
      clear hb1 v0 v1 v2 v3 v4 v5 v6 v7 v8 v9 v10 v11 v12 v13 v14 v15
      cases t
      · as_aux_lemma =>
          have hs := Lib.hid (show L.all mayS = false by
            rw [List.all_eq_false]
            exact ⟨x, List.mem_of_getElem? hx'.out, by rw [ht'.out]; simp⟩)
          go_wp2
          go_ret
          exact ⟨by rw [hs.out]; rfl, hb1'.out⟩
      · go_wp2
        go_roundg g2
        case measure => omega
        case rel =>
          refine ⟨k + 1, by omega, by go_num, fun i y hi hv => ?_, hb1'.out⟩
          rcases Nat.lt_or_ge i k with h | h
          · exact hall'.out i y h hv
          · obtain rfl : i = k := by omega
            rw [hx'.out] at hv
            cases hv
            exact ht'.out

set_option maxRecDepth 100000 in
set_option maxHeartbeats 4000000 in
theorem refMayStmts_any (w0 : World) (L : List St) (A : Option Addr) (h : StsAt w0 L A) (c : Nat) (W : World) (hc : cntSs L ≤ 30000) (hW : Below w0.heap.size w0 W) :
    Calls Tryz.prog 125 #[.slice A L.length c] W (BoolPost (mayT L) W) := by
  have hd := Lib.hid (fun (W' : World) (hb : Below W.heap.size W W') => refDeep_any w0 L A h c W' hc (hW.trans (hb.mono hW.size)))
  have hk := Lib.hid (fun (W' : World) (hb : Below W.heap.size W W') => refMayL_any w0 L A h c W' hc (hW.trans (hb.mono hW.size)))
  unfold mayT
  have hdb := depSs_cnt L
  generalize L.length = n at hd hk ⊢
  obtain ⟨d, hdd⟩ : ∃ d, depSs L = d := ⟨_, rfl⟩
  rw [hdd] at hd hdb ⊢
  generalize maySs L = t at hk ⊢
  have hd9 : d ≤ 30000 := by omega
  clear h hc hW hdd hdb
  by_cases h64 : d ≤ 64
  · have e0 : (d : Int) ≤ 64 := by omega
    rw [decide_eq_true h64]
    clear h64
    go_enter Tryz.func125, Tryz.ntmps125
    go_wp2_with fail
    refine (hd.out _ (Below.refl _ _)).mono ?_
    rintro e w1 ⟨rfl, hb⟩
    have hb := Lib.hid hb
    go_wp2_with fail
    refine (hk.out _ hb.out).mono ?_
    rintro e w2 ⟨rfl, hb2⟩
    have hb2 := Lib.hid (Below.next hb.out hb2)
    cases t
    all_goals
      go_wp2
      go_ret
      exact ⟨rfl, hb2.out⟩
  · have e0 : ¬ (d : Int) ≤ 64 := by omega
    have e1 : decide ((d : Int) ≤ 64) = false := decide_eq_false e0
    rw [decide_eq_false h64]
    clear h64
    go_enter Tryz.func125, Tryz.ntmps125
    go_wp2_with fail
    refine (hd.out _ (Below.refl _ _)).mono ?_
    rintro e w1 ⟨rfl, hb⟩
    have hb := Lib.hid hb
    go_wp2
    go_ret
    exact ⟨rfl, hb.out⟩
end Go.Proofs.YtnahgfdoiflacaaGreatDoor
