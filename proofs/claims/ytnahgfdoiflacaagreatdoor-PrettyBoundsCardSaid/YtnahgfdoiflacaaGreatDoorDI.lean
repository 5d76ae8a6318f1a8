/- Which statements can be told. -/
import Derived.Test.YtnahgfdoiflacaaGreatDoorDE
import Derived.Test.YtnahgfdoiflacaaGreatDoorDF
import Derived.Test.YtnahgfdoiflacaaGreatDoorDG
import Derived.Test.YtnahgfdoiflacaaGreatDoorDH
import Derived.Test.YtnahgfdoiflacaaGreatDoorO2
set_option linter.unusedSimpArgs false
set_option linter.unusedVariables false
namespace Go.Proofs.YtnahgfdoiflacaaGreatDoor
open Go.RowKit Go.Lib Go.Shelf

def usesE (k : Int) : Bool := k == 1 || (k == 2 || (k == 3 || k == 4))
def usesN (k : Int) : Bool := k == 1 || (k == 2 || (k == 5 || k == 6))
/-- nothing that the kind does not name -/
def bareX (x : St) : Bool := (x.kd == 6 || decide (x.ns.length = 0)) && ((x.kd == 6 || decide (x.ars.length = 0)) && ((x.kd == 3 || (x.kd == 4 || (x.kd == 5 || decide (x.bd.length = 0)))) && ((x.kd == 3 || decide (x.el.length = 0)) &&
  ((usesN x.kd || decide (x.nm.size = 0)) && ((x.kd == 5 || decide (x.lo = 0)) && ((x.kd == 5 || decide (x.hi = 0)) && ((usesE x.kd || noneE x.e) && (x.kd == 2 || noneE x.a))))))))
def mayH (x : St) : Bool := bareX x && ((!usesE x.kd || mayE nameB x.e) && ((!(x.kd == 2) || mayE nameB x.a) && ((!usesN x.kd || nameB x.nm) && (x.ns.all nameB && x.ars.all (mayE nameB)))))
def kindOk (k : Int) : Bool := decide (1 ≤ k) && decide (k ≤ 6)
mutual
def mayS : St → Bool | .node kd nm ns e a ars lo hi bd el => kindOk kd && (mayH (.node kd nm ns e a ars lo hi bd el) && (maySs bd && maySs el))
def maySs : List St → Bool
  | [] => true
  | s :: r => mayS s && maySs r
end
theorem maySs_all : ∀ L : List St, maySs L = L.all mayS
  | [] => by rw [maySs]; rfl
  | s :: r => by rw [maySs, maySs_all r, List.all_cons]
theorem mayS_eq (x : St) : mayS x = (kindOk x.kd && (mayH x && (maySs x.bd && maySs x.el))) := by cases x; rw [mayS]; rfl
theorem int_beq_nat (n : Nat) : ((0 : Int) == (n : Int)) = decide (n = 0) := by
  by_cases h : n = 0
  · subst h; rfl
  · rw [decide_eq_false h]
    simp
    omega
theorem bareR_of {w : World} {x : St} {r : StC} (h : SNow w x r) (hk : kindOk x.kd = true) : bareR (namedC r) r = bareX x := by
  have hb : 1 ≤ x.kd ∧ x.kd ≤ 6 := by simpa [kindOk] using hk
  have he := noneC_of h.e
  have ha := noneC_of h.a
  have z0 : noneC ec0 = true := rfl
  have hs : ∀ s : ByteArray, ((⟨#[]⟩ : ByteArray).toList == s.toList) = decide (s.size = 0) := fun s => by
    rw [← empty_iff s, ByteArray.toList_eq, ByteArray.toList_eq]
    cases s.data.toList <;> rfl
  have hkd := h.kd
  have hns := h.ns
  have har := h.ar
  have hbd := h.bd
  have hel := h.el
  have hnm := h.nm
  have hlo := h.lo
  have hhi := h.hi
  have hemp : ∀ s : ByteArray, s.toList.isEmpty = decide (s = ByteArray.empty) := fun s => by rw [empty_iff]; simp
  have hself : ∀ s : ByteArray, (s.toList == s.toList) = true := fun s => by simp
  have hselfi : ∀ s : Int, (s == s) = true := fun s => by simp
  have hselfb : ∀ s : Bool, (s == s) = true := fun s => by cases s <;> rfl
  have htb : ∀ b : Bool, (true == b) = b := fun b => by cases b <;> rfl
  have hcases : x.kd = 1 ∨ x.kd = 2 ∨ x.kd = 3 ∨ x.kd = 4 ∨ x.kd = 5 ∨ x.kd = 6 := by omega
  unfold bareR bareX usesN usesE
  rcases hcases with k | k | k | k | k | k
  all_goals
    rw [k] at hkd
    simp only [namedC, hkd, k]
    simp only [← he, ← ha, ← hns, ← har, ← hbd, ← hel, ← hnm, ← hlo, ← hhi]
    simp [sl0, z0, hs, hself, hselfi, hselfb, htb, int_beq_nat, ec0]
    try (rw [show noneC { op := 0, u := 0, nm := { data := #[] }, ar := { a := none, n := 0, c := 0 } } = true from rfl]; simp)
    try rw [hemp]

set_option maxRecDepth 100000 in
set_option maxHeartbeats 16000000 in
theorem mayStmt1_any (w0 : World) (x : St) (r : StC) (hx : SNow w0 x r) (hk : x.kd = 1) (W : World) (hW : Below w0.heap.size w0 W) (hcx : cntS x ≤ 30000)
    (hbd : ∀ (W' : World), Below w0.heap.size w0 W' → Calls Tryz.prog 114 #[.slice r.bd.a x.bd.length r.bd.c, .func (.func 115) #[] #[]] W' (BoolPost (maySs x.bd) W'))
    (hel : ∀ (W' : World), Below w0.heap.size w0 W' → Calls Tryz.prog 114 #[.slice r.el.a x.el.length r.el.c, .func (.func 115) #[] #[]] W' (BoolPost (maySs x.el) W')) :
    Calls Tryz.prog 115 #[vlT r] W (BoolPost (mayS x) W) := by
  have hcx0 := cntS_bd x
  have l1 := len_cntN x.ns
  have l3 := len_cnt x.ars
  have hmay : mayS x = (bareX x && (mayE nameB x.e && (nameB x.nm && (x.ns.all nameB && (x.ars.all (mayE nameB) && (maySs x.bd && maySs x.el)))))) := by
    rw [mayS_eq]
    unfold mayH usesE usesN kindOk
    simp only [hk]
    simp [Bool.and_assoc]
  rw [hmay]
  have hkr : r.kd = 1 := hx.kd.trans hk
  have hb149 : ∀ W' : World, Calls Tryz.prog 149 #[vlT r] W' (BoolPost (bareX x) W') := fun W' => by
    rw [← bareR_of hx (by rw [hk]; rfl)]
    have e1 : r.e.ar.n ≤ 1000000 := by
      have h1 := hx.e.2.2.2.1
      have h2 := len_cnt x.e.ars
      have h3 : cntL x.e.ars ≤ cntE x.e := by cases x.e; rw [cntE]; simp only [Ex.ars]; omega
      omega
    have e2 : r.a.ar.n ≤ 1000000 := by
      have h1 := hx.a.2.2.2.1
      have h2 := len_cnt x.a.ars
      have h3 : cntL x.a.ars ≤ cntE x.a := by cases x.a; rw [cntE]; simp only [Ex.ars]; omega
      omega
    refine bare_any r (namedC r) W' (fun W2 => named1_any r hkr W2) e1 e2 ?_ ?_
    all_goals
      unfold namedC
      simp [hkr, ec0, sl0]
      try assumption
  obtain ⟨kd, nm, ⟨nA, nn, nc⟩, ⟨eo, eu, en, ⟨eA, ek, ec⟩⟩, ⟨ao, au, an, ⟨aA, ak, ac⟩⟩, ⟨gA, gn, gc⟩, lo, hi, ⟨bA, bn, bc⟩, ⟨lA, ln, lc⟩⟩ := r
  obtain ⟨kx, mx, nx, nxA, ⟨ex1, ex2, ex3, ex4, exA, exu⟩, ⟨ax1, ax2, ax3, ax4, axA, axu⟩, gx, gxA, lx, hx', _, _, bx, elx⟩ := hx
  dsimp only at kx mx nx nxA ex1 ex2 ex3 ex4 exA ax1 ax2 ax3 ax4 axA gx gxA lx hx' bx elx hbd hel hkr
  rw [← bx] at hbd
  rw [← elx] at hel
  subst hkr
  unfold vlT at hb149 ⊢
  dsimp only at hb149 ⊢
  have h62 : ∀ (W' : World), Calls Tryz.prog 62 #[.string nm] W' (BoolPost (nameB x.nm) W') := fun W' => by
    rw [mx]
    exact name_any x.nm W' (by omega)
  have h42e : ∀ (W' : World), Below w0.heap.size w0 W' → Calls Tryz.prog 42 #[.agg #[.int .i64 eo, .int .u64 eu, .string en, .slice eA ek ec]] W' (BoolPost (mayE nameB x.e) W') := fun W' hW' => by
    rw [ex1, ex2, ex3, ex4]
    exact may_any w0 x.e eA exA (by omega) ec W' hW'
  have h42a : ∀ (W' : World), Below w0.heap.size w0 W' → Calls Tryz.prog 42 #[.agg #[.int .i64 ao, .int .u64 au, .string an, .slice aA ak ac]] W' (BoolPost (mayE nameB x.a) W') := fun W' hW' => by
    rw [ax1, ax2, ax3, ax4]
    exact may_any w0 x.a aA axA (by omega) ac W' hW'
  have h67 : ∀ (W' : World), Below w0.heap.size w0 W' → Calls Tryz.prog 67 #[.slice nA nn nc, .func (.func 62) #[] #[]] W' (BoolPost (x.ns.all nameB) W') := fun W' hW' => by
    rw [nx]
    exact allS_any 62 (enters_of Tryz.func62 (by kernel_rfl) rfl) nameB w0 x.ns nA nxA nc W' hW' (by omega) (fun i s hs W2 _ => name_any s W2 (by
      have h := cntN_take i hs
      have h2 : ∀ (L : List ByteArray) (k : Nat), cntN (L.take k) ≤ cntN L := fun L => by
        induction L with
        | nil => intro k; simp [cntN]
        | cons s r ih => intro k; cases k with
          | zero => simp [cntN]
          | succ k => rw [List.take_succ_cons, cntN, cntN]; have := ih k; omega
      have h3 := h2 x.ns (i + 1)
      omega))
  have h95 : ∀ (W' : World), Below w0.heap.size w0 W' → Calls Tryz.prog 95 #[.slice gA gn gc, .func (.func 42) #[] #[]] W' (BoolPost (x.ars.all (mayE nameB)) W') := fun W' hW' => by
    rw [gx]
    exact allE_any 42 (enters_of Tryz.func42 (by kernel_rfl) rfl) (mayE nameB) w0 x.ars gA gxA gc W' hW' (by omega) (fun i y B hy hye C W2 hW2 => may_any w0 y B hye (by have := cnt_mem hy; omega) C W2 hW2)
  generalize bareX x = t0 at hb149 ⊢
  generalize mayE nameB x.e = te at h42e ⊢
  generalize mayE nameB x.a = ta at h42a ⊢
  generalize nameB x.nm = tn at h62 ⊢
  generalize x.ns.all nameB = t1 at h67 ⊢
  generalize x.ars.all (mayE nameB) = t2 at h95 ⊢
  generalize maySs x.bd = t3 at hbd ⊢
  generalize maySs x.el = t4 at hel ⊢
  clear hmay hcx0 l1 l3 hk kx mx nx nxA ex1 ex2 ex3 ex4 exA exu ax1 ax2 ax3 ax4 axA axu gx gxA lx hx' bx elx
  obtain ⟨W1, hW1⟩ : ∃ W1, W.alloc (.cells #[.int .i64 1, .string nm, .slice nA nn nc, .int .i64 eo, .int .u64 eu, .string en, .slice eA ek ec, .int .i64 ao, .int .u64 au, .string an, .slice aA ak ac, .slice gA gn gc, .int .u64 lo, .int .u64 hi, .slice bA bn bc, .slice lA ln lc] 50) = W1 := ⟨_, rfl⟩
  have hb1 : Below W.heap.size W W1 := by rw [← hW1]; exact (Below.refl _ W).alloc (Nat.le_refl _) _
  have hX : W1.heap[W.heap.size]? = some (.cells #[.int .i64 1, .string nm, .slice nA nn nc, .int .i64 eo, .int .u64 eu, .string en, .slice eA ek ec, .int .i64 ao, .int .u64 au, .string an, .slice aA ak ac, .slice gA gn gc, .int .u64 lo, .int .u64 hi, .slice bA bn bc, .slice lA ln lc] 50 (0, 0)) := by rw [← hW1]; exact heap_alloc_new _ _
  have up : ∀ W', Below W1.heap.size W1 W' → Below w0.heap.size w0 W' := fun W' h => hW.trans ((Below.next hb1 h).mono hW.size)
  have hb149 := Lib.hid fun W' (h : Below W1.heap.size W1 W') => hb149 W'
  have h62 := Lib.hid fun W' (h : Below W1.heap.size W1 W') => h62 W'
  have h42e := Lib.hid fun W' (h : Below W1.heap.size W1 W') => h42e W' (up W' h)
  have h42a := Lib.hid fun W' (h : Below W1.heap.size W1 W') => h42a W' (up W' h)
  have h67 := Lib.hid fun W' (h : Below W1.heap.size W1 W') => h67 W' (up W' h)
  have h95 := Lib.hid fun W' (h : Below W1.heap.size W1 W') => h95 W' (up W' h)
  have hbd := Lib.hid fun W' (h : Below W1.heap.size W1 W') => hbd W' (up W' h)
  have hel := Lib.hid fun W' (h : Below W1.heap.size W1 W') => hel W' (up W' h)
  obtain ⟨p0, p1, p2, p3, p4, p5, p6, p7, p8, p9, p10, p11, p12, p13, p14, p15⟩ := box16 hX
  have hbw := Lib.hid (Below.refl W1.heap.size W1)
  have hX := Lib.hid hX
  have hb1 := Lib.hid hb1
  have hW1' := Lib.hid hW1
  clear up hW hW1
  go_enter Tryz.func115, Tryz.ntmps115
  go_wp2_with fail
  rw [hW1'.out]
  go_wp2_with fail
  refine (hb149.out _ hbw.out).mono ?_
  rintro e w3 ⟨rfl, hbn⟩
  have hbw := Lib.hid (Below.next hbw.out hbn)
  clear hbn p0 p1 p2 p3 p4 p5 p6 p7 p8 p9 p10 p11 p12 p13 p14 p15
  obtain ⟨p0, p1, p2, p3, p4, p5, p6, p7, p8, p9, p10, p11, p12, p13, p14, p15⟩ := box16 ((hbw.out.block _ (blk_lt hX.out)).trans hX.out)
  cases t0
  · as_aux_lemma =>
      go_wp2
      go_ret
      exact ⟨rfl, Below.next hb1.out hbw.out⟩
  · skip
    go_wp2_with fail
    refine (h42e.out _ hbw.out).mono ?_
    rintro e w4 ⟨rfl, hbn⟩
    have hbw := Lib.hid (Below.next hbw.out hbn)
    clear hbn p0 p1 p2 p3 p4 p5 p6 p7 p8 p9 p10 p11 p12 p13 p14 p15
    obtain ⟨p0, p1, p2, p3, p4, p5, p6, p7, p8, p9, p10, p11, p12, p13, p14, p15⟩ := box16 ((hbw.out.block _ (blk_lt hX.out)).trans hX.out)
    cases te
    · as_aux_lemma =>
        go_wp2
        go_ret
        exact ⟨rfl, Below.next hb1.out hbw.out⟩
    · skip
      go_wp2_with fail
      refine (h62.out _ hbw.out).mono ?_
      rintro e w5 ⟨rfl, hbn⟩
      have hbw := Lib.hid (Below.next hbw.out hbn)
      clear hbn p0 p1 p2 p3 p4 p5 p6 p7 p8 p9 p10 p11 p12 p13 p14 p15
      obtain ⟨p0, p1, p2, p3, p4, p5, p6, p7, p8, p9, p10, p11, p12, p13, p14, p15⟩ := box16 ((hbw.out.block _ (blk_lt hX.out)).trans hX.out)
      cases tn
      · as_aux_lemma =>
          go_wp2
          go_ret
          exact ⟨rfl, Below.next hb1.out hbw.out⟩
      · skip
        go_wp2_with fail
        refine (h67.out _ hbw.out).mono ?_
        rintro e w6 ⟨rfl, hbn⟩
        have hbw := Lib.hid (Below.next hbw.out hbn)
        clear hbn p0 p1 p2 p3 p4 p5 p6 p7 p8 p9 p10 p11 p12 p13 p14 p15
        obtain ⟨p0, p1, p2, p3, p4, p5, p6, p7, p8, p9, p10, p11, p12, p13, p14, p15⟩ := box16 ((hbw.out.block _ (blk_lt hX.out)).trans hX.out)
        cases t1
        · as_aux_lemma =>
            go_wp2
            go_ret
            exact ⟨rfl, Below.next hb1.out hbw.out⟩
        · skip
          go_wp2_with fail
          refine (h95.out _ hbw.out).mono ?_
          rintro e w7 ⟨rfl, hbn⟩
          have hbw := Lib.hid (Below.next hbw.out hbn)
          clear hbn p0 p1 p2 p3 p4 p5 p6 p7 p8 p9 p10 p11 p12 p13 p14 p15
          obtain ⟨p0, p1, p2, p3, p4, p5, p6, p7, p8, p9, p10, p11, p12, p13, p14, p15⟩ := box16 ((hbw.out.block _ (blk_lt hX.out)).trans hX.out)
          cases t2
          · as_aux_lemma =>
              go_wp2
              go_ret
              exact ⟨rfl, Below.next hb1.out hbw.out⟩
          · skip
            go_wp2_with fail
            refine (hbd.out _ hbw.out).mono ?_
            rintro e w8 ⟨rfl, hbn⟩
            have hbw := Lib.hid (Below.next hbw.out hbn)
            clear hbn p0 p1 p2 p3 p4 p5 p6 p7 p8 p9 p10 p11 p12 p13 p14 p15
            obtain ⟨p0, p1, p2, p3, p4, p5, p6, p7, p8, p9, p10, p11, p12, p13, p14, p15⟩ := box16 ((hbw.out.block _ (blk_lt hX.out)).trans hX.out)
            cases t3
            · as_aux_lemma =>
                go_wp2
                go_ret
                exact ⟨rfl, Below.next hb1.out hbw.out⟩
            · skip
              go_wp2_with fail
              refine (hel.out _ hbw.out).mono ?_
              rintro e w9 ⟨rfl, hbn⟩
              have hbw := Lib.hid (Below.next hbw.out hbn)
              clear hbn p0 p1 p2 p3 p4 p5 p6 p7 p8 p9 p10 p11 p12 p13 p14 p15
              cases t4
              · as_aux_lemma =>
                  go_wp2
                  go_ret
                  exact ⟨rfl, Below.next hb1.out hbw.out⟩
              · go_wp2
                go_ret
                exact ⟨rfl, Below.next hb1.out hbw.out⟩

set_option maxRecDepth 100000 in
set_option maxHeartbeats 16000000 in
theorem mayStmt2_any (w0 : World) (x : St) (r : StC) (hx : SNow w0 x r) (hk : x.kd = 2) (W : World) (hW : Below w0.heap.size w0 W) (hcx : cntS x ≤ 30000)
    (hbd : ∀ (W' : World), Below w0.heap.size w0 W' → Calls Tryz.prog 114 #[.slice r.bd.a x.bd.length r.bd.c, .func (.func 115) #[] #[]] W' (BoolPost (maySs x.bd) W'))
    (hel : ∀ (W' : World), Below w0.heap.size w0 W' → Calls Tryz.prog 114 #[.slice r.el.a x.el.length r.el.c, .func (.func 115) #[] #[]] W' (BoolPost (maySs x.el) W')) :
    Calls Tryz.prog 115 #[vlT r] W (BoolPost (mayS x) W) := by
  have hcx0 := cntS_bd x
  have l1 := len_cntN x.ns
  have l3 := len_cnt x.ars
  have hmay : mayS x = (bareX x && (mayE nameB x.e && (mayE nameB x.a && (nameB x.nm && (x.ns.all nameB && (x.ars.all (mayE nameB) && (maySs x.bd && maySs x.el))))))) := by
    rw [mayS_eq]
    unfold mayH usesE usesN kindOk
    simp only [hk]
    simp [Bool.and_assoc]
  rw [hmay]
  have hkr : r.kd = 2 := hx.kd.trans hk
  have hb149 : ∀ W' : World, Calls Tryz.prog 149 #[vlT r] W' (BoolPost (bareX x) W') := fun W' => by
    rw [← bareR_of hx (by rw [hk]; rfl)]
    have e1 : r.e.ar.n ≤ 1000000 := by
      have h1 := hx.e.2.2.2.1
      have h2 := len_cnt x.e.ars
      have h3 : cntL x.e.ars ≤ cntE x.e := by cases x.e; rw [cntE]; simp only [Ex.ars]; omega
      omega
    have e2 : r.a.ar.n ≤ 1000000 := by
      have h1 := hx.a.2.2.2.1
      have h2 := len_cnt x.a.ars
      have h3 : cntL x.a.ars ≤ cntE x.a := by cases x.a; rw [cntE]; simp only [Ex.ars]; omega
      omega
    refine bare_any r (namedC r) W' (fun W2 => named2_any r hkr W2) e1 e2 ?_ ?_
    all_goals
      unfold namedC
      simp [hkr, ec0, sl0]
      try assumption
  obtain ⟨kd, nm, ⟨nA, nn, nc⟩, ⟨eo, eu, en, ⟨eA, ek, ec⟩⟩, ⟨ao, au, an, ⟨aA, ak, ac⟩⟩, ⟨gA, gn, gc⟩, lo, hi, ⟨bA, bn, bc⟩, ⟨lA, ln, lc⟩⟩ := r
  obtain ⟨kx, mx, nx, nxA, ⟨ex1, ex2, ex3, ex4, exA, exu⟩, ⟨ax1, ax2, ax3, ax4, axA, axu⟩, gx, gxA, lx, hx', _, _, bx, elx⟩ := hx
  dsimp only at kx mx nx nxA ex1 ex2 ex3 ex4 exA ax1 ax2 ax3 ax4 axA gx gxA lx hx' bx elx hbd hel hkr
  rw [← bx] at hbd
  rw [← elx] at hel
  subst hkr
  unfold vlT at hb149 ⊢
  dsimp only at hb149 ⊢
  have h62 : ∀ (W' : World), Calls Tryz.prog 62 #[.string nm] W' (BoolPost (nameB x.nm) W') := fun W' => by
    rw [mx]
    exact name_any x.nm W' (by omega)
  have h42e : ∀ (W' : World), Below w0.heap.size w0 W' → Calls Tryz.prog 42 #[.agg #[.int .i64 eo, .int .u64 eu, .string en, .slice eA ek ec]] W' (BoolPost (mayE nameB x.e) W') := fun W' hW' => by
    rw [ex1, ex2, ex3, ex4]
    exact may_any w0 x.e eA exA (by omega) ec W' hW'
  have h42a : ∀ (W' : World), Below w0.heap.size w0 W' → Calls Tryz.prog 42 #[.agg #[.int .i64 ao, .int .u64 au, .string an, .slice aA ak ac]] W' (BoolPost (mayE nameB x.a) W') := fun W' hW' => by
    rw [ax1, ax2, ax3, ax4]
    exact may_any w0 x.a aA axA (by omega) ac W' hW'
  have h67 : ∀ (W' : World), Below w0.heap.size w0 W' → Calls Tryz.prog 67 #[.slice nA nn nc, .func (.func 62) #[] #[]] W' (BoolPost (x.ns.all nameB) W') := fun W' hW' => by
    rw [nx]
    exact allS_any 62 (enters_of Tryz.func62 (by kernel_rfl) rfl) nameB w0 x.ns nA nxA nc W' hW' (by omega) (fun i s hs W2 _ => name_any s W2 (by
      have h := cntN_take i hs
      have h2 : ∀ (L : List ByteArray) (k : Nat), cntN (L.take k) ≤ cntN L := fun L => by
        induction L with
        | nil => intro k; simp [cntN]
        | cons s r ih => intro k; cases k with
          | zero => simp [cntN]
          | succ k => rw [List.take_succ_cons, cntN, cntN]; have := ih k; omega
      have h3 := h2 x.ns (i + 1)
      omega))
  have h95 : ∀ (W' : World), Below w0.heap.size w0 W' → Calls Tryz.prog 95 #[.slice gA gn gc, .func (.func 42) #[] #[]] W' (BoolPost (x.ars.all (mayE nameB)) W') := fun W' hW' => by
    rw [gx]
    exact allE_any 42 (enters_of Tryz.func42 (by kernel_rfl) rfl) (mayE nameB) w0 x.ars gA gxA gc W' hW' (by omega) (fun i y B hy hye C W2 hW2 => may_any w0 y B hye (by have := cnt_mem hy; omega) C W2 hW2)
  generalize bareX x = t0 at hb149 ⊢
  generalize mayE nameB x.e = te at h42e ⊢
  generalize mayE nameB x.a = ta at h42a ⊢
  generalize nameB x.nm = tn at h62 ⊢
  generalize x.ns.all nameB = t1 at h67 ⊢
  generalize x.ars.all (mayE nameB) = t2 at h95 ⊢
  generalize maySs x.bd = t3 at hbd ⊢
  generalize maySs x.el = t4 at hel ⊢
  clear hmay hcx0 l1 l3 hk kx mx nx nxA ex1 ex2 ex3 ex4 exA exu ax1 ax2 ax3 ax4 axA axu gx gxA lx hx' bx elx
  obtain ⟨W1, hW1⟩ : ∃ W1, W.alloc (.cells #[.int .i64 2, .string nm, .slice nA nn nc, .int .i64 eo, .int .u64 eu, .string en, .slice eA ek ec, .int .i64 ao, .int .u64 au, .string an, .slice aA ak ac, .slice gA gn gc, .int .u64 lo, .int .u64 hi, .slice bA bn bc, .slice lA ln lc] 50) = W1 := ⟨_, rfl⟩
  have hb1 : Below W.heap.size W W1 := by rw [← hW1]; exact (Below.refl _ W).alloc (Nat.le_refl _) _
  have hX : W1.heap[W.heap.size]? = some (.cells #[.int .i64 2, .string nm, .slice nA nn nc, .int .i64 eo, .int .u64 eu, .string en, .slice eA ek ec, .int .i64 ao, .int .u64 au, .string an, .slice aA ak ac, .slice gA gn gc, .int .u64 lo, .int .u64 hi, .slice bA bn bc, .slice lA ln lc] 50 (0, 0)) := by rw [← hW1]; exact heap_alloc_new _ _
  have up : ∀ W', Below W1.heap.size W1 W' → Below w0.heap.size w0 W' := fun W' h => hW.trans ((Below.next hb1 h).mono hW.size)
  have hb149 := Lib.hid fun W' (h : Below W1.heap.size W1 W') => hb149 W'
  have h62 := Lib.hid fun W' (h : Below W1.heap.size W1 W') => h62 W'
  have h42e := Lib.hid fun W' (h : Below W1.heap.size W1 W') => h42e W' (up W' h)
  have h42a := Lib.hid fun W' (h : Below W1.heap.size W1 W') => h42a W' (up W' h)
  have h67 := Lib.hid fun W' (h : Below W1.heap.size W1 W') => h67 W' (up W' h)
  have h95 := Lib.hid fun W' (h : Below W1.heap.size W1 W') => h95 W' (up W' h)
  have hbd := Lib.hid fun W' (h : Below W1.heap.size W1 W') => hbd W' (up W' h)
  have hel := Lib.hid fun W' (h : Below W1.heap.size W1 W') => hel W' (up W' h)
  obtain ⟨p0, p1, p2, p3, p4, p5, p6, p7, p8, p9, p10, p11, p12, p13, p14, p15⟩ := box16 hX
  have hbw := Lib.hid (Below.refl W1.heap.size W1)
  have hX := Lib.hid hX
  have hb1 := Lib.hid hb1
  have hW1' := Lib.hid hW1
  clear up hW hW1
  go_enter Tryz.func115, Tryz.ntmps115
  go_wp2_with fail
  rw [hW1'.out]
  go_wp2_with fail
  refine (hb149.out _ hbw.out).mono ?_
  rintro e w3 ⟨rfl, hbn⟩
  have hbw := Lib.hid (Below.next hbw.out hbn)
  clear hbn p0 p1 p2 p3 p4 p5 p6 p7 p8 p9 p10 p11 p12 p13 p14 p15
  obtain ⟨p0, p1, p2, p3, p4, p5, p6, p7, p8, p9, p10, p11, p12, p13, p14, p15⟩ := box16 ((hbw.out.block _ (blk_lt hX.out)).trans hX.out)
  cases t0
  · as_aux_lemma =>
      go_wp2
      go_ret
      exact ⟨rfl, Below.next hb1.out hbw.out⟩
  · skip
    go_wp2_with fail
    refine (h42e.out _ hbw.out).mono ?_
    rintro e w4 ⟨rfl, hbn⟩
    have hbw := Lib.hid (Below.next hbw.out hbn)
    clear hbn p0 p1 p2 p3 p4 p5 p6 p7 p8 p9 p10 p11 p12 p13 p14 p15
    obtain ⟨p0, p1, p2, p3, p4, p5, p6, p7, p8, p9, p10, p11, p12, p13, p14, p15⟩ := box16 ((hbw.out.block _ (blk_lt hX.out)).trans hX.out)
    cases te
    · as_aux_lemma =>
        go_wp2
        go_ret
        exact ⟨rfl, Below.next hb1.out hbw.out⟩
    · skip
      go_wp2_with fail
      refine (h42a.out _ hbw.out).mono ?_
      rintro e w5 ⟨rfl, hbn⟩
      have hbw := Lib.hid (Below.next hbw.out hbn)
      clear hbn p0 p1 p2 p3 p4 p5 p6 p7 p8 p9 p10 p11 p12 p13 p14 p15
      obtain ⟨p0, p1, p2, p3, p4, p5, p6, p7, p8, p9, p10, p11, p12, p13, p14, p15⟩ := box16 ((hbw.out.block _ (blk_lt hX.out)).trans hX.out)
      cases ta
      · as_aux_lemma =>
          go_wp2
          go_ret
          exact ⟨rfl, Below.next hb1.out hbw.out⟩
      · skip
        go_wp2_with fail
        refine (h62.out _ hbw.out).mono ?_
        rintro e w6 ⟨rfl, hbn⟩
        have hbw := Lib.hid (Below.next hbw.out hbn)
        clear hbn p0 p1 p2 p3 p4 p5 p6 p7 p8 p9 p10 p11 p12 p13 p14 p15
        obtain ⟨p0, p1, p2, p3, p4, p5, p6, p7, p8, p9, p10, p11, p12, p13, p14, p15⟩ := box16 ((hbw.out.block _ (blk_lt hX.out)).trans hX.out)
        cases tn
        · as_aux_lemma =>
            go_wp2
            go_ret
            exact ⟨rfl, Below.next hb1.out hbw.out⟩
        · skip
          go_wp2_with fail
          refine (h67.out _ hbw.out).mono ?_
          rintro e w7 ⟨rfl, hbn⟩
          have hbw := Lib.hid (Below.next hbw.out hbn)
          clear hbn p0 p1 p2 p3 p4 p5 p6 p7 p8 p9 p10 p11 p12 p13 p14 p15
          obtain ⟨p0, p1, p2, p3, p4, p5, p6, p7, p8, p9, p10, p11, p12, p13, p14, p15⟩ := box16 ((hbw.out.block _ (blk_lt hX.out)).trans hX.out)
          cases t1
          · as_aux_lemma =>
              go_wp2
              go_ret
              exact ⟨rfl, Below.next hb1.out hbw.out⟩
          · skip
            go_wp2_with fail
            refine (h95.out _ hbw.out).mono ?_
            rintro e w8 ⟨rfl, hbn⟩
            have hbw := Lib.hid (Below.next hbw.out hbn)
            clear hbn p0 p1 p2 p3 p4 p5 p6 p7 p8 p9 p10 p11 p12 p13 p14 p15
            obtain ⟨p0, p1, p2, p3, p4, p5, p6, p7, p8, p9, p10, p11, p12, p13, p14, p15⟩ := box16 ((hbw.out.block _ (blk_lt hX.out)).trans hX.out)
            cases t2
            · as_aux_lemma =>
                go_wp2
                go_ret
                exact ⟨rfl, Below.next hb1.out hbw.out⟩
            · skip
              go_wp2_with fail
              refine (hbd.out _ hbw.out).mono ?_
              rintro e w9 ⟨rfl, hbn⟩
              have hbw := Lib.hid (Below.next hbw.out hbn)
              clear hbn p0 p1 p2 p3 p4 p5 p6 p7 p8 p9 p10 p11 p12 p13 p14 p15
              obtain ⟨p0, p1, p2, p3, p4, p5, p6, p7, p8, p9, p10, p11, p12, p13, p14, p15⟩ := box16 ((hbw.out.block _ (blk_lt hX.out)).trans hX.out)
              cases t3
              · as_aux_lemma =>
                  go_wp2
                  go_ret
                  exact ⟨rfl, Below.next hb1.out hbw.out⟩
              · skip
                go_wp2_with fail
                refine (hel.out _ hbw.out).mono ?_
                rintro e w10 ⟨rfl, hbn⟩
                have hbw := Lib.hid (Below.next hbw.out hbn)
                clear hbn p0 p1 p2 p3 p4 p5 p6 p7 p8 p9 p10 p11 p12 p13 p14 p15
                cases t4
                · as_aux_lemma =>
                    go_wp2
                    go_ret
                    exact ⟨rfl, Below.next hb1.out hbw.out⟩
                · go_wp2
                  go_ret
                  exact ⟨rfl, Below.next hb1.out hbw.out⟩

set_option maxRecDepth 100000 in
set_option maxHeartbeats 16000000 in
theorem mayStmt3_any (w0 : World) (x : St) (r : StC) (hx : SNow w0 x r) (hk : x.kd = 3) (W : World) (hW : Below w0.heap.size w0 W) (hcx : cntS x ≤ 30000)
    (hbd : ∀ (W' : World), Below w0.heap.size w0 W' → Calls Tryz.prog 114 #[.slice r.bd.a x.bd.length r.bd.c, .func (.func 115) #[] #[]] W' (BoolPost (maySs x.bd) W'))
    (hel : ∀ (W' : World), Below w0.heap.size w0 W' → Calls Tryz.prog 114 #[.slice r.el.a x.el.length r.el.c, .func (.func 115) #[] #[]] W' (BoolPost (maySs x.el) W')) :
    Calls Tryz.prog 115 #[vlT r] W (BoolPost (mayS x) W) := by
  have hcx0 := cntS_bd x
  have l1 := len_cntN x.ns
  have l3 := len_cnt x.ars
  have hmay : mayS x = (bareX x && (mayE nameB x.e && (x.ns.all nameB && (x.ars.all (mayE nameB) && (maySs x.bd && maySs x.el))))) := by
    rw [mayS_eq]
    unfold mayH usesE usesN kindOk
    simp only [hk]
    simp [Bool.and_assoc]
  rw [hmay]
  have hkr : r.kd = 3 := hx.kd.trans hk
  have hb149 : ∀ W' : World, Calls Tryz.prog 149 #[vlT r] W' (BoolPost (bareX x) W') := fun W' => by
    rw [← bareR_of hx (by rw [hk]; rfl)]
    have e1 : r.e.ar.n ≤ 1000000 := by
      have h1 := hx.e.2.2.2.1
      have h2 := len_cnt x.e.ars
      have h3 : cntL x.e.ars ≤ cntE x.e := by cases x.e; rw [cntE]; simp only [Ex.ars]; omega
      omega
    have e2 : r.a.ar.n ≤ 1000000 := by
      have h1 := hx.a.2.2.2.1
      have h2 := len_cnt x.a.ars
      have h3 : cntL x.a.ars ≤ cntE x.a := by cases x.a; rw [cntE]; simp only [Ex.ars]; omega
      omega
    refine bare_any r (namedC r) W' (fun W2 => named3_any r hkr W2) e1 e2 ?_ ?_
    all_goals
      unfold namedC
      simp [hkr, ec0, sl0]
      try assumption
  obtain ⟨kd, nm, ⟨nA, nn, nc⟩, ⟨eo, eu, en, ⟨eA, ek, ec⟩⟩, ⟨ao, au, an, ⟨aA, ak, ac⟩⟩, ⟨gA, gn, gc⟩, lo, hi, ⟨bA, bn, bc⟩, ⟨lA, ln, lc⟩⟩ := r
  obtain ⟨kx, mx, nx, nxA, ⟨ex1, ex2, ex3, ex4, exA, exu⟩, ⟨ax1, ax2, ax3, ax4, axA, axu⟩, gx, gxA, lx, hx', _, _, bx, elx⟩ := hx
  dsimp only at kx mx nx nxA ex1 ex2 ex3 ex4 exA ax1 ax2 ax3 ax4 axA gx gxA lx hx' bx elx hbd hel hkr
  rw [← bx] at hbd
  rw [← elx] at hel
  subst hkr
  unfold vlT at hb149 ⊢
  dsimp only at hb149 ⊢
  have h62 : ∀ (W' : World), Calls Tryz.prog 62 #[.string nm] W' (BoolPost (nameB x.nm) W') := fun W' => by
    rw [mx]
    exact name_any x.nm W' (by omega)
  have h42e : ∀ (W' : World), Below w0.heap.size w0 W' → Calls Tryz.prog 42 #[.agg #[.int .i64 eo, .int .u64 eu, .string en, .slice eA ek ec]] W' (BoolPost (mayE nameB x.e) W') := fun W' hW' => by
    rw [ex1, ex2, ex3, ex4]
    exact may_any w0 x.e eA exA (by omega) ec W' hW'
  have h42a : ∀ (W' : World), Below w0.heap.size w0 W' → Calls Tryz.prog 42 #[.agg #[.int .i64 ao, .int .u64 au, .string an, .slice aA ak ac]] W' (BoolPost (mayE nameB x.a) W') := fun W' hW' => by
    rw [ax1, ax2, ax3, ax4]
    exact may_any w0 x.a aA axA (by omega) ac W' hW'
  have h67 : ∀ (W' : World), Below w0.heap.size w0 W' → Calls Tryz.prog 67 #[.slice nA nn nc, .func (.func 62) #[] #[]] W' (BoolPost (x.ns.all nameB) W') := fun W' hW' => by
    rw [nx]
    exact allS_any 62 (enters_of Tryz.func62 (by kernel_rfl) rfl) nameB w0 x.ns nA nxA nc W' hW' (by omega) (fun i s hs W2 _ => name_any s W2 (by
      have h := cntN_take i hs
      have h2 : ∀ (L : List ByteArray) (k : Nat), cntN (L.take k) ≤ cntN L := fun L => by
        induction L with
        | nil => intro k; simp [cntN]
        | cons s r ih => intro k; cases k with
          | zero => simp [cntN]
          | succ k => rw [List.take_succ_cons, cntN, cntN]; have := ih k; omega
      have h3 := h2 x.ns (i + 1)
      omega))
  have h95 : ∀ (W' : World), Below w0.heap.size w0 W' → Calls Tryz.prog 95 #[.slice gA gn gc, .func (.func 42) #[] #[]] W' (BoolPost (x.ars.all (mayE nameB)) W') := fun W' hW' => by
    rw [gx]
    exact allE_any 42 (enters_of Tryz.func42 (by kernel_rfl) rfl) (mayE nameB) w0 x.ars gA gxA gc W' hW' (by omega) (fun i y B hy hye C W2 hW2 => may_any w0 y B hye (by have := cnt_mem hy; omega) C W2 hW2)
  generalize bareX x = t0 at hb149 ⊢
  generalize mayE nameB x.e = te at h42e ⊢
  generalize mayE nameB x.a = ta at h42a ⊢
  generalize nameB x.nm = tn at h62 ⊢
  generalize x.ns.all nameB = t1 at h67 ⊢
  generalize x.ars.all (mayE nameB) = t2 at h95 ⊢
  generalize maySs x.bd = t3 at hbd ⊢
  generalize maySs x.el = t4 at hel ⊢
  clear hmay hcx0 l1 l3 hk kx mx nx nxA ex1 ex2 ex3 ex4 exA exu ax1 ax2 ax3 ax4 axA axu gx gxA lx hx' bx elx
  obtain ⟨W1, hW1⟩ : ∃ W1, W.alloc (.cells #[.int .i64 3, .string nm, .slice nA nn nc, .int .i64 eo, .int .u64 eu, .string en, .slice eA ek ec, .int .i64 ao, .int .u64 au, .string an, .slice aA ak ac, .slice gA gn gc, .int .u64 lo, .int .u64 hi, .slice bA bn bc, .slice lA ln lc] 50) = W1 := ⟨_, rfl⟩
  have hb1 : Below W.heap.size W W1 := by rw [← hW1]; exact (Below.refl _ W).alloc (Nat.le_refl _) _
  have hX : W1.heap[W.heap.size]? = some (.cells #[.int .i64 3, .string nm, .slice nA nn nc, .int .i64 eo, .int .u64 eu, .string en, .slice eA ek ec, .int .i64 ao, .int .u64 au, .string an, .slice aA ak ac, .slice gA gn gc, .int .u64 lo, .int .u64 hi, .slice bA bn bc, .slice lA ln lc] 50 (0, 0)) := by rw [← hW1]; exact heap_alloc_new _ _
  have up : ∀ W', Below W1.heap.size W1 W' → Below w0.heap.size w0 W' := fun W' h => hW.trans ((Below.next hb1 h).mono hW.size)
  have hb149 := Lib.hid fun W' (h : Below W1.heap.size W1 W') => hb149 W'
  have h62 := Lib.hid fun W' (h : Below W1.heap.size W1 W') => h62 W'
  have h42e := Lib.hid fun W' (h : Below W1.heap.size W1 W') => h42e W' (up W' h)
  have h42a := Lib.hid fun W' (h : Below W1.heap.size W1 W') => h42a W' (up W' h)
  have h67 := Lib.hid fun W' (h : Below W1.heap.size W1 W') => h67 W' (up W' h)
  have h95 := Lib.hid fun W' (h : Below W1.heap.size W1 W') => h95 W' (up W' h)
  have hbd := Lib.hid fun W' (h : Below W1.heap.size W1 W') => hbd W' (up W' h)
  have hel := Lib.hid fun W' (h : Below W1.heap.size W1 W') => hel W' (up W' h)
  obtain ⟨p0, p1, p2, p3, p4, p5, p6, p7, p8, p9, p10, p11, p12, p13, p14, p15⟩ := box16 hX
  have hbw := Lib.hid (Below.refl W1.heap.size W1)
  have hX := Lib.hid hX
  have hb1 := Lib.hid hb1
  have hW1' := Lib.hid hW1
  clear up hW hW1
  go_enter Tryz.func115, Tryz.ntmps115
  go_wp2_with fail
  rw [hW1'.out]
  go_wp2_with fail
  refine (hb149.out _ hbw.out).mono ?_
  rintro e w3 ⟨rfl, hbn⟩
  have hbw := Lib.hid (Below.next hbw.out hbn)
  clear hbn p0 p1 p2 p3 p4 p5 p6 p7 p8 p9 p10 p11 p12 p13 p14 p15
  obtain ⟨p0, p1, p2, p3, p4, p5, p6, p7, p8, p9, p10, p11, p12, p13, p14, p15⟩ := box16 ((hbw.out.block _ (blk_lt hX.out)).trans hX.out)
  cases t0
  · as_aux_lemma =>
      go_wp2
      go_ret
      exact ⟨rfl, Below.next hb1.out hbw.out⟩
  · skip
    go_wp2_with fail
    refine (h42e.out _ hbw.out).mono ?_
    rintro e w4 ⟨rfl, hbn⟩
    have hbw := Lib.hid (Below.next hbw.out hbn)
    clear hbn p0 p1 p2 p3 p4 p5 p6 p7 p8 p9 p10 p11 p12 p13 p14 p15
    obtain ⟨p0, p1, p2, p3, p4, p5, p6, p7, p8, p9, p10, p11, p12, p13, p14, p15⟩ := box16 ((hbw.out.block _ (blk_lt hX.out)).trans hX.out)
    cases te
    · as_aux_lemma =>
        go_wp2
        go_ret
        exact ⟨rfl, Below.next hb1.out hbw.out⟩
    · skip
      go_wp2_with fail
      refine (h67.out _ hbw.out).mono ?_
      rintro e w5 ⟨rfl, hbn⟩
      have hbw := Lib.hid (Below.next hbw.out hbn)
      clear hbn p0 p1 p2 p3 p4 p5 p6 p7 p8 p9 p10 p11 p12 p13 p14 p15
      obtain ⟨p0, p1, p2, p3, p4, p5, p6, p7, p8, p9, p10, p11, p12, p13, p14, p15⟩ := box16 ((hbw.out.block _ (blk_lt hX.out)).trans hX.out)
      cases t1
      · as_aux_lemma =>
          go_wp2
          go_ret
          exact ⟨rfl, Below.next hb1.out hbw.out⟩
      · skip
        go_wp2_with fail
        refine (h95.out _ hbw.out).mono ?_
        rintro e w6 ⟨rfl, hbn⟩
        have hbw := Lib.hid (Below.next hbw.out hbn)
        clear hbn p0 p1 p2 p3 p4 p5 p6 p7 p8 p9 p10 p11 p12 p13 p14 p15
        obtain ⟨p0, p1, p2, p3, p4, p5, p6, p7, p8, p9, p10, p11, p12, p13, p14, p15⟩ := box16 ((hbw.out.block _ (blk_lt hX.out)).trans hX.out)
        cases t2
        · as_aux_lemma =>
            go_wp2
            go_ret
            exact ⟨rfl, Below.next hb1.out hbw.out⟩
        · skip
          go_wp2_with fail
          refine (hbd.out _ hbw.out).mono ?_
          rintro e w7 ⟨rfl, hbn⟩
          have hbw := Lib.hid (Below.next hbw.out hbn)
          clear hbn p0 p1 p2 p3 p4 p5 p6 p7 p8 p9 p10 p11 p12 p13 p14 p15
          obtain ⟨p0, p1, p2, p3, p4, p5, p6, p7, p8, p9, p10, p11, p12, p13, p14, p15⟩ := box16 ((hbw.out.block _ (blk_lt hX.out)).trans hX.out)
          cases t3
          · as_aux_lemma =>
              go_wp2
              go_ret
              exact ⟨rfl, Below.next hb1.out hbw.out⟩
          · skip
            go_wp2_with fail
            refine (hel.out _ hbw.out).mono ?_
            rintro e w8 ⟨rfl, hbn⟩
            have hbw := Lib.hid (Below.next hbw.out hbn)
            clear hbn p0 p1 p2 p3 p4 p5 p6 p7 p8 p9 p10 p11 p12 p13 p14 p15
            cases t4
            · as_aux_lemma =>
                go_wp2
                go_ret
                exact ⟨rfl, Below.next hb1.out hbw.out⟩
            · go_wp2
              go_ret
              exact ⟨rfl, Below.next hb1.out hbw.out⟩

set_option maxRecDepth 100000 in
set_option maxHeartbeats 16000000 in
theorem mayStmt4_any (w0 : World) (x : St) (r : StC) (hx : SNow w0 x r) (hk : x.kd = 4) (W : World) (hW : Below w0.heap.size w0 W) (hcx : cntS x ≤ 30000)
    (hbd : ∀ (W' : World), Below w0.heap.size w0 W' → Calls Tryz.prog 114 #[.slice r.bd.a x.bd.length r.bd.c, .func (.func 115) #[] #[]] W' (BoolPost (maySs x.bd) W'))
    (hel : ∀ (W' : World), Below w0.heap.size w0 W' → Calls Tryz.prog 114 #[.slice r.el.a x.el.length r.el.c, .func (.func 115) #[] #[]] W' (BoolPost (maySs x.el) W')) :
    Calls Tryz.prog 115 #[vlT r] W (BoolPost (mayS x) W) := by
  have hcx0 := cntS_bd x
  have l1 := len_cntN x.ns
  have l3 := len_cnt x.ars
  have hmay : mayS x = (bareX x && (mayE nameB x.e && (x.ns.all nameB && (x.ars.all (mayE nameB) && (maySs x.bd && maySs x.el))))) := by
    rw [mayS_eq]
    unfold mayH usesE usesN kindOk
    simp only [hk]
    simp [Bool.and_assoc]
  rw [hmay]
  have hkr : r.kd = 4 := hx.kd.trans hk
  have hb149 : ∀ W' : World, Calls Tryz.prog 149 #[vlT r] W' (BoolPost (bareX x) W') := fun W' => by
    rw [← bareR_of hx (by rw [hk]; rfl)]
    have e1 : r.e.ar.n ≤ 1000000 := by
      have h1 := hx.e.2.2.2.1
      have h2 := len_cnt x.e.ars
      have h3 : cntL x.e.ars ≤ cntE x.e := by cases x.e; rw [cntE]; simp only [Ex.ars]; omega
      omega
    have e2 : r.a.ar.n ≤ 1000000 := by
      have h1 := hx.a.2.2.2.1
      have h2 := len_cnt x.a.ars
      have h3 : cntL x.a.ars ≤ cntE x.a := by cases x.a; rw [cntE]; simp only [Ex.ars]; omega
      omega
    refine bare_any r (namedC r) W' (fun W2 => named4_any r hkr W2) e1 e2 ?_ ?_
    all_goals
      unfold namedC
      simp [hkr, ec0, sl0]
      try assumption
  obtain ⟨kd, nm, ⟨nA, nn, nc⟩, ⟨eo, eu, en, ⟨eA, ek, ec⟩⟩, ⟨ao, au, an, ⟨aA, ak, ac⟩⟩, ⟨gA, gn, gc⟩, lo, hi, ⟨bA, bn, bc⟩, ⟨lA, ln, lc⟩⟩ := r
  obtain ⟨kx, mx, nx, nxA, ⟨ex1, ex2, ex3, ex4, exA, exu⟩, ⟨ax1, ax2, ax3, ax4, axA, axu⟩, gx, gxA, lx, hx', _, _, bx, elx⟩ := hx
  dsimp only at kx mx nx nxA ex1 ex2 ex3 ex4 exA ax1 ax2 ax3 ax4 axA gx gxA lx hx' bx elx hbd hel hkr
  rw [← bx] at hbd
  rw [← elx] at hel
  subst hkr
  unfold vlT at hb149 ⊢
  dsimp only at hb149 ⊢
  have h62 : ∀ (W' : World), Calls Tryz.prog 62 #[.string nm] W' (BoolPost (nameB x.nm) W') := fun W' => by
    rw [mx]
    exact name_any x.nm W' (by omega)
  have h42e : ∀ (W' : World), Below w0.heap.size w0 W' → Calls Tryz.prog 42 #[.agg #[.int .i64 eo, .int .u64 eu, .string en, .slice eA ek ec]] W' (BoolPost (mayE nameB x.e) W') := fun W' hW' => by
    rw [ex1, ex2, ex3, ex4]
    exact may_any w0 x.e eA exA (by omega) ec W' hW'
  have h42a : ∀ (W' : World), Below w0.heap.size w0 W' → Calls Tryz.prog 42 #[.agg #[.int .i64 ao, .int .u64 au, .string an, .slice aA ak ac]] W' (BoolPost (mayE nameB x.a) W') := fun W' hW' => by
    rw [ax1, ax2, ax3, ax4]
    exact may_any w0 x.a aA axA (by omega) ac W' hW'
  have h67 : ∀ (W' : World), Below w0.heap.size w0 W' → Calls Tryz.prog 67 #[.slice nA nn nc, .func (.func 62) #[] #[]] W' (BoolPost (x.ns.all nameB) W') := fun W' hW' => by
    rw [nx]
    exact allS_any 62 (enters_of Tryz.func62 (by kernel_rfl) rfl) nameB w0 x.ns nA nxA nc W' hW' (by omega) (fun i s hs W2 _ => name_any s W2 (by
      have h := cntN_take i hs
      have h2 : ∀ (L : List ByteArray) (k : Nat), cntN (L.take k) ≤ cntN L := fun L => by
        induction L with
        | nil => intro k; simp [cntN]
        | cons s r ih => intro k; cases k with
          | zero => simp [cntN]
          | succ k => rw [List.take_succ_cons, cntN, cntN]; have := ih k; omega
      have h3 := h2 x.ns (i + 1)
      omega))
  have h95 : ∀ (W' : World), Below w0.heap.size w0 W' → Calls Tryz.prog 95 #[.slice gA gn gc, .func (.func 42) #[] #[]] W' (BoolPost (x.ars.all (mayE nameB)) W') := fun W' hW' => by
    rw [gx]
    exact allE_any 42 (enters_of Tryz.func42 (by kernel_rfl) rfl) (mayE nameB) w0 x.ars gA gxA gc W' hW' (by omega) (fun i y B hy hye C W2 hW2 => may_any w0 y B hye (by have := cnt_mem hy; omega) C W2 hW2)
  generalize bareX x = t0 at hb149 ⊢
  generalize mayE nameB x.e = te at h42e ⊢
  generalize mayE nameB x.a = ta at h42a ⊢
  generalize nameB x.nm = tn at h62 ⊢
  generalize x.ns.all nameB = t1 at h67 ⊢
  generalize x.ars.all (mayE nameB) = t2 at h95 ⊢
  generalize maySs x.bd = t3 at hbd ⊢
  generalize maySs x.el = t4 at hel ⊢
  clear hmay hcx0 l1 l3 hk kx mx nx nxA ex1 ex2 ex3 ex4 exA exu ax1 ax2 ax3 ax4 axA axu gx gxA lx hx' bx elx
  obtain ⟨W1, hW1⟩ : ∃ W1, W.alloc (.cells #[.int .i64 4, .string nm, .slice nA nn nc, .int .i64 eo, .int .u64 eu, .string en, .slice eA ek ec, .int .i64 ao, .int .u64 au, .string an, .slice aA ak ac, .slice gA gn gc, .int .u64 lo, .int .u64 hi, .slice bA bn bc, .slice lA ln lc] 50) = W1 := ⟨_, rfl⟩
  have hb1 : Below W.heap.size W W1 := by rw [← hW1]; exact (Below.refl _ W).alloc (Nat.le_refl _) _
  have hX : W1.heap[W.heap.size]? = some (.cells #[.int .i64 4, .string nm, .slice nA nn nc, .int .i64 eo, .int .u64 eu, .string en, .slice eA ek ec, .int .i64 ao, .int .u64 au, .string an, .slice aA ak ac, .slice gA gn gc, .int .u64 lo, .int .u64 hi, .slice bA bn bc, .slice lA ln lc] 50 (0, 0)) := by rw [← hW1]; exact heap_alloc_new _ _
  have up : ∀ W', Below W1.heap.size W1 W' → Below w0.heap.size w0 W' := fun W' h => hW.trans ((Below.next hb1 h).mono hW.size)
  have hb149 := Lib.hid fun W' (h : Below W1.heap.size W1 W') => hb149 W'
  have h62 := Lib.hid fun W' (h : Below W1.heap.size W1 W') => h62 W'
  have h42e := Lib.hid fun W' (h : Below W1.heap.size W1 W') => h42e W' (up W' h)
  have h42a := Lib.hid fun W' (h : Below W1.heap.size W1 W') => h42a W' (up W' h)
  have h67 := Lib.hid fun W' (h : Below W1.heap.size W1 W') => h67 W' (up W' h)
  have h95 := Lib.hid fun W' (h : Below W1.heap.size W1 W') => h95 W' (up W' h)
  have hbd := Lib.hid fun W' (h : Below W1.heap.size W1 W') => hbd W' (up W' h)
  have hel := Lib.hid fun W' (h : Below W1.heap.size W1 W') => hel W' (up W' h)
  obtain ⟨p0, p1, p2, p3, p4, p5, p6, p7, p8, p9, p10, p11, p12, p13, p14, p15⟩ := box16 hX
  have hbw := Lib.hid (Below.refl W1.heap.size W1)
  have hX := Lib.hid hX
  have hb1 := Lib.hid hb1
  have hW1' := Lib.hid hW1
  clear up hW hW1
  go_enter Tryz.func115, Tryz.ntmps115
  go_wp2_with fail
  rw [hW1'.out]
  go_wp2_with fail
  refine (hb149.out _ hbw.out).mono ?_
  rintro e w3 ⟨rfl, hbn⟩
  have hbw := Lib.hid (Below.next hbw.out hbn)
  clear hbn p0 p1 p2 p3 p4 p5 p6 p7 p8 p9 p10 p11 p12 p13 p14 p15
  obtain ⟨p0, p1, p2, p3, p4, p5, p6, p7, p8, p9, p10, p11, p12, p13, p14, p15⟩ := box16 ((hbw.out.block _ (blk_lt hX.out)).trans hX.out)
  cases t0
  · as_aux_lemma =>
      go_wp2
      go_ret
      exact ⟨rfl, Below.next hb1.out hbw.out⟩
  · skip
    go_wp2_with fail
    refine (h42e.out _ hbw.out).mono ?_
    rintro e w4 ⟨rfl, hbn⟩
    have hbw := Lib.hid (Below.next hbw.out hbn)
    clear hbn p0 p1 p2 p3 p4 p5 p6 p7 p8 p9 p10 p11 p12 p13 p14 p15
    obtain ⟨p0, p1, p2, p3, p4, p5, p6, p7, p8, p9, p10, p11, p12, p13, p14, p15⟩ := box16 ((hbw.out.block _ (blk_lt hX.out)).trans hX.out)
    cases te
    · as_aux_lemma =>
        go_wp2
        go_ret
        exact ⟨rfl, Below.next hb1.out hbw.out⟩
    · skip
      go_wp2_with fail
      refine (h67.out _ hbw.out).mono ?_
      rintro e w5 ⟨rfl, hbn⟩
      have hbw := Lib.hid (Below.next hbw.out hbn)
      clear hbn p0 p1 p2 p3 p4 p5 p6 p7 p8 p9 p10 p11 p12 p13 p14 p15
      obtain ⟨p0, p1, p2, p3, p4, p5, p6, p7, p8, p9, p10, p11, p12, p13, p14, p15⟩ := box16 ((hbw.out.block _ (blk_lt hX.out)).trans hX.out)
      cases t1
      · as_aux_lemma =>
          go_wp2
          go_ret
          exact ⟨rfl, Below.next hb1.out hbw.out⟩
      · skip
        go_wp2_with fail
        refine (h95.out _ hbw.out).mono ?_
        rintro e w6 ⟨rfl, hbn⟩
        have hbw := Lib.hid (Below.next hbw.out hbn)
        clear hbn p0 p1 p2 p3 p4 p5 p6 p7 p8 p9 p10 p11 p12 p13 p14 p15
        obtain ⟨p0, p1, p2, p3, p4, p5, p6, p7, p8, p9, p10, p11, p12, p13, p14, p15⟩ := box16 ((hbw.out.block _ (blk_lt hX.out)).trans hX.out)
        cases t2
        · as_aux_lemma =>
            go_wp2
            go_ret
            exact ⟨rfl, Below.next hb1.out hbw.out⟩
        · skip
          go_wp2_with fail
          refine (hbd.out _ hbw.out).mono ?_
          rintro e w7 ⟨rfl, hbn⟩
          have hbw := Lib.hid (Below.next hbw.out hbn)
          clear hbn p0 p1 p2 p3 p4 p5 p6 p7 p8 p9 p10 p11 p12 p13 p14 p15
          obtain ⟨p0, p1, p2, p3, p4, p5, p6, p7, p8, p9, p10, p11, p12, p13, p14, p15⟩ := box16 ((hbw.out.block _ (blk_lt hX.out)).trans hX.out)
          cases t3
          · as_aux_lemma =>
              go_wp2
              go_ret
              exact ⟨rfl, Below.next hb1.out hbw.out⟩
          · skip
            go_wp2_with fail
            refine (hel.out _ hbw.out).mono ?_
            rintro e w8 ⟨rfl, hbn⟩
            have hbw := Lib.hid (Below.next hbw.out hbn)
            clear hbn p0 p1 p2 p3 p4 p5 p6 p7 p8 p9 p10 p11 p12 p13 p14 p15
            cases t4
            · as_aux_lemma =>
                go_wp2
                go_ret
                exact ⟨rfl, Below.next hb1.out hbw.out⟩
            · go_wp2
              go_ret
              exact ⟨rfl, Below.next hb1.out hbw.out⟩

set_option maxRecDepth 100000 in
set_option maxHeartbeats 16000000 in
theorem mayStmt5_any (w0 : World) (x : St) (r : StC) (hx : SNow w0 x r) (hk : x.kd = 5) (W : World) (hW : Below w0.heap.size w0 W) (hcx : cntS x ≤ 30000)
    (hbd : ∀ (W' : World), Below w0.heap.size w0 W' → Calls Tryz.prog 114 #[.slice r.bd.a x.bd.length r.bd.c, .func (.func 115) #[] #[]] W' (BoolPost (maySs x.bd) W'))
    (hel : ∀ (W' : World), Below w0.heap.size w0 W' → Calls Tryz.prog 114 #[.slice r.el.a x.el.length r.el.c, .func (.func 115) #[] #[]] W' (BoolPost (maySs x.el) W')) :
    Calls Tryz.prog 115 #[vlT r] W (BoolPost (mayS x) W) := by
  have hcx0 := cntS_bd x
  have l1 := len_cntN x.ns
  have l3 := len_cnt x.ars
  have hmay : mayS x = (bareX x && (nameB x.nm && (x.ns.all nameB && (x.ars.all (mayE nameB) && (maySs x.bd && maySs x.el))))) := by
    rw [mayS_eq]
    unfold mayH usesE usesN kindOk
    simp only [hk]
    simp [Bool.and_assoc]
  rw [hmay]
  have hkr : r.kd = 5 := hx.kd.trans hk
  have hb149 : ∀ W' : World, Calls Tryz.prog 149 #[vlT r] W' (BoolPost (bareX x) W') := fun W' => by
    rw [← bareR_of hx (by rw [hk]; rfl)]
    have e1 : r.e.ar.n ≤ 1000000 := by
      have h1 := hx.e.2.2.2.1
      have h2 := len_cnt x.e.ars
      have h3 : cntL x.e.ars ≤ cntE x.e := by cases x.e; rw [cntE]; simp only [Ex.ars]; omega
      omega
    have e2 : r.a.ar.n ≤ 1000000 := by
      have h1 := hx.a.2.2.2.1
      have h2 := len_cnt x.a.ars
      have h3 : cntL x.a.ars ≤ cntE x.a := by cases x.a; rw [cntE]; simp only [Ex.ars]; omega
      omega
    refine bare_any r (namedC r) W' (fun W2 => named5_any r hkr W2) e1 e2 ?_ ?_
    all_goals
      unfold namedC
      simp [hkr, ec0, sl0]
      try assumption
  obtain ⟨kd, nm, ⟨nA, nn, nc⟩, ⟨eo, eu, en, ⟨eA, ek, ec⟩⟩, ⟨ao, au, an, ⟨aA, ak, ac⟩⟩, ⟨gA, gn, gc⟩, lo, hi, ⟨bA, bn, bc⟩, ⟨lA, ln, lc⟩⟩ := r
  obtain ⟨kx, mx, nx, nxA, ⟨ex1, ex2, ex3, ex4, exA, exu⟩, ⟨ax1, ax2, ax3, ax4, axA, axu⟩, gx, gxA, lx, hx', _, _, bx, elx⟩ := hx
  dsimp only at kx mx nx nxA ex1 ex2 ex3 ex4 exA ax1 ax2 ax3 ax4 axA gx gxA lx hx' bx elx hbd hel hkr
  rw [← bx] at hbd
  rw [← elx] at hel
  subst hkr
  unfold vlT at hb149 ⊢
  dsimp only at hb149 ⊢
  have h62 : ∀ (W' : World), Calls Tryz.prog 62 #[.string nm] W' (BoolPost (nameB x.nm) W') := fun W' => by
    rw [mx]
    exact name_any x.nm W' (by omega)
  have h42e : ∀ (W' : World), Below w0.heap.size w0 W' → Calls Tryz.prog 42 #[.agg #[.int .i64 eo, .int .u64 eu, .string en, .slice eA ek ec]] W' (BoolPost (mayE nameB x.e) W') := fun W' hW' => by
    rw [ex1, ex2, ex3, ex4]
    exact may_any w0 x.e eA exA (by omega) ec W' hW'
  have h42a : ∀ (W' : World), Below w0.heap.size w0 W' → Calls Tryz.prog 42 #[.agg #[.int .i64 ao, .int .u64 au, .string an, .slice aA ak ac]] W' (BoolPost (mayE nameB x.a) W') := fun W' hW' => by
    rw [ax1, ax2, ax3, ax4]
    exact may_any w0 x.a aA axA (by omega) ac W' hW'
  have h67 : ∀ (W' : World), Below w0.heap.size w0 W' → Calls Tryz.prog 67 #[.slice nA nn nc, .func (.func 62) #[] #[]] W' (BoolPost (x.ns.all nameB) W') := fun W' hW' => by
    rw [nx]
    exact allS_any 62 (enters_of Tryz.func62 (by kernel_rfl) rfl) nameB w0 x.ns nA nxA nc W' hW' (by omega) (fun i s hs W2 _ => name_any s W2 (by
      have h := cntN_take i hs
      have h2 : ∀ (L : List ByteArray) (k : Nat), cntN (L.take k) ≤ cntN L := fun L => by
        induction L with
        | nil => intro k; simp [cntN]
        | cons s r ih => intro k; cases k with
          | zero => simp [cntN]
          | succ k => rw [List.take_succ_cons, cntN, cntN]; have := ih k; omega
      have h3 := h2 x.ns (i + 1)
      omega))
  have h95 : ∀ (W' : World), Below w0.heap.size w0 W' → Calls Tryz.prog 95 #[.slice gA gn gc, .func (.func 42) #[] #[]] W' (BoolPost (x.ars.all (mayE nameB)) W') := fun W' hW' => by
    rw [gx]
    exact allE_any 42 (enters_of Tryz.func42 (by kernel_rfl) rfl) (mayE nameB) w0 x.ars gA gxA gc W' hW' (by omega) (fun i y B hy hye C W2 hW2 => may_any w0 y B hye (by have := cnt_mem hy; omega) C W2 hW2)
  generalize bareX x = t0 at hb149 ⊢
  generalize mayE nameB x.e = te at h42e ⊢
  generalize mayE nameB x.a = ta at h42a ⊢
  generalize nameB x.nm = tn at h62 ⊢
  generalize x.ns.all nameB = t1 at h67 ⊢
  generalize x.ars.all (mayE nameB) = t2 at h95 ⊢
  generalize maySs x.bd = t3 at hbd ⊢
  generalize maySs x.el = t4 at hel ⊢
  clear hmay hcx0 l1 l3 hk kx mx nx nxA ex1 ex2 ex3 ex4 exA exu ax1 ax2 ax3 ax4 axA axu gx gxA lx hx' bx elx
  obtain ⟨W1, hW1⟩ : ∃ W1, W.alloc (.cells #[.int .i64 5, .string nm, .slice nA nn nc, .int .i64 eo, .int .u64 eu, .string en, .slice eA ek ec, .int .i64 ao, .int .u64 au, .string an, .slice aA ak ac, .slice gA gn gc, .int .u64 lo, .int .u64 hi, .slice bA bn bc, .slice lA ln lc] 50) = W1 := ⟨_, rfl⟩
  have hb1 : Below W.heap.size W W1 := by rw [← hW1]; exact (Below.refl _ W).alloc (Nat.le_refl _) _
  have hX : W1.heap[W.heap.size]? = some (.cells #[.int .i64 5, .string nm, .slice nA nn nc, .int .i64 eo, .int .u64 eu, .string en, .slice eA ek ec, .int .i64 ao, .int .u64 au, .string an, .slice aA ak ac, .slice gA gn gc, .int .u64 lo, .int .u64 hi, .slice bA bn bc, .slice lA ln lc] 50 (0, 0)) := by rw [← hW1]; exact heap_alloc_new _ _
  have up : ∀ W', Below W1.heap.size W1 W' → Below w0.heap.size w0 W' := fun W' h => hW.trans ((Below.next hb1 h).mono hW.size)
  have hb149 := Lib.hid fun W' (h : Below W1.heap.size W1 W') => hb149 W'
  have h62 := Lib.hid fun W' (h : Below W1.heap.size W1 W') => h62 W'
  have h42e := Lib.hid fun W' (h : Below W1.heap.size W1 W') => h42e W' (up W' h)
  have h42a := Lib.hid fun W' (h : Below W1.heap.size W1 W') => h42a W' (up W' h)
  have h67 := Lib.hid fun W' (h : Below W1.heap.size W1 W') => h67 W' (up W' h)
  have h95 := Lib.hid fun W' (h : Below W1.heap.size W1 W') => h95 W' (up W' h)
  have hbd := Lib.hid fun W' (h : Below W1.heap.size W1 W') => hbd W' (up W' h)
  have hel := Lib.hid fun W' (h : Below W1.heap.size W1 W') => hel W' (up W' h)
  obtain ⟨p0, p1, p2, p3, p4, p5, p6, p7, p8, p9, p10, p11, p12, p13, p14, p15⟩ := box16 hX
  have hbw := Lib.hid (Below.refl W1.heap.size W1)
  have hX := Lib.hid hX
  have hb1 := Lib.hid hb1
  have hW1' := Lib.hid hW1
  clear up hW hW1
  go_enter Tryz.func115, Tryz.ntmps115
  go_wp2_with fail
  rw [hW1'.out]
  go_wp2_with fail
  refine (hb149.out _ hbw.out).mono ?_
  rintro e w3 ⟨rfl, hbn⟩
  have hbw := Lib.hid (Below.next hbw.out hbn)
  clear hbn p0 p1 p2 p3 p4 p5 p6 p7 p8 p9 p10 p11 p12 p13 p14 p15
  obtain ⟨p0, p1, p2, p3, p4, p5, p6, p7, p8, p9, p10, p11, p12, p13, p14, p15⟩ := box16 ((hbw.out.block _ (blk_lt hX.out)).trans hX.out)
  cases t0
  · as_aux_lemma =>
      go_wp2
      go_ret
      exact ⟨rfl, Below.next hb1.out hbw.out⟩
  · skip
    go_wp2_with fail
    refine (h62.out _ hbw.out).mono ?_
    rintro e w4 ⟨rfl, hbn⟩
    have hbw := Lib.hid (Below.next hbw.out hbn)
    clear hbn p0 p1 p2 p3 p4 p5 p6 p7 p8 p9 p10 p11 p12 p13 p14 p15
    obtain ⟨p0, p1, p2, p3, p4, p5, p6, p7, p8, p9, p10, p11, p12, p13, p14, p15⟩ := box16 ((hbw.out.block _ (blk_lt hX.out)).trans hX.out)
    cases tn
    · as_aux_lemma =>
        go_wp2
        go_ret
        exact ⟨rfl, Below.next hb1.out hbw.out⟩
    · skip
      go_wp2_with fail
      refine (h67.out _ hbw.out).mono ?_
      rintro e w5 ⟨rfl, hbn⟩
      have hbw := Lib.hid (Below.next hbw.out hbn)
      clear hbn p0 p1 p2 p3 p4 p5 p6 p7 p8 p9 p10 p11 p12 p13 p14 p15
      obtain ⟨p0, p1, p2, p3, p4, p5, p6, p7, p8, p9, p10, p11, p12, p13, p14, p15⟩ := box16 ((hbw.out.block _ (blk_lt hX.out)).trans hX.out)
      cases t1
      · as_aux_lemma =>
          go_wp2
          go_ret
          exact ⟨rfl, Below.next hb1.out hbw.out⟩
      · skip
        go_wp2_with fail
        refine (h95.out _ hbw.out).mono ?_
        rintro e w6 ⟨rfl, hbn⟩
        have hbw := Lib.hid (Below.next hbw.out hbn)
        clear hbn p0 p1 p2 p3 p4 p5 p6 p7 p8 p9 p10 p11 p12 p13 p14 p15
        obtain ⟨p0, p1, p2, p3, p4, p5, p6, p7, p8, p9, p10, p11, p12, p13, p14, p15⟩ := box16 ((hbw.out.block _ (blk_lt hX.out)).trans hX.out)
        cases t2
        · as_aux_lemma =>
            go_wp2
            go_ret
            exact ⟨rfl, Below.next hb1.out hbw.out⟩
        · skip
          go_wp2_with fail
          refine (hbd.out _ hbw.out).mono ?_
          rintro e w7 ⟨rfl, hbn⟩
          have hbw := Lib.hid (Below.next hbw.out hbn)
          clear hbn p0 p1 p2 p3 p4 p5 p6 p7 p8 p9 p10 p11 p12 p13 p14 p15
          obtain ⟨p0, p1, p2, p3, p4, p5, p6, p7, p8, p9, p10, p11, p12, p13, p14, p15⟩ := box16 ((hbw.out.block _ (blk_lt hX.out)).trans hX.out)
          cases t3
          · as_aux_lemma =>
              go_wp2
              go_ret
              exact ⟨rfl, Below.next hb1.out hbw.out⟩
          · skip
            go_wp2_with fail
            refine (hel.out _ hbw.out).mono ?_
            rintro e w8 ⟨rfl, hbn⟩
            have hbw := Lib.hid (Below.next hbw.out hbn)
            clear hbn p0 p1 p2 p3 p4 p5 p6 p7 p8 p9 p10 p11 p12 p13 p14 p15
            cases t4
            · as_aux_lemma =>
                go_wp2
                go_ret
                exact ⟨rfl, Below.next hb1.out hbw.out⟩
            · go_wp2
              go_ret
              exact ⟨rfl, Below.next hb1.out hbw.out⟩

set_option maxRecDepth 100000 in
set_option maxHeartbeats 16000000 in
theorem mayStmt6_any (w0 : World) (x : St) (r : StC) (hx : SNow w0 x r) (hk : x.kd = 6) (W : World) (hW : Below w0.heap.size w0 W) (hcx : cntS x ≤ 30000)
    (hbd : ∀ (W' : World), Below w0.heap.size w0 W' → Calls Tryz.prog 114 #[.slice r.bd.a x.bd.length r.bd.c, .func (.func 115) #[] #[]] W' (BoolPost (maySs x.bd) W'))
    (hel : ∀ (W' : World), Below w0.heap.size w0 W' → Calls Tryz.prog 114 #[.slice r.el.a x.el.length r.el.c, .func (.func 115) #[] #[]] W' (BoolPost (maySs x.el) W')) :
    Calls Tryz.prog 115 #[vlT r] W (BoolPost (mayS x) W) := by
  have hcx0 := cntS_bd x
  have l1 := len_cntN x.ns
  have l3 := len_cnt x.ars
  have hmay : mayS x = (bareX x && (nameB x.nm && (x.ns.all nameB && (x.ars.all (mayE nameB) && (maySs x.bd && maySs x.el))))) := by
    rw [mayS_eq]
    unfold mayH usesE usesN kindOk
    simp only [hk]
    simp [Bool.and_assoc]
  rw [hmay]
  have hkr : r.kd = 6 := hx.kd.trans hk
  have hb149 : ∀ W' : World, Calls Tryz.prog 149 #[vlT r] W' (BoolPost (bareX x) W') := fun W' => by
    rw [← bareR_of hx (by rw [hk]; rfl)]
    have e1 : r.e.ar.n ≤ 1000000 := by
      have h1 := hx.e.2.2.2.1
      have h2 := len_cnt x.e.ars
      have h3 : cntL x.e.ars ≤ cntE x.e := by cases x.e; rw [cntE]; simp only [Ex.ars]; omega
      omega
    have e2 : r.a.ar.n ≤ 1000000 := by
      have h1 := hx.a.2.2.2.1
      have h2 := len_cnt x.a.ars
      have h3 : cntL x.a.ars ≤ cntE x.a := by cases x.a; rw [cntE]; simp only [Ex.ars]; omega
      omega
    refine bare_any r (namedC r) W' (fun W2 => named6_any r hkr W2) e1 e2 ?_ ?_
    all_goals
      unfold namedC
      simp [hkr, ec0, sl0]
      try assumption
  obtain ⟨kd, nm, ⟨nA, nn, nc⟩, ⟨eo, eu, en, ⟨eA, ek, ec⟩⟩, ⟨ao, au, an, ⟨aA, ak, ac⟩⟩, ⟨gA, gn, gc⟩, lo, hi, ⟨bA, bn, bc⟩, ⟨lA, ln, lc⟩⟩ := r
  obtain ⟨kx, mx, nx, nxA, ⟨ex1, ex2, ex3, ex4, exA, exu⟩, ⟨ax1, ax2, ax3, ax4, axA, axu⟩, gx, gxA, lx, hx', _, _, bx, elx⟩ := hx
  dsimp only at kx mx nx nxA ex1 ex2 ex3 ex4 exA ax1 ax2 ax3 ax4 axA gx gxA lx hx' bx elx hbd hel hkr
  rw [← bx] at hbd
  rw [← elx] at hel
  subst hkr
  unfold vlT at hb149 ⊢
  dsimp only at hb149 ⊢
  have h62 : ∀ (W' : World), Calls Tryz.prog 62 #[.string nm] W' (BoolPost (nameB x.nm) W') := fun W' => by
    rw [mx]
    exact name_any x.nm W' (by omega)
  have h42e : ∀ (W' : World), Below w0.heap.size w0 W' → Calls Tryz.prog 42 #[.agg #[.int .i64 eo, .int .u64 eu, .string en, .slice eA ek ec]] W' (BoolPost (mayE nameB x.e) W') := fun W' hW' => by
    rw [ex1, ex2, ex3, ex4]
    exact may_any w0 x.e eA exA (by omega) ec W' hW'
  have h42a : ∀ (W' : World), Below w0.heap.size w0 W' → Calls Tryz.prog 42 #[.agg #[.int .i64 ao, .int .u64 au, .string an, .slice aA ak ac]] W' (BoolPost (mayE nameB x.a) W') := fun W' hW' => by
    rw [ax1, ax2, ax3, ax4]
    exact may_any w0 x.a aA axA (by omega) ac W' hW'
  have h67 : ∀ (W' : World), Below w0.heap.size w0 W' → Calls Tryz.prog 67 #[.slice nA nn nc, .func (.func 62) #[] #[]] W' (BoolPost (x.ns.all nameB) W') := fun W' hW' => by
    rw [nx]
    exact allS_any 62 (enters_of Tryz.func62 (by kernel_rfl) rfl) nameB w0 x.ns nA nxA nc W' hW' (by omega) (fun i s hs W2 _ => name_any s W2 (by
      have h := cntN_take i hs
      have h2 : ∀ (L : List ByteArray) (k : Nat), cntN (L.take k) ≤ cntN L := fun L => by
        induction L with
        | nil => intro k; simp [cntN]
        | cons s r ih => intro k; cases k with
          | zero => simp [cntN]
          | succ k => rw [List.take_succ_cons, cntN, cntN]; have := ih k; omega
      have h3 := h2 x.ns (i + 1)
      omega))
  have h95 : ∀ (W' : World), Below w0.heap.size w0 W' → Calls Tryz.prog 95 #[.slice gA gn gc, .func (.func 42) #[] #[]] W' (BoolPost (x.ars.all (mayE nameB)) W') := fun W' hW' => by
    rw [gx]
    exact allE_any 42 (enters_of Tryz.func42 (by kernel_rfl) rfl) (mayE nameB) w0 x.ars gA gxA gc W' hW' (by omega) (fun i y B hy hye C W2 hW2 => may_any w0 y B hye (by have := cnt_mem hy; omega) C W2 hW2)
  generalize bareX x = t0 at hb149 ⊢
  generalize mayE nameB x.e = te at h42e ⊢
  generalize mayE nameB x.a = ta at h42a ⊢
  generalize nameB x.nm = tn at h62 ⊢
  generalize x.ns.all nameB = t1 at h67 ⊢
  generalize x.ars.all (mayE nameB) = t2 at h95 ⊢
  generalize maySs x.bd = t3 at hbd ⊢
  generalize maySs x.el = t4 at hel ⊢
  clear hmay hcx0 l1 l3 hk kx mx nx nxA ex1 ex2 ex3 ex4 exA exu ax1 ax2 ax3 ax4 axA axu gx gxA lx hx' bx elx
  obtain ⟨W1, hW1⟩ : ∃ W1, W.alloc (.cells #[.int .i64 6, .string nm, .slice nA nn nc, .int .i64 eo, .int .u64 eu, .string en, .slice eA ek ec, .int .i64 ao, .int .u64 au, .string an, .slice aA ak ac, .slice gA gn gc, .int .u64 lo, .int .u64 hi, .slice bA bn bc, .slice lA ln lc] 50) = W1 := ⟨_, rfl⟩
  have hb1 : Below W.heap.size W W1 := by rw [← hW1]; exact (Below.refl _ W).alloc (Nat.le_refl _) _
  have hX : W1.heap[W.heap.size]? = some (.cells #[.int .i64 6, .string nm, .slice nA nn nc, .int .i64 eo, .int .u64 eu, .string en, .slice eA ek ec, .int .i64 ao, .int .u64 au, .string an, .slice aA ak ac, .slice gA gn gc, .int .u64 lo, .int .u64 hi, .slice bA bn bc, .slice lA ln lc] 50 (0, 0)) := by rw [← hW1]; exact heap_alloc_new _ _
  have up : ∀ W', Below W1.heap.size W1 W' → Below w0.heap.size w0 W' := fun W' h => hW.trans ((Below.next hb1 h).mono hW.size)
  have hb149 := Lib.hid fun W' (h : Below W1.heap.size W1 W') => hb149 W'
  have h62 := Lib.hid fun W' (h : Below W1.heap.size W1 W') => h62 W'
  have h42e := Lib.hid fun W' (h : Below W1.heap.size W1 W') => h42e W' (up W' h)
  have h42a := Lib.hid fun W' (h : Below W1.heap.size W1 W') => h42a W' (up W' h)
  have h67 := Lib.hid fun W' (h : Below W1.heap.size W1 W') => h67 W' (up W' h)
  have h95 := Lib.hid fun W' (h : Below W1.heap.size W1 W') => h95 W' (up W' h)
  have hbd := Lib.hid fun W' (h : Below W1.heap.size W1 W') => hbd W' (up W' h)
  have hel := Lib.hid fun W' (h : Below W1.heap.size W1 W') => hel W' (up W' h)
  obtain ⟨p0, p1, p2, p3, p4, p5, p6, p7, p8, p9, p10, p11, p12, p13, p14, p15⟩ := box16 hX
  have hbw := Lib.hid (Below.refl W1.heap.size W1)
  have hX := Lib.hid hX
  have hb1 := Lib.hid hb1
  have hW1' := Lib.hid hW1
  clear up hW hW1
  go_enter Tryz.func115, Tryz.ntmps115
  go_wp2_with fail
  rw [hW1'.out]
  go_wp2_with fail
  refine (hb149.out _ hbw.out).mono ?_
  rintro e w3 ⟨rfl, hbn⟩
  have hbw := Lib.hid (Below.next hbw.out hbn)
  clear hbn p0 p1 p2 p3 p4 p5 p6 p7 p8 p9 p10 p11 p12 p13 p14 p15
  obtain ⟨p0, p1, p2, p3, p4, p5, p6, p7, p8, p9, p10, p11, p12, p13, p14, p15⟩ := box16 ((hbw.out.block _ (blk_lt hX.out)).trans hX.out)
  cases t0
  · as_aux_lemma =>
      go_wp2
      go_ret
      exact ⟨rfl, Below.next hb1.out hbw.out⟩
  · skip
    go_wp2_with fail
    refine (h62.out _ hbw.out).mono ?_
    rintro e w4 ⟨rfl, hbn⟩
    have hbw := Lib.hid (Below.next hbw.out hbn)
    clear hbn p0 p1 p2 p3 p4 p5 p6 p7 p8 p9 p10 p11 p12 p13 p14 p15
    obtain ⟨p0, p1, p2, p3, p4, p5, p6, p7, p8, p9, p10, p11, p12, p13, p14, p15⟩ := box16 ((hbw.out.block _ (blk_lt hX.out)).trans hX.out)
    cases tn
    · as_aux_lemma =>
        go_wp2
        go_ret
        exact ⟨rfl, Below.next hb1.out hbw.out⟩
    · skip
      go_wp2_with fail
      refine (h67.out _ hbw.out).mono ?_
      rintro e w5 ⟨rfl, hbn⟩
      have hbw := Lib.hid (Below.next hbw.out hbn)
      clear hbn p0 p1 p2 p3 p4 p5 p6 p7 p8 p9 p10 p11 p12 p13 p14 p15
      obtain ⟨p0, p1, p2, p3, p4, p5, p6, p7, p8, p9, p10, p11, p12, p13, p14, p15⟩ := box16 ((hbw.out.block _ (blk_lt hX.out)).trans hX.out)
      cases t1
      · as_aux_lemma =>
          go_wp2
          go_ret
          exact ⟨rfl, Below.next hb1.out hbw.out⟩
      · skip
        go_wp2_with fail
        refine (h95.out _ hbw.out).mono ?_
        rintro e w6 ⟨rfl, hbn⟩
        have hbw := Lib.hid (Below.next hbw.out hbn)
        clear hbn p0 p1 p2 p3 p4 p5 p6 p7 p8 p9 p10 p11 p12 p13 p14 p15
        obtain ⟨p0, p1, p2, p3, p4, p5, p6, p7, p8, p9, p10, p11, p12, p13, p14, p15⟩ := box16 ((hbw.out.block _ (blk_lt hX.out)).trans hX.out)
        cases t2
        · as_aux_lemma =>
            go_wp2
            go_ret
            exact ⟨rfl, Below.next hb1.out hbw.out⟩
        · skip
          go_wp2_with fail
          refine (hbd.out _ hbw.out).mono ?_
          rintro e w7 ⟨rfl, hbn⟩
          have hbw := Lib.hid (Below.next hbw.out hbn)
          clear hbn p0 p1 p2 p3 p4 p5 p6 p7 p8 p9 p10 p11 p12 p13 p14 p15
          obtain ⟨p0, p1, p2, p3, p4, p5, p6, p7, p8, p9, p10, p11, p12, p13, p14, p15⟩ := box16 ((hbw.out.block _ (blk_lt hX.out)).trans hX.out)
          cases t3
          · as_aux_lemma =>
              go_wp2
              go_ret
              exact ⟨rfl, Below.next hb1.out hbw.out⟩
          · skip
            go_wp2_with fail
            refine (hel.out _ hbw.out).mono ?_
            rintro e w8 ⟨rfl, hbn⟩
            have hbw := Lib.hid (Below.next hbw.out hbn)
            clear hbn p0 p1 p2 p3 p4 p5 p6 p7 p8 p9 p10 p11 p12 p13 p14 p15
            cases t4
            · as_aux_lemma =>
                go_wp2
                go_ret
                exact ⟨rfl, Below.next hb1.out hbw.out⟩
            · go_wp2
              go_ret
              exact ⟨rfl, Below.next hb1.out hbw.out⟩
end Go.Proofs.YtnahgfdoiflacaaGreatDoor
