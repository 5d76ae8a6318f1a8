/- Which programs can be told: the program's way. -/
import Derived.Test.YtnahgfdoiflacaaGreatDoorDJ
import Derived.Test.YtnahgfdoiflacaaGreatDoorCH
set_option linter.unusedSimpArgs false
set_option linter.unusedVariables false
namespace Go.Proofs.YtnahgfdoiflacaaGreatDoor
open Go.RowKit Go.Lib Go.Shelf

def mayRg (r : RegC) : Bool := nameB r.nm && (decide (0 ≤ r.ad) && decide (0 ≤ r.sz))
def mayPm (v : VarC) : Bool := nameB v.nm && ((v.kd == 1) && (v.sz == 0))
def mayVr (v : VarC) : Bool := nameB v.nm && (((v.kd == 2 || v.kd == 3) && decide (0 ≤ v.sz)) || ((v.kd == 1) && ((v.sz == 0) && !v.sc)))
def mayFn (x : Fn) : Bool := nameB x.nm && (x.ps.all mayPm && (x.vs.all mayVr && (x.rs.all nameB && mayT x.bd)))
def mayPg (p : Pg) : Bool := p.rs.all mayRg && p.fs.all mayFn

set_option maxRecDepth 100000 in
set_option maxHeartbeats 8000000 in
theorem mayRg_any (x : RegC) (W : World) (hx : x.nm.size ≤ 2000000) : Calls Tryz.prog 61 #[vlR x] W (BoolPost (mayRg x) W) := by
  have h62 := Lib.hid (fun W' : World => name_any x.nm W' hx)
  obtain ⟨nm, f1, f2, sc⟩ := x
  unfold vlR mayRg
  dsimp only at h62 ⊢
  obtain ⟨tn, htn⟩ : ∃ b, nameB nm = b := ⟨_, rfl⟩
  rw [htn] at h62 ⊢
  clear htn hx
  obtain ⟨W1, hW1⟩ : ∃ W1, W.alloc (.cells #[.string nm, .int .i64 f1, .int .i64 f2, .bool sc] 82) = W1 := ⟨_, rfl⟩
  have hb1 : Below W.heap.size W W1 := by rw [← hW1]; exact (Below.refl _ W).alloc (Nat.le_refl _) _
  have hX : W1.heap[W.heap.size]? = some (.cells #[.string nm, .int .i64 f1, .int .i64 f2, .bool sc] 82 (0, 0)) := by rw [← hW1]; exact heap_alloc_new _ _
  obtain ⟨p0, p1, p2, p3, _⟩ := box4 hX
  have hb1 := Lib.hid hb1
  have hX := Lib.hid hX
  have hW1' := Lib.hid hW1
  clear hW1
  obtain ⟨c1, hc1⟩ : ∃ b, decide (0 ≤ f1) = b := ⟨_, rfl⟩
  obtain ⟨c2, hc2⟩ : ∃ b, decide (0 ≤ f2) = b := ⟨_, rfl⟩
  rw [hc1, hc2]
  go_enter Tryz.func61, Tryz.ntmps61
  go_wp2_with fail
  rw [hW1'.out]
  go_wp2_with fail
  refine (h62.out _).mono ?_
  rintro e w2 ⟨rfl, hb2⟩
  have hX2 := (hb2.block _ (blk_lt hX.out)).trans hX.out
  have hb2 := Lib.hid (Below.next hb1.out hb2)
  clear p0 p1 p2 p3
  obtain ⟨p0, p1, p2, p3, _⟩ := box4 hX2
  clear hX2
  cases tn
  · go_wp2
    go_ret
    exact ⟨rfl, hb2.out⟩
  · cases c1
    · go_wp2
      go_ret
      exact ⟨rfl, hb2.out⟩
    · cases c2
      · go_wp2
        go_ret
        exact ⟨rfl, hb2.out⟩
      · go_wp2
        go_ret
        exact ⟨rfl, hb2.out⟩

set_option maxRecDepth 100000 in
set_option maxHeartbeats 8000000 in
theorem mayPm_any (x : VarC) (W : World) (hx : x.nm.size ≤ 2000000) : Calls Tryz.prog 65 #[vlV x] W (BoolPost (mayPm x) W) := by
  have h62 := Lib.hid (fun W' : World => name_any x.nm W' hx)
  obtain ⟨nm, f1, f2, sc⟩ := x
  unfold vlV mayPm
  dsimp only at h62 ⊢
  obtain ⟨tn, htn⟩ : ∃ b, nameB nm = b := ⟨_, rfl⟩
  rw [htn] at h62 ⊢
  clear htn hx
  obtain ⟨W1, hW1⟩ : ∃ W1, W.alloc (.cells #[.string nm, .int .i64 f1, .int .i64 f2, .bool sc] 58) = W1 := ⟨_, rfl⟩
  have hb1 : Below W.heap.size W W1 := by rw [← hW1]; exact (Below.refl _ W).alloc (Nat.le_refl _) _
  have hX : W1.heap[W.heap.size]? = some (.cells #[.string nm, .int .i64 f1, .int .i64 f2, .bool sc] 58 (0, 0)) := by rw [← hW1]; exact heap_alloc_new _ _
  obtain ⟨p0, p1, p2, p3, _⟩ := box4 hX
  have hb1 := Lib.hid hb1
  have hX := Lib.hid hX
  have hW1' := Lib.hid hW1
  clear hW1
  obtain ⟨c1, hc1⟩ : ∃ b, (f1 == 1) = b := ⟨_, rfl⟩
  obtain ⟨c2, hc2⟩ : ∃ b, (f2 == 0) = b := ⟨_, rfl⟩
  rw [hc1, hc2]
  go_enter Tryz.func65, Tryz.ntmps65
  go_wp2_with fail
  rw [hW1'.out]
  go_wp2_with fail
  refine (h62.out _).mono ?_
  rintro e w2 ⟨rfl, hb2⟩
  have hX2 := (hb2.block _ (blk_lt hX.out)).trans hX.out
  have hb2 := Lib.hid (Below.next hb1.out hb2)
  clear p0 p1 p2 p3
  obtain ⟨p0, p1, p2, p3, _⟩ := box4 hX2
  clear hX2
  cases tn
  · go_wp2
    go_ret
    exact ⟨rfl, hb2.out⟩
  · cases c1
    · go_wp2
      go_ret
      exact ⟨rfl, hb2.out⟩
    · cases c2
      · go_wp2
        go_ret
        exact ⟨rfl, hb2.out⟩
      · go_wp2
        go_ret
        exact ⟨rfl, hb2.out⟩

set_option maxRecDepth 100000 in
set_option maxHeartbeats 8000000 in
theorem mayVr_any (x : VarC) (W : World) (hx : x.nm.size ≤ 2000000) : Calls Tryz.prog 66 #[vlV x] W (BoolPost (mayVr x) W) := by
  have h62 := Lib.hid (fun W' : World => name_any x.nm W' hx)
  obtain ⟨nm, f1, f2, sc⟩ := x
  unfold vlV mayVr
  dsimp only at h62 ⊢
  obtain ⟨tn, htn⟩ : ∃ b, nameB nm = b := ⟨_, rfl⟩
  rw [htn] at h62 ⊢
  clear htn hx
  obtain ⟨W1, hW1⟩ : ∃ W1, W.alloc (.cells #[.string nm, .int .i64 f1, .int .i64 f2, .bool sc] 58) = W1 := ⟨_, rfl⟩
  have hb1 : Below W.heap.size W W1 := by rw [← hW1]; exact (Below.refl _ W).alloc (Nat.le_refl _) _
  have hX : W1.heap[W.heap.size]? = some (.cells #[.string nm, .int .i64 f1, .int .i64 f2, .bool sc] 58 (0, 0)) := by rw [← hW1]; exact heap_alloc_new _ _
  have hb1 := Lib.hid hb1
  have hX := Lib.hid hX
  have hW1' := Lib.hid hW1
  clear hW1
  obtain ⟨s0, hs0⟩ : ∃ b, decide (0 ≤ f2) = b := ⟨_, rfl⟩
  obtain ⟨z0, hz0⟩ : ∃ b, (f2 == 0) = b := ⟨_, rfl⟩
  rw [hs0, hz0]
  obtain ⟨k1, h1⟩ : ∃ b, (f1 == 1) = b := ⟨_, rfl⟩
  obtain ⟨k2, h2⟩ : ∃ b, (f1 == 2) = b := ⟨_, rfl⟩
  obtain ⟨k3, h3⟩ : ∃ b, (f1 == 3) = b := ⟨_, rfl⟩
  have hx12 : k1 = true → k2 = false ∧ k3 = false := fun h => by
    rw [h] at h1
    have : f1 = 1 := by simpa using h1
    subst this
    exact ⟨h2.symm, h3.symm⟩
  rw [h1, h2, h3]
  obtain ⟨p0, p1, p2, p3, _⟩ := box4 hX.out
  cases k1
  · cases k2
    · cases k3
      all_goals
        cases s0
        all_goals
          go_enter Tryz.func66, Tryz.ntmps66
          go_wp2_with fail
          rw [hW1'.out]
          go_wp2_with fail
          refine (h62.out _).mono ?_
          rintro e w2 ⟨rfl, hb2⟩
          have hX2 := (hb2.block _ (blk_lt hX.out)).trans hX.out
          have hb2 := Lib.hid (Below.next hb1.out hb2)
          clear p0 p1 p2 p3
          obtain ⟨p0, p1, p2, p3, _⟩ := box4 hX2
          clear hX2
          cases tn
          all_goals
            go_wp2
            go_ret
            exact ⟨rfl, hb2.out⟩
    · cases s0
      all_goals
        go_enter Tryz.func66, Tryz.ntmps66
        go_wp2_with fail
        rw [hW1'.out]
        go_wp2_with fail
        refine (h62.out _).mono ?_
        rintro e w2 ⟨rfl, hb2⟩
        have hX2 := (hb2.block _ (blk_lt hX.out)).trans hX.out
        have hb2 := Lib.hid (Below.next hb1.out hb2)
        clear p0 p1 p2 p3
        obtain ⟨p0, p1, p2, p3, _⟩ := box4 hX2
        clear hX2
        cases tn
        all_goals
          go_wp2
          go_ret
          exact ⟨rfl, hb2.out⟩
  · obtain ⟨rfl, rfl⟩ := hx12 rfl
    cases z0
    all_goals
      cases sc
      all_goals
        go_enter Tryz.func66, Tryz.ntmps66
        go_wp2_with fail
        rw [hW1'.out]
        go_wp2_with fail
        refine (h62.out _).mono ?_
        rintro e w2 ⟨rfl, hb2⟩
        have hX2 := (hb2.block _ (blk_lt hX.out)).trans hX.out
        have hb2 := Lib.hid (Below.next hb1.out hb2)
        clear p0 p1 p2 p3
        obtain ⟨p0, p1, p2, p3, _⟩ := box4 hX2
        clear hX2
        cases tn
        all_goals
          go_wp2
          go_ret
          exact ⟨rfl, hb2.out⟩
theorem cntV_mem {L : List VarC} {x : VarC} {i : Nat} (h : L[i]? = some x) : x.nm.size ≤ cntV L := by
  have h1 := cntV_take i h
  have h2 : ∀ (L : List VarC) (k : Nat), cntV (L.take k) ≤ cntV L := fun L => by
    induction L with
    | nil => intro k; simp [cntV]
    | cons s r ih => intro k; cases k with
      | zero => simp [cntV]
      | succ k => rw [List.take_succ_cons, cntV, cntV]; have := ih k; omega
  have h3 := h2 L (i + 1)
  omega
theorem cntN_mem {L : List ByteArray} {x : ByteArray} {i : Nat} (h : L[i]? = some x) : x.size ≤ cntN L := by
  have h1 := cntN_take i h
  have h2 : ∀ (L : List ByteArray) (k : Nat), cntN (L.take k) ≤ cntN L := fun L => by
    induction L with
    | nil => intro k; simp [cntN]
    | cons s r ih => intro k; cases k with
      | zero => simp [cntN]
      | succ k => rw [List.take_succ_cons, cntN, cntN]; have := ih k; omega
  have h3 := h2 L (i + 1)
  omega
theorem cntR_mem {L : List RegC} {x : RegC} {i : Nat} (h : L[i]? = some x) : x.nm.size ≤ cntR L := by
  have h1 := cntR_take i h
  have h2 : ∀ (L : List RegC) (k : Nat), cntR (L.take k) ≤ cntR L := fun L => by
    induction L with
    | nil => intro k; simp [cntR]
    | cons s r ih => intro k; cases k with
      | zero => simp [cntR]
      | succ k => rw [List.take_succ_cons, cntR, cntR]; have := ih k; omega
  have h3 := h2 L (i + 1)
  omega

set_option maxRecDepth 100000 in
set_option maxHeartbeats 8000000 in
theorem mayFn_any (w0 : World) (x : Fn) (r : FnC) (hx : FNow w0 x r) (W : World) (hW : Below w0.heap.size w0 W) (hcx : cntF x ≤ 30000) : Calls Tryz.prog 63 #[vlF r] W (BoolPost (mayFn x) W) := by
  have l1 := len_cntV x.ps
  have l3 := len_cntV x.vs
  have l5 := len_cntN x.rs
  unfold cntF at hcx
  obtain ⟨nm, ⟨pA, pn, pc⟩, ⟨vA, vn, vc⟩, ⟨rA, rn, rc⟩, ⟨bA, bn, bc⟩⟩ := r
  obtain ⟨kx, px, pxA, vx, vxA, rx, rxA, bx, bxA, _, _⟩ := hx
  dsimp only at kx px pxA vx vxA rx rxA bx bxA
  have h62 : ∀ (W' : World), Below w0.heap.size w0 W' → Calls Tryz.prog 62 #[.string nm] W' (BoolPost (nameB x.nm) W') := fun W' hW' => by
    rw [kx]
    exact name_any x.nm W' (by omega)
  have h64p : ∀ (W' : World), Below w0.heap.size w0 W' → Calls Tryz.prog 64 #[.slice pA pn pc, .func (.func 65) #[] #[]] W' (BoolPost (x.ps.all mayPm) W') := fun W' hW' => by
    rw [px]
    exact allV_any 65 (enters_of Tryz.func65 (by kernel_rfl) rfl) mayPm w0 x.ps pA pxA pc W' hW' (by omega) (fun i y hy W2 _ => mayPm_any y W2 (by have := cntV_mem hy; omega))
  have h64v : ∀ (W' : World), Below w0.heap.size w0 W' → Calls Tryz.prog 64 #[.slice vA vn vc, .func (.func 66) #[] #[]] W' (BoolPost (x.vs.all mayVr) W') := fun W' hW' => by
    rw [vx]
    exact allV_any 66 (enters_of Tryz.func66 (by kernel_rfl) rfl) mayVr w0 x.vs vA vxA vc W' hW' (by omega) (fun i y hy W2 _ => mayVr_any y W2 (by have := cntV_mem hy; omega))
  have h67 : ∀ (W' : World), Below w0.heap.size w0 W' → Calls Tryz.prog 67 #[.slice rA rn rc, .func (.func 62) #[] #[]] W' (BoolPost (x.rs.all nameB) W') := fun W' hW' => by
    rw [rx]
    exact allS_any 62 (enters_of Tryz.func62 (by kernel_rfl) rfl) nameB w0 x.rs rA rxA rc W' hW' (by omega) (fun i s hs W2 _ => name_any s W2 (by have := cntN_mem hs; omega))
  have h68 : ∀ (W' : World), Below w0.heap.size w0 W' → Calls Tryz.prog 68 #[.slice bA bn bc] W' (BoolPost (mayT x.bd) W') := fun W' hW' => by
    rw [bx]
    exact mayStmts_any w0 x.bd bA bxA bc W' (by omega) hW'
  unfold mayFn
  generalize nameB x.nm = t1 at h62 ⊢
  generalize x.ps.all mayPm = t2 at h64p ⊢
  generalize x.vs.all mayVr = t3 at h64v ⊢
  generalize x.rs.all nameB = t4 at h67 ⊢
  generalize mayT x.bd = t5 at h68 ⊢
  clear hcx l1 l3 l5 kx px pxA vx vxA rx rxA bx bxA
  unfold vlF
  dsimp only
  obtain ⟨W1, hW1⟩ : ∃ W1, W.alloc (.cells #[.string nm, .slice pA pn pc, .slice vA vn vc, .slice rA rn rc, .slice bA bn bc] 54) = W1 := ⟨_, rfl⟩
  have hb1 : Below W.heap.size W W1 := by rw [← hW1]; exact (Below.refl _ W).alloc (Nat.le_refl _) _
  have hX : W1.heap[W.heap.size]? = some (.cells #[.string nm, .slice pA pn pc, .slice vA vn vc, .slice rA rn rc, .slice bA bn bc] 54 (0, 0)) := by rw [← hW1]; exact heap_alloc_new _ _
  have up : ∀ W', Below W1.heap.size W1 W' → Below w0.heap.size w0 W' := fun W' h => hW.trans ((Below.next hb1 h).mono hW.size)
  have h62 := Lib.hid fun W' (h : Below W1.heap.size W1 W') => h62 W' (up W' h)
  have h64p := Lib.hid fun W' (h : Below W1.heap.size W1 W') => h64p W' (up W' h)
  have h64v := Lib.hid fun W' (h : Below W1.heap.size W1 W') => h64v W' (up W' h)
  have h67 := Lib.hid fun W' (h : Below W1.heap.size W1 W') => h67 W' (up W' h)
  have h68 := Lib.hid fun W' (h : Below W1.heap.size W1 W') => h68 W' (up W' h)
  obtain ⟨p0, p1, p2, p3, p4⟩ := box5 hX
  have hbw := Lib.hid (Below.refl W1.heap.size W1)
  have hX := Lib.hid hX
  have hb1 := Lib.hid hb1
  have hW1' := Lib.hid hW1
  clear up hW hW1
  go_enter Tryz.func63, Tryz.ntmps63
  go_wp2_with fail
  rw [hW1'.out]
  go_wp2_with fail
  refine (h62.out _ hbw.out).mono ?_
  rintro e w3 ⟨rfl, hbn⟩
  have hbw := Lib.hid (Below.next hbw.out hbn)
  clear hbn p0 p1 p2 p3 p4
  obtain ⟨p0, p1, p2, p3, p4⟩ := box5 ((hbw.out.block _ (blk_lt hX.out)).trans hX.out)
  cases t1
  · go_wp2
    go_ret
    exact ⟨rfl, Below.next hb1.out hbw.out⟩
  · skip
    go_wp2_with fail
    refine (h64p.out _ hbw.out).mono ?_
    rintro e w4 ⟨rfl, hbn⟩
    have hbw := Lib.hid (Below.next hbw.out hbn)
    clear hbn p0 p1 p2 p3 p4
    obtain ⟨p0, p1, p2, p3, p4⟩ := box5 ((hbw.out.block _ (blk_lt hX.out)).trans hX.out)
    cases t2
    · go_wp2
      go_ret
      exact ⟨rfl, Below.next hb1.out hbw.out⟩
    · skip
      go_wp2_with fail
      refine (h64v.out _ hbw.out).mono ?_
      rintro e w5 ⟨rfl, hbn⟩
      have hbw := Lib.hid (Below.next hbw.out hbn)
      clear hbn p0 p1 p2 p3 p4
      obtain ⟨p0, p1, p2, p3, p4⟩ := box5 ((hbw.out.block _ (blk_lt hX.out)).trans hX.out)
      cases t3
      · go_wp2
        go_ret
        exact ⟨rfl, Below.next hb1.out hbw.out⟩
      · skip
        go_wp2_with fail
        refine (h67.out _ hbw.out).mono ?_
        rintro e w6 ⟨rfl, hbn⟩
        have hbw := Lib.hid (Below.next hbw.out hbn)
        clear hbn p0 p1 p2 p3 p4
        obtain ⟨p0, p1, p2, p3, p4⟩ := box5 ((hbw.out.block _ (blk_lt hX.out)).trans hX.out)
        cases t4
        · go_wp2
          go_ret
          exact ⟨rfl, Below.next hb1.out hbw.out⟩
        · skip
          go_wp2_with fail
          refine (h68.out _ hbw.out).mono ?_
          rintro e w7 ⟨rfl, hbn⟩
          have hbw := Lib.hid (Below.next hbw.out hbn)
          clear hbn p0 p1 p2 p3 p4
          cases t5
          · go_wp2
            go_ret
            exact ⟨rfl, Below.next hb1.out hbw.out⟩
          · go_wp2
            go_ret
            exact ⟨rfl, Below.next hb1.out hbw.out⟩

set_option maxRecDepth 100000 in
set_option maxHeartbeats 8000000 in
theorem may20_any (w0 : World) (p : Pg) (A B : Option Addr) (c d : Nat) (hr : CellsAt 4 cellsR w0 p.rs A) (hf : FnsAt w0 p.fs B) (W : World) (hW : Below w0.heap.size w0 W) (hcp : cntP p ≤ 30000) : Calls Tryz.prog 20 #[pgV p A c B d] W (BoolPost (mayPg p) W) := by
  unfold cntP at hcp
  have h69 := fun (W' : World) (hW' : Below w0.heap.size w0 W') => allR_any 61 (enters_of Tryz.func61 (by kernel_rfl) rfl) mayRg w0 p.rs A hr c W' hW' (by omega) (fun i y hy W2 _ => mayRg_any y W2 (by have := cntR_mem hy; omega))
  have h70 := fun (W' : World) (hW' : Below w0.heap.size w0 W') => allFS_any 63 (enters_of Tryz.func63 (by kernel_rfl) rfl) mayFn w0 p.fs B hf d W' hW' (by omega) (fun i y r hy hyr W2 hW2 => mayFn_any w0 y r hyr W2 hW2 (by have := cntF_mem hy; omega))
  unfold mayPg pgV
  generalize p.rs.all mayRg = t1 at h69 ⊢
  generalize p.fs.all mayFn = t2 at h70 ⊢
  obtain ⟨n, hn⟩ : ∃ n, p.rs.length = n := ⟨_, rfl⟩
  obtain ⟨m, hm⟩ : ∃ n, p.fs.length = n := ⟨_, rfl⟩
  rw [hn] at h69 ⊢
  rw [hm] at h70 ⊢
  clear hn hm hr hf hcp
  obtain ⟨W1, hW1⟩ : ∃ W1, W.alloc (.cells #[.slice A n c, .slice B m d] 39) = W1 := ⟨_, rfl⟩
  have hb1 : Below W.heap.size W W1 := by rw [← hW1]; exact (Below.refl _ W).alloc (Nat.le_refl _) _
  have hX : W1.heap[W.heap.size]? = some (.cells #[.slice A n c, .slice B m d] 39 (0, 0)) := by rw [← hW1]; exact heap_alloc_new _ _
  have up : ∀ W', Below W1.heap.size W1 W' → Below w0.heap.size w0 W' := fun W' h => hW.trans ((Below.next hb1 h).mono hW.size)
  have h69 := Lib.hid fun W' (h : Below W1.heap.size W1 W') => h69 W' (up W' h)
  have h70 := Lib.hid fun W' (h : Below W1.heap.size W1 W') => h70 W' (up W' h)
  obtain ⟨p0, p1⟩ := box2 hX
  have hbw := Lib.hid (Below.refl W1.heap.size W1)
  have hX := Lib.hid hX
  have hb1 := Lib.hid hb1
  have hW1' := Lib.hid hW1
  clear up hW hW1
  go_enter Tryz.func20, Tryz.ntmps20
  go_wp2_with fail
  rw [hW1'.out]
  go_wp2_with fail
  refine (h69.out _ hbw.out).mono ?_
  rintro e w3 ⟨rfl, hbn⟩
  have hbw := Lib.hid (Below.next hbw.out hbn)
  clear hbn p0 p1
  obtain ⟨p0, p1⟩ := box2 ((hbw.out.block _ (blk_lt hX.out)).trans hX.out)
  cases t1
  · go_wp2
    go_ret
    exact ⟨rfl, Below.next hb1.out hbw.out⟩
  · skip
    go_wp2_with fail
    refine (h70.out _ hbw.out).mono ?_
    rintro e w4 ⟨rfl, hbn⟩
    have hbw := Lib.hid (Below.next hbw.out hbn)
    clear hbn p0 p1
    cases t2
    · go_wp2
      go_ret
      exact ⟨rfl, Below.next hb1.out hbw.out⟩
    · go_wp2
      go_ret
      exact ⟨rfl, Below.next hb1.out hbw.out⟩
end Go.Proofs.YtnahgfdoiflacaaGreatDoor
