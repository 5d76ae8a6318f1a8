/- The two ways of telling whether expressions are the same: the program's and the reference's. -/
import Derived.Test.YtnahgfdoiflacaaGreatDoorCB
set_option linter.unusedSimpArgs false
set_option linter.unusedVariables false
namespace Go.Proofs.YtnahgfdoiflacaaGreatDoor
open Go.RowKit Go.Lib Go.Shelf

/-- equal, as a Bool -/
noncomputable def same {α : Type} (x y : α) : Bool := @decide (x = y) (Classical.propDecidable _)
theorem same_true {α : Type} {x y : α} : same x y = true ↔ x = y := by unfold same; exact @decide_eq_true_iff _ (Classical.propDecidable _)
theorem same_false {α : Type} {x y : α} : same x y = false ↔ ¬ x = y := by unfold same; exact @decide_eq_false_iff_not _ (Classical.propDecidable _)
theorem same_iff {α β : Type} {x y : α} {x' y' : β} (h : x = y ↔ x' = y') : same x y = same x' y' := by
  cases e : same x' y'
  · exact same_false.2 fun e' => same_false.1 e (h.1 e')
  · exact same_true.2 (h.2 (same_true.1 e))
theorem same_and {α β γ : Type} {x y : α} {x1 y1 : β} {x2 y2 : γ} (h : x = y ↔ x1 = y1 ∧ x2 = y2) : same x y = (same x1 y1 && same x2 y2) := by
  cases e1 : same x1 y1
  · exact same_false.2 fun e' => same_false.1 e1 (h.1 e').1
  · cases e2 : same x2 y2
    · exact same_false.2 fun e' => same_false.1 e2 (h.1 e').2
    · exact same_true.2 (h.2 ⟨same_true.1 e1, same_true.1 e2⟩)
theorem same_ex (x y : Ex) : same x y = (same x.op y.op && (same x.u y.u && (same x.nm y.nm && same x.ars y.ars))) := by
  rw [← same_and (x := (x.nm, x.ars)) (y := (y.nm, y.ars)) (by simp), ← same_and (x := (x.u, x.nm, x.ars)) (y := (y.u, y.nm, y.ars)) (by simp)]
  exact same_and (by cases x; cases y; simp [Ex.op, Ex.u, Ex.nm, Ex.ars])
theorem bytes_beq' (x y : ByteArray) : (x.toList == y.toList) = same x y := by
  rw [ByteArray.toList_eq, ByteArray.toList_eq]
  cases h : same x y
  · have h := same_false.1 h
    have : x.data.toList ≠ y.data.toList := fun e => h (by cases x; cases y; congr 1; exact Array.toList_inj.1 e)
    simpa using this
  · have := same_true.1 h
    simp [this]
theorem int_beq' (x y : Int) : (x == y) = same x y := by
  cases h : same x y
  · have := same_false.1 h
    simp [this]
  · have := same_true.1 h
    simp [this]
theorem nat_beq' (x y : Nat) : ((x : Int) == (y : Int)) = same x y := by
  cases h : same x y
  · have := same_false.1 h
    simp
    omega
  · have := same_true.1 h
    simp [this]
set_option maxRecDepth 100000 in
set_option maxHeartbeats 4000000 in
theorem equalE_any (g : Nat) (hent : ∀ args w, (callFunc g args).run Tryz.prog w = .ok (.enter g args) w) (w0 : World) (L M : List Ex) (A B : Option Addr) (hL : ExsAt w0 L A) (hM : ExsAt w0 M B) (c d : Nat) (W : World) (hW : Below w0.heap.size w0 W) (hn : L.length ≤ 1000000) (hm : M.length ≤ 1000000)
    (hc : ∀ (i : Nat) (x y : Ex) (P Q : Option Addr) (cx cy : Nat), L[i]? = some x → M[i]? = some y → ExAt w0 x P → ExAt w0 y Q → ∀ (W' : World), Below w0.heap.size w0 W' → Calls Tryz.prog g #[exV x P cx, exV y Q cy] W' (BoolPost (same x y) W')) :
    Calls Tryz.prog 93 #[.slice A L.length c, .slice B M.length d, .func (.func g) #[] #[]] W (BoolPost (same L M) W) := by
  have hL' := Lib.hid hL
  have hM' := Lib.hid hM
  have hc' := Lib.hid hc
  have hW' := Lib.hid hW
  obtain ⟨n, hnn⟩ : ∃ n, L.length = n := ⟨_, rfl⟩
  obtain ⟨m, hmm⟩ : ∃ m, M.length = m := ⟨_, rfl⟩
  rw [hnn] at hn ⊢
  rw [hmm] at hm ⊢
  have hLn := Lib.hid hnn
  have hMn := Lib.hid hmm
  clear hL hM hc hW hnn hmm
  by_cases hnm : n = m
  · subst hnm
    have e1 : ¬ ¬ ((n : Int) = (n : Int)) := by omega
    go_enter Tryz.func93, Tryz.ntmps93
    go_wp2_with fail
    go_loopg [17] n (fun g s17 wr => ∃ k : Nat, k + g = n ∧ s17 = .int .i64 k ∧ (∀ i : Nat, i < k → L[i]? = M[i]?) ∧ Below W.heap.size W wr)
    case atStart => exact ⟨0, by omega, rfl, fun i h => absurd h (by omega), Below.refl _ _⟩
    case round =>
      obtain ⟨k, hkg, rfl, hall, hbr⟩ := hrel
      have hall' := Lib.hid hall
      have hbr' := Lib.hid hbr
      clear hall hbr
      cases gk with
      | zero =>
        have e0 : ¬ ((k : Int) < (n : Int)) := by omega
        have hs := Lib.hid (show same L M = true from same_true.2 (List.ext_getElem? fun i => by
          by_cases hi : i < k
          · exact hall'.out i hi
          · rw [List.getElem?_eq_none (by have := hLn.out; omega), List.getElem?_eq_none (by have := hMn.out; omega)]))
        go_wp2
        go_ret
        exact ⟨by rw [hs.out]; rfl, hbr'.out⟩
      | succ g2 =>
        have e0 : (k : Int) < (n : Int) := by omega
        have hbw := Lib.hid (hW'.out.trans (hbr'.out.mono hW'.out.size))
        obtain ⟨blk, off, x, P, cx, rfl, hx, v0, v1, v2, v3, hxe⟩ := (hL'.out).at_ (k := k) (by rw [hLn.out]; omega)
        obtain ⟨blk', off', y, Q, cy, rfl, hy, u0, u1, u2, u3, hye⟩ := (hM'.out).at_ (k := k) (by rw [hMn.out]; omega)
        have v0 := (hbw.out.cell (p := ⟨blk, off + k * 4, none⟩) (cell_some_lt v0)).trans v0
        have v1 := (hbw.out.cell (p := ⟨blk, off + k * 4 + 1, none⟩) (cell_some_lt v1)).trans v1
        have v2 := (hbw.out.cell (p := ⟨blk, off + k * 4 + 2, none⟩) (cell_some_lt v2)).trans v2
        have v3 := (hbw.out.cell (p := ⟨blk, off + k * 4 + 3, none⟩) (cell_some_lt v3)).trans v3

        obtain ⟨w1, hw1⟩ : ∃ w1, wr.alloc (.cells #[.int .i64 x.op, .int .u64 x.u, .string x.nm, .slice P x.ars.length cx] 26) = w1 := ⟨_, rfl⟩
        obtain ⟨wB, hwB⟩ : ∃ wB, w1.alloc (.cells #[.int .i64 y.op, .int .u64 y.u, .string y.nm, .slice Q y.ars.length cy] 26) = wB := ⟨_, rfl⟩
        have hbA := hbr'.out.alloc hbr'.out.size (.cells #[.int .i64 x.op, .int .u64 x.u, .string x.nm, .slice P x.ars.length cx] 26)
        rw [hw1] at hbA
        have hbB := hbA.alloc hbA.size (.cells #[.int .i64 y.op, .int .u64 y.u, .string y.nm, .slice Q y.ars.length cy] 26)
        rw [hwB] at hbB
        have hbB := Lib.hid hbB
        have hs1 : w1.heap.size = wr.heap.size + 1 := by rw [← hw1]; simp
        have hx1 : w1.heap[wr.heap.size]? = some (.cells #[.int .i64 x.op, .int .u64 x.u, .string x.nm, .slice P x.ars.length cx] 26 (0, 0)) := by rw [← hw1]; exact heap_alloc_new _ _
        have hy1 : wB.heap[w1.heap.size]? = some (.cells #[.int .i64 y.op, .int .u64 y.u, .string y.nm, .slice Q y.ars.length cy] 26 (0, 0)) := by rw [← hwB]; exact heap_alloc_new _ _
        have hx2 : wB.heap[wr.heap.size]? = some (.cells #[.int .i64 x.op, .int .u64 x.u, .string x.nm, .slice P x.ars.length cx] 26 (0, 0)) := by rw [← hwB, heap_alloc_old _ _ (by omega)]; exact hx1
        have p0 : wB.cell? ⟨wr.heap.size, 0, none⟩ = some (.int .i64 x.op) := by rw [blk_cell hx2]; rfl
        have p1 : wB.cell? ⟨wr.heap.size, 1, none⟩ = some (.int .u64 x.u) := by rw [blk_cell hx2]; rfl
        have p2 : wB.cell? ⟨wr.heap.size, 2, none⟩ = some (.string x.nm) := by rw [blk_cell hx2]; rfl
        have p3 : wB.cell? ⟨wr.heap.size, 3, none⟩ = some (.slice P x.ars.length cx) := by rw [blk_cell hx2]; rfl
        have q0 : wB.cell? ⟨w1.heap.size, 0, none⟩ = some (.int .i64 y.op) := by rw [blk_cell hy1]; rfl
        have q1 : wB.cell? ⟨w1.heap.size, 1, none⟩ = some (.int .u64 y.u) := by rw [blk_cell hy1]; rfl
        have q2 : wB.cell? ⟨w1.heap.size, 2, none⟩ = some (.string y.nm) := by rw [blk_cell hy1]; rfl
        have q3 : wB.cell? ⟨w1.heap.size, 3, none⟩ = some (.slice Q y.ars.length cy) := by rw [blk_cell hy1]; rfl
        have u0 : w1.cell? ⟨blk', off' + k * 4, none⟩ = _ := ((hW'.out.trans (hbA.mono hW'.out.size)).cell (p := ⟨blk', off' + k * 4, none⟩) (cell_some_lt u0)).trans u0
        have u1 : w1.cell? ⟨blk', off' + k * 4 + 1, none⟩ = _ := ((hW'.out.trans (hbA.mono hW'.out.size)).cell (p := ⟨blk', off' + k * 4 + 1, none⟩) (cell_some_lt u1)).trans u1
        have u2 : w1.cell? ⟨blk', off' + k * 4 + 2, none⟩ = _ := ((hW'.out.trans (hbA.mono hW'.out.size)).cell (p := ⟨blk', off' + k * 4 + 2, none⟩) (cell_some_lt u2)).trans u2
        have u3 : w1.cell? ⟨blk', off' + k * 4 + 3, none⟩ = _ := ((hW'.out.trans (hbA.mono hW'.out.size)).cell (p := ⟨blk', off' + k * 4 + 3, none⟩) (cell_some_lt u3)).trans u3
        have hk2 := hc'.out k x y P Q cx cy hx hy hxe hye wB (hW'.out.trans (hbB.out.mono hW'.out.size))
        obtain ⟨t, ht⟩ : ∃ t, same x y = t := ⟨_, rfl⟩
        rw [ht] at hk2
        unfold exV at hk2
        have hk2 := Lib.hid hk2
        have hx' := Lib.hid hx
        have hy' := Lib.hid hy
        have ht' := Lib.hid ht
        clear hs1 hx1 hx2 hy1 ht hx hy hbA hxe hye
        go_wp2_with fail
        refine hk2.out.mono ?_
        rintro e w2 ⟨rfl, hb2⟩
        have hb2' := Lib.hid (Below.next hbB.out hb2)
        clear hb2
        cases t
        · have hs := Lib.hid (show same L M = false from same_false.2 (by
            rintro rfl
            have h := hx'.out.symm.trans hy'.out
            injection h with h
            exact same_false.1 ht'.out h))
          go_wp2
          go_ret
          exact ⟨by rw [hs.out]; rfl, hb2'.out⟩
        · have hxy := Lib.hid (same_true.1 ht'.out)
          go_wp2
          go_roundg g2
          case measure => omega
          case rel => exact ⟨k + 1, by omega, by go_num, fun i hi => by
              rcases Nat.lt_or_ge i k with h | h
              · exact hall'.out i h
              · obtain rfl : i = k := by omega
                rw [hx'.out, hy'.out, hxy.out], hb2'.out⟩
  · have e1 : ¬ ((n : Int) = (m : Int)) := by omega
    have hs := Lib.hid (show same L M = false from same_false.2 (by
      rintro rfl
      exact hnm (hLn.out.symm.trans hMn.out)))
    go_enter Tryz.func93, Tryz.ntmps93
    go_wp2
    go_ret
    exact ⟨by rw [hs.out]; rfl, Below.refl _ _⟩

set_option maxRecDepth 100000 in
set_option maxHeartbeats 8000000 in
theorem sameE_any (w0 : World) (e : Ex) (A : Option Addr) (h : ExAt w0 e A) : ∀ (f : Ex) (B : Option Addr) (c d : Nat) (W : World), cntE e ≤ 1000000 → cntE f ≤ 1000000 → ExAt w0 f B → Below w0.heap.size w0 W →
    Calls Tryz.prog 37 #[exV e A c, exV f B d] W (BoolPost (same e f) W) := by
  refine ExAt.all (M := fun e A => ∀ (f : Ex) (B : Option Addr) (c d : Nat) (W : World), cntE e ≤ 1000000 → cntE f ≤ 1000000 → ExAt w0 f B → Below w0.heap.size w0 W → Calls Tryz.prog 37 #[exV e A c, exV f B d] W (BoolPost (same e f) W)) ?_ e A h
  intro e A he ih f B c d W hce hcf hf hW
  obtain ⟨op, u, nm, ars⟩ := e
  obtain ⟨op', u', nm', ars'⟩ := f
  rw [cntE] at hce hcf
  have hl1 := len_cnt ars
  have hl2 := len_cnt ars'
  have hcall := fun (W' : World) (hW' : Below w0.heap.size w0 W') => equalE_any 37 (enters_of Tryz.func37 (by kernel_rfl) rfl) w0 ars ars' A B he.args hf.args c d W' hW' (by omega) (by omega)
    (fun i x y P Q cx cy hx hy hxe hye W2 hW2 => ih i x P hx hxe y Q cx cy W2 (by have := cnt_mem (ars := ars) hx; omega) (by have := cnt_mem (ars := ars') hy; omega) hye hW2)
  rw [same_ex]
  dsimp only [Ex.op, Ex.u, Ex.nm, Ex.ars] at hcall ⊢
  generalize same ars ars' = t at hcall ⊢
  unfold exV
  dsimp only [Ex.op, Ex.u, Ex.nm, Ex.ars]
  obtain ⟨n, hn⟩ : ∃ n, ars.length = n := ⟨_, rfl⟩
  obtain ⟨m, hm⟩ : ∃ n, ars'.length = n := ⟨_, rfl⟩
  rw [hn, hm] at hcall ⊢
  obtain ⟨W1, hW1⟩ : ∃ W1, W.alloc (.cells #[.int .i64 op, .int .u64 u, .string nm, .slice A n c] 26) = W1 := ⟨_, rfl⟩
  obtain ⟨W2, hW2⟩ : ∃ W2, W1.alloc (.cells #[.int .i64 op', .int .u64 u', .string nm', .slice B m d] 26) = W2 := ⟨_, rfl⟩
  have hb1 : Below W.heap.size W W1 := by rw [← hW1]; exact (Below.refl _ W).alloc (Nat.le_refl _) _
  have hb2 : Below W.heap.size W W2 := by rw [← hW2]; exact hb1.alloc hb1.size _
  have hs1 : W1.heap.size = W.heap.size + 1 := by rw [← hW1]; simp
  have hx1 : W1.heap[W.heap.size]? = some (.cells #[.int .i64 op, .int .u64 u, .string nm, .slice A n c] 26 (0, 0)) := by rw [← hW1]; exact heap_alloc_new _ _
  have hy2 : W2.heap[W1.heap.size]? = some (.cells #[.int .i64 op', .int .u64 u', .string nm', .slice B m d] 26 (0, 0)) := by rw [← hW2]; exact heap_alloc_new _ _
  have hx2 : W2.heap[W.heap.size]? = some (.cells #[.int .i64 op, .int .u64 u, .string nm, .slice A n c] 26 (0, 0)) := by rw [← hW2, heap_alloc_old _ _ (by omega)]; exact hx1
  have hc2 := Lib.hid (hcall W2 (hW.trans (hb2.mono hW.size)))
  have p0 : W2.cell? ⟨W.heap.size, 0, none⟩ = some (.int .i64 op) := by rw [blk_cell hx2]; rfl
  have p1 : W2.cell? ⟨W.heap.size, 1, none⟩ = some (.int .u64 u) := by rw [blk_cell hx2]; rfl
  have p2 : W2.cell? ⟨W.heap.size, 2, none⟩ = some (.string nm) := by rw [blk_cell hx2]; rfl
  have p3 : W2.cell? ⟨W.heap.size, 3, none⟩ = some (.slice A n c) := by rw [blk_cell hx2]; rfl
  have q0 : W2.cell? ⟨W1.heap.size, 0, none⟩ = some (.int .i64 op') := by rw [blk_cell hy2]; rfl
  have q1 : W2.cell? ⟨W1.heap.size, 1, none⟩ = some (.int .u64 u') := by rw [blk_cell hy2]; rfl
  have q2 : W2.cell? ⟨W1.heap.size, 2, none⟩ = some (.string nm') := by rw [blk_cell hy2]; rfl
  have q3 : W2.cell? ⟨W1.heap.size, 3, none⟩ = some (.slice B m d) := by rw [blk_cell hy2]; rfl
  have hb2 := Lib.hid hb2
  rw [← int_beq' op op', ← nat_beq' u u', ← bytes_beq' nm nm']
  obtain ⟨b1, h1⟩ : ∃ b, (op == op') = b := ⟨_, rfl⟩
  obtain ⟨b2, h2⟩ : ∃ b, ((u : Int) == (u' : Int)) = b := ⟨_, rfl⟩
  obtain ⟨b3, h3⟩ : ∃ b, (nm.toList == nm'.toList) = b := ⟨_, rfl⟩
  rw [h1, h2, h3]
  clear ih hn hm h he hf hW hb1 hx1 hx2 hy2 hcall hs1
  cases b1
  · go_enter Tryz.func37, Tryz.ntmps37
    go_wp2
    go_ret
    exact ⟨rfl, hb2.out⟩
  · cases b2
    · go_enter Tryz.func37, Tryz.ntmps37
      go_wp2
      go_ret
      exact ⟨rfl, hb2.out⟩
    · cases b3
      · go_enter Tryz.func37, Tryz.ntmps37
        go_wp2
        go_ret
        exact ⟨rfl, hb2.out⟩
      · go_enter Tryz.func37, Tryz.ntmps37
        go_wp2_with fail
        refine hc2.out.mono ?_
        rintro e w2 ⟨rfl, hb3⟩
        have hb3' := Lib.hid (Below.next hb2.out hb3)
        clear hb3
        cases t
        all_goals
          go_wp2
          go_ret
          exact ⟨rfl, hb3'.out⟩

set_option maxRecDepth 100000 in
set_option maxHeartbeats 8000000 in
theorem sameEs_any (w0 : World) (L M : List Ex) (A B : Option Addr) (hL : ExsAt w0 L A) (hM : ExsAt w0 M B) (c d : Nat) (W : World) (hW : Below w0.heap.size w0 W) (hn : L.length ≤ 1000000) (hm : M.length ≤ 1000000)
    (hc : ∀ (i : Nat) (x y : Ex) (P Q : Option Addr) (cx cy : Nat), L[i]? = some x → M[i]? = some y → ExAt w0 x P → ExAt w0 y Q → ∀ (W' : World), Below w0.heap.size w0 W' → Calls Tryz.prog 38 #[exV x P cx, exV y Q cy] W' (BoolPost (same x y) W')) :
    Calls Tryz.prog 92 #[.slice A L.length c, .slice B M.length d] W (BoolPost (same L M) W) := by
  have hL' := Lib.hid hL
  have hM' := Lib.hid hM
  have hc' := Lib.hid hc
  have hW' := Lib.hid hW
  obtain ⟨n, hnn⟩ : ∃ n, L.length = n := ⟨_, rfl⟩
  obtain ⟨m, hmm⟩ : ∃ m, M.length = m := ⟨_, rfl⟩
  rw [hnn] at hn ⊢
  rw [hmm] at hm ⊢
  have hLn := Lib.hid hnn
  have hMn := Lib.hid hmm
  clear hL hM hc hW hnn hmm
  by_cases hnm : n = m
  · subst hnm
    have e1 : ¬ ¬ ((n : Int) = (n : Int)) := by omega
    go_enter Tryz.func92, Tryz.ntmps92
    go_wp2_with fail
    go_loopg [5] n (fun g s5 wr => ∃ k : Nat, k + g = n ∧ s5 = .int .i64 k ∧ (∀ i : Nat, i < k → L[i]? = M[i]?) ∧ Below W.heap.size W wr)
    case atStart => exact ⟨0, by omega, rfl, fun i h => absurd h (by omega), Below.refl _ _⟩
    case round =>
      obtain ⟨k, hkg, rfl, hall, hbr⟩ := hrel
      have hall' := Lib.hid hall
      have hbr' := Lib.hid hbr
      clear hall hbr
      cases gk with
      | zero =>
        have e0 : ¬ ((k : Int) < (n : Int)) := by omega
        have hs := Lib.hid (show same L M = true from same_true.2 (List.ext_getElem? fun i => by
          by_cases hi : i < k
          · exact hall'.out i hi
          · rw [List.getElem?_eq_none (by have := hLn.out; omega), List.getElem?_eq_none (by have := hMn.out; omega)]))
        go_wp2
        go_ret
        exact ⟨by rw [hs.out]; rfl, hbr'.out⟩
      | succ g2 =>
        have e0 : (k : Int) < (n : Int) := by omega
        have hbw := Lib.hid (hW'.out.trans (hbr'.out.mono hW'.out.size))
        obtain ⟨blk, off, x, P, cx, rfl, hx, v0, v1, v2, v3, hxe⟩ := (hL'.out).at_ (k := k) (by rw [hLn.out]; omega)
        obtain ⟨blk', off', y, Q, cy, rfl, hy, u0, u1, u2, u3, hye⟩ := (hM'.out).at_ (k := k) (by rw [hMn.out]; omega)
        have v0 := (hbw.out.cell (p := ⟨blk, off + k * 4, none⟩) (cell_some_lt v0)).trans v0
        have v1 := (hbw.out.cell (p := ⟨blk, off + k * 4 + 1, none⟩) (cell_some_lt v1)).trans v1
        have v2 := (hbw.out.cell (p := ⟨blk, off + k * 4 + 2, none⟩) (cell_some_lt v2)).trans v2
        have v3 := (hbw.out.cell (p := ⟨blk, off + k * 4 + 3, none⟩) (cell_some_lt v3)).trans v3
        have u0 := (hbw.out.cell (p := ⟨blk', off' + k * 4, none⟩) (cell_some_lt u0)).trans u0
        have u1 := (hbw.out.cell (p := ⟨blk', off' + k * 4 + 1, none⟩) (cell_some_lt u1)).trans u1
        have u2 := (hbw.out.cell (p := ⟨blk', off' + k * 4 + 2, none⟩) (cell_some_lt u2)).trans u2
        have u3 := (hbw.out.cell (p := ⟨blk', off' + k * 4 + 3, none⟩) (cell_some_lt u3)).trans u3
        have hk2 := fun (s : Sub wr) => hc'.out k x y P Q cx cy hx hy hxe hye s.val (hbw.out.trans (s.property.mono hbw.out.size))
        obtain ⟨t, ht⟩ : ∃ t, same x y = t := ⟨_, rfl⟩
        rw [ht] at hk2
        unfold exV at hk2
        have hk2 := Lib.hid hk2
        have hx' := Lib.hid hx
        have hy' := Lib.hid hy
        have ht' := Lib.hid ht
        clear ht hx hy hxe hye
        go_wp2_with fail
        have v0 := Sub.cell v0
        have v1 := Sub.cell v1
        have v2 := Sub.cell v2
        have v3 := Sub.cell v3
        have u0 := Sub.cell u0
        have u1 := Sub.cell u1
        have u2 := Sub.cell u2
        have u3 := Sub.cell u3
        refine wp_region_below (by kernel_rfl) (by kernel_rfl) ?_
        repeat (go_big_quiet_step ((go_at_call 38; with_reducible exact Sub.call (hk2.out _))))
        refine wpQuiet_nil ?_
        rintro w4 ⟨s4, hs4⟩
        have hb4 := hs4 ▸ s4.property
        have hb2' := Lib.hid (Below.next hbr'.out hb4)
        clear hb4 hs4 v0 v1 v2 v3 u0 u1 u2 u3
        cases t
        · have hs := Lib.hid (show same L M = false from same_false.2 (by
            rintro rfl
            have h := hx'.out.symm.trans hy'.out
            injection h with h
            exact same_false.1 ht'.out h))
          go_wp2
          go_ret
          exact ⟨by rw [hs.out]; rfl, hb2'.out⟩
        · have hxy := Lib.hid (same_true.1 ht'.out)
          go_wp2
          go_roundg g2
          case measure => omega
          case rel => exact ⟨k + 1, by omega, by go_num, fun i hi => by
              rcases Nat.lt_or_ge i k with h | h
              · exact hall'.out i h
              · obtain rfl : i = k := by omega
                rw [hx'.out, hy'.out, hxy.out], hb2'.out⟩
  · have e1 : ¬ ((n : Int) = (m : Int)) := by omega
    have hs := Lib.hid (show same L M = false from same_false.2 (by
      rintro rfl
      exact hnm (hLn.out.symm.trans hMn.out)))
    go_enter Tryz.func92, Tryz.ntmps92
    go_wp2
    go_ret
    exact ⟨by rw [hs.out]; rfl, Below.refl _ _⟩

set_option maxRecDepth 100000 in
set_option maxHeartbeats 8000000 in
theorem refSameE_any (w0 : World) (e : Ex) (A : Option Addr) (h : ExAt w0 e A) : ∀ (f : Ex) (B : Option Addr) (c d : Nat) (W : World), cntE e ≤ 1000000 → cntE f ≤ 1000000 → ExAt w0 f B → Below w0.heap.size w0 W →
    Calls Tryz.prog 38 #[exV e A c, exV f B d] W (BoolPost (same e f) W) := by
  refine ExAt.all (M := fun e A => ∀ (f : Ex) (B : Option Addr) (c d : Nat) (W : World), cntE e ≤ 1000000 → cntE f ≤ 1000000 → ExAt w0 f B → Below w0.heap.size w0 W → Calls Tryz.prog 38 #[exV e A c, exV f B d] W (BoolPost (same e f) W)) ?_ e A h
  intro e A he ih f B c d W hce hcf hf hW
  obtain ⟨op, u, nm, ars⟩ := e
  obtain ⟨op', u', nm', ars'⟩ := f
  rw [cntE] at hce hcf
  have hl1 := len_cnt ars
  have hl2 := len_cnt ars'
  have hcall := fun (W' : World) (hW' : Below w0.heap.size w0 W') => sameEs_any w0 ars ars' A B he.args hf.args c d W' hW' (by omega) (by omega)
    (fun i x y P Q cx cy hx hy hxe hye W2 hW2 => ih i x P hx hxe y Q cx cy W2 (by have := cnt_mem (ars := ars) hx; omega) (by have := cnt_mem (ars := ars') hy; omega) hye hW2)
  rw [same_ex]
  dsimp only [Ex.op, Ex.u, Ex.nm, Ex.ars] at hcall ⊢
  generalize same ars ars' = t at hcall ⊢
  unfold exV
  dsimp only [Ex.op, Ex.u, Ex.nm, Ex.ars]
  obtain ⟨n, hn⟩ : ∃ n, ars.length = n := ⟨_, rfl⟩
  obtain ⟨m, hm⟩ : ∃ n, ars'.length = n := ⟨_, rfl⟩
  rw [hn, hm] at hcall ⊢
  obtain ⟨W1, hW1⟩ : ∃ W1, W.alloc (.cells #[.int .i64 op, .int .u64 u, .string nm, .slice A n c] 26) = W1 := ⟨_, rfl⟩
  obtain ⟨W2, hW2⟩ : ∃ W2, W1.alloc (.cells #[.int .i64 op', .int .u64 u', .string nm', .slice B m d] 26) = W2 := ⟨_, rfl⟩
  have hb1 : Below W.heap.size W W1 := by rw [← hW1]; exact (Below.refl _ W).alloc (Nat.le_refl _) _
  have hb2 : Below W.heap.size W W2 := by rw [← hW2]; exact hb1.alloc hb1.size _
  have hs1 : W1.heap.size = W.heap.size + 1 := by rw [← hW1]; simp
  have hx1 : W1.heap[W.heap.size]? = some (.cells #[.int .i64 op, .int .u64 u, .string nm, .slice A n c] 26 (0, 0)) := by rw [← hW1]; exact heap_alloc_new _ _
  have hy2 : W2.heap[W1.heap.size]? = some (.cells #[.int .i64 op', .int .u64 u', .string nm', .slice B m d] 26 (0, 0)) := by rw [← hW2]; exact heap_alloc_new _ _
  have hx2 : W2.heap[W.heap.size]? = some (.cells #[.int .i64 op, .int .u64 u, .string nm, .slice A n c] 26 (0, 0)) := by rw [← hW2, heap_alloc_old _ _ (by omega)]; exact hx1
  have hc2 := Lib.hid (hcall W2 (hW.trans (hb2.mono hW.size)))
  have p0 : W2.cell? ⟨W.heap.size, 0, none⟩ = some (.int .i64 op) := by rw [blk_cell hx2]; rfl
  have p1 : W2.cell? ⟨W.heap.size, 1, none⟩ = some (.int .u64 u) := by rw [blk_cell hx2]; rfl
  have p2 : W2.cell? ⟨W.heap.size, 2, none⟩ = some (.string nm) := by rw [blk_cell hx2]; rfl
  have p3 : W2.cell? ⟨W.heap.size, 3, none⟩ = some (.slice A n c) := by rw [blk_cell hx2]; rfl
  have q0 : W2.cell? ⟨W1.heap.size, 0, none⟩ = some (.int .i64 op') := by rw [blk_cell hy2]; rfl
  have q1 : W2.cell? ⟨W1.heap.size, 1, none⟩ = some (.int .u64 u') := by rw [blk_cell hy2]; rfl
  have q2 : W2.cell? ⟨W1.heap.size, 2, none⟩ = some (.string nm') := by rw [blk_cell hy2]; rfl
  have q3 : W2.cell? ⟨W1.heap.size, 3, none⟩ = some (.slice B m d) := by rw [blk_cell hy2]; rfl
  have hb2 := Lib.hid hb2
  rw [← int_beq' op op', ← nat_beq' u u', ← bytes_beq' nm nm']
  obtain ⟨b1, h1⟩ : ∃ b, (op == op') = b := ⟨_, rfl⟩
  obtain ⟨b2, h2⟩ : ∃ b, ((u : Int) == (u' : Int)) = b := ⟨_, rfl⟩
  obtain ⟨b3, h3⟩ : ∃ b, (nm.toList == nm'.toList) = b := ⟨_, rfl⟩
  rw [h1, h2, h3]
  clear ih hn hm h he hf hW hb1 hx1 hx2 hy2 hcall hs1
  cases b1
  · go_enter Tryz.func38, Tryz.ntmps38
    go_wp2
    go_ret
    exact ⟨rfl, hb2.out⟩
  · cases b2
    · go_enter Tryz.func38, Tryz.ntmps38
      go_wp2
      go_ret
      exact ⟨rfl, hb2.out⟩
    · cases b3
      · go_enter Tryz.func38, Tryz.ntmps38
        go_wp2
        go_ret
        exact ⟨rfl, hb2.out⟩
      · go_enter Tryz.func38, Tryz.ntmps38
        go_wp2_with fail
        refine hc2.out.mono ?_
        rintro e w2 ⟨rfl, hb3⟩
        have hb3' := Lib.hid (Below.next hb2.out hb3)
        clear hb3
        cases t
        all_goals
          go_wp2
          go_ret
          exact ⟨rfl, hb3'.out⟩
end Go.Proofs.YtnahgfdoiflacaaGreatDoor
