/- Lists of names, variables, regions: whether they are the same. -/
import Derived.Test.YtnahgfdoiflacaaGreatDoorCA
import Derived.BigQuiet
set_option linter.unusedSimpArgs false
set_option linter.unusedVariables false
namespace Go.Proofs.YtnahgfdoiflacaaGreatDoor
open Go.RowKit Go.Lib Go.Shelf
theorem neV {x y : VarC} (h : ¬ x = y) : (x.nm.toList == y.nm.toList) = false ∨ ((x.nm.toList == y.nm.toList) = true ∧ (x.kd == y.kd) = false) ∨ ((x.nm.toList == y.nm.toList) = true ∧ (x.kd == y.kd) = true ∧ (x.sz == y.sz) = false) ∨
    ((x.nm.toList == y.nm.toList) = true ∧ (x.kd == y.kd) = true ∧ (x.sz == y.sz) = true ∧ (x.sc == y.sc) = false) := by
  rw [bytes_beq', int_beq', int_beq']
  cases h1 : same x.nm y.nm
  · exact .inl rfl
  · refine .inr ?_
    cases h2 : same x.kd y.kd
    · exact .inl ⟨rfl, rfl⟩
    · refine .inr ?_
      cases h3 : same x.sz y.sz
      · exact .inl ⟨rfl, rfl, rfl⟩
      · refine .inr ⟨rfl, rfl, rfl, ?_⟩
        have h1 := same_true.1 h1
        have h2 := same_true.1 h2
        have h3 := same_true.1 h3
        cases hb : (x.sc == y.sc)
        · rfl
        · exact absurd (by cases x; cases y; simp_all) h
theorem neR {x y : RegC} (h : ¬ x = y) : (x.nm.toList == y.nm.toList) = false ∨ ((x.nm.toList == y.nm.toList) = true ∧ (x.ad == y.ad) = false) ∨ ((x.nm.toList == y.nm.toList) = true ∧ (x.ad == y.ad) = true ∧ (x.sz == y.sz) = false) ∨
    ((x.nm.toList == y.nm.toList) = true ∧ (x.ad == y.ad) = true ∧ (x.sz == y.sz) = true ∧ (x.sc == y.sc) = false) := by
  rw [bytes_beq', int_beq', int_beq']
  cases h1 : same x.nm y.nm
  · exact .inl rfl
  · refine .inr ?_
    cases h2 : same x.ad y.ad
    · exact .inl ⟨rfl, rfl⟩
    · refine .inr ?_
      cases h3 : same x.sz y.sz
      · exact .inl ⟨rfl, rfl, rfl⟩
      · refine .inr ⟨rfl, rfl, rfl, ?_⟩
        have h1 := same_true.1 h1
        have h2 := same_true.1 h2
        have h3 := same_true.1 h3
        cases hb : (x.sc == y.sc)
        · rfl
        · exact absurd (by cases x; cases y; simp_all) h

set_option maxRecDepth 100000 in
set_option maxHeartbeats 8000000 in
theorem eqS_any (w0 : World) (L M : List ByteArray) (A B : Option Addr) (hL : CellsAt 1 cellsS w0 L A) (hM : CellsAt 1 cellsS w0 M B) (c d : Nat) (W : World) (hW : Below w0.heap.size w0 W) (hn : L.length ≤ 1000000) (hm : M.length ≤ 1000000) :
    Calls Tryz.prog 87 #[.slice A L.length c, .slice B M.length d] W (BoolPost (same L M) W) := by
  have hL' := Lib.hid hL
  have hM' := Lib.hid hM
  have hW' := Lib.hid hW
  obtain ⟨n, hnn⟩ : ∃ n, L.length = n := ⟨_, rfl⟩
  obtain ⟨m, hmm⟩ : ∃ m, M.length = m := ⟨_, rfl⟩
  rw [hnn] at hn ⊢
  rw [hmm] at hm ⊢
  have hLn := Lib.hid hnn
  have hMn := Lib.hid hmm
  clear hL hM hW hnn hmm
  by_cases hnm : n = m
  · subst hnm
    have e1 : ¬ ¬ ((n : Int) = (n : Int)) := by omega
    go_enter Tryz.func87, Tryz.ntmps87
    go_wp2_with fail
    go_loopg [13] n (fun g s13 wr => ∃ k : Nat, k + g = n ∧ s13 = .int .i64 k ∧ (∀ i : Nat, i < k → L[i]? = M[i]?) ∧ Below W.heap.size W wr)
    case atStart => exact ⟨0, by omega, rfl, fun i h => absurd h (by omega), Below.refl _ _⟩
    case round =>
      obtain ⟨k, hkg, rfl, hall, hbr⟩ := hrel
      have hall' := Lib.hid hall
      have hbr' := Lib.hid hbr
      clear hall hbr
      cases gk with
      | zero =>
        have e0 : ¬ ((k : Int) < (n : Int)) := by omega
        have hs := Lib.hid (show same L M = true from same_true.2 (List.ext_getElem? fun i => by
          by_cases hi : i < k
          · exact hall'.out i hi
          · rw [List.getElem?_eq_none (by have := hLn.out; omega), List.getElem?_eq_none (by have := hMn.out; omega)]))
        go_wp2
        go_ret
        exact ⟨by rw [hs.out]; rfl, hbr'.out⟩
      | succ g2 =>
        have e0 : (k : Int) < (n : Int) := by omega
        have hbw := Lib.hid (hW'.out.trans (hbr'.out.mono hW'.out.size))
        obtain ⟨blk, off, x, rfl, hx, hcx⟩ := (hL'.out).at_ (i := k) (by rw [hLn.out]; omega)
        obtain ⟨blk', off', y, rfl, hy, hcy⟩ := (hM'.out).at_ (i := k) (by rw [hMn.out]; omega)
        have v0 : w0.cell? ⟨blk, off + k, none⟩ = some (.string x) := by have := hcx 0 (by omega); rw [Nat.mul_one] at this; exact this
        have v0 := (hbw.out.cell (p := ⟨blk, off + k, none⟩) (cell_some_lt v0)).trans v0
        have u0 : w0.cell? ⟨blk', off' + k, none⟩ = some (.string y) := by have := hcy 0 (by omega); rw [Nat.mul_one] at this; exact this
        have u0 := (hbw.out.cell (p := ⟨blk', off' + k, none⟩) (cell_some_lt u0)).trans u0
        have hx' := Lib.hid hx
        have hy' := Lib.hid hy
        by_cases hxy : x = y
        · subst hxy
          clear hcx hcy hx hy
          go_wp2_with fail
          go_quiet (fail)
          go_wp2
          go_roundg g2
          case measure => omega
          case rel => exact ⟨k + 1, by omega, by go_num, fun i hi => by
              rcases Nat.lt_or_ge i k with h | h
              · exact hall'.out i h
              · obtain rfl : i = k := by omega
                rw [hx'.out, hy'.out], below_drewN hbr'.out _⟩
        · have hs := Lib.hid (show same L M = false from same_false.2 (by
            rintro rfl
            have h := hx'.out.symm.trans hy'.out
            injection h with h
            exact hxy h))
          have hne : (x.toList == y.toList) = false := by rw [bytes_beq']; exact same_false.2 hxy
          all_goals
            clear hcx hcy hx hy
            go_wp2_with fail
            go_quiet (fail)
            go_wp2
            go_ret
            exact ⟨by rw [hs.out]; rfl, below_drewN hbr'.out _⟩
  · have e1 : ¬ ((n : Int) = (m : Int)) := by omega
    have hs := Lib.hid (show same L M = false from same_false.2 (by
      rintro rfl
      exact hnm (hLn.out.symm.trans hMn.out)))
    go_enter Tryz.func87, Tryz.ntmps87
    go_wp2
    go_ret
    exact ⟨by rw [hs.out]; rfl, Below.refl _ _⟩

set_option maxRecDepth 100000 in
set_option maxHeartbeats 8000000 in
theorem eqV_any (w0 : World) (L M : List VarC) (A B : Option Addr) (hL : CellsAt 4 cellsV w0 L A) (hM : CellsAt 4 cellsV w0 M B) (c d : Nat) (W : World) (hW : Below w0.heap.size w0 W) (hn : L.length ≤ 1000000) (hm : M.length ≤ 1000000) :
    Calls Tryz.prog 86 #[.slice A L.length c, .slice B M.length d] W (BoolPost (same L M) W) := by
  have hL' := Lib.hid hL
  have hM' := Lib.hid hM
  have hW' := Lib.hid hW
  obtain ⟨n, hnn⟩ : ∃ n, L.length = n := ⟨_, rfl⟩
  obtain ⟨m, hmm⟩ : ∃ m, M.length = m := ⟨_, rfl⟩
  rw [hnn] at hn ⊢
  rw [hmm] at hm ⊢
  have hLn := Lib.hid hnn
  have hMn := Lib.hid hmm
  clear hL hM hW hnn hmm
  by_cases hnm : n = m
  · subst hnm
    have e1 : ¬ ¬ ((n : Int) = (n : Int)) := by omega
    go_enter Tryz.func86, Tryz.ntmps86
    go_wp2_with fail
    go_loopg [13] n (fun g s13 wr => ∃ k : Nat, k + g = n ∧ s13 = .int .i64 k ∧ (∀ i : Nat, i < k → L[i]? = M[i]?) ∧ Below W.heap.size W wr)
    case atStart => exact ⟨0, by omega, rfl, fun i h => absurd h (by omega), Below.refl _ _⟩
    case round =>
      obtain ⟨k, hkg, rfl, hall, hbr⟩ := hrel
      have hall' := Lib.hid hall
      have hbr' := Lib.hid hbr
      clear hall hbr
      cases gk with
      | zero =>
        have e0 : ¬ ((k : Int) < (n : Int)) := by omega
        have hs := Lib.hid (show same L M = true from same_true.2 (List.ext_getElem? fun i => by
          by_cases hi : i < k
          · exact hall'.out i hi
          · rw [List.getElem?_eq_none (by have := hLn.out; omega), List.getElem?_eq_none (by have := hMn.out; omega)]))
        go_wp2
        go_ret
        exact ⟨by rw [hs.out]; rfl, hbr'.out⟩
      | succ g2 =>
        have e0 : (k : Int) < (n : Int) := by omega
        have hbw := Lib.hid (hW'.out.trans (hbr'.out.mono hW'.out.size))
        obtain ⟨blk, off, x, rfl, hx, hcx⟩ := (hL'.out).at_ (i := k) (by rw [hLn.out]; omega)
        obtain ⟨blk', off', y, rfl, hy, hcy⟩ := (hM'.out).at_ (i := k) (by rw [hMn.out]; omega)
        have v0 : w0.cell? ⟨blk, off + k * 4, none⟩ = some (.string x.nm) := by have := hcx 0 (by omega); exact this
        have v0 := (hbw.out.cell (p := ⟨blk, off + k * 4, none⟩) (cell_some_lt v0)).trans v0
        have u0 : w0.cell? ⟨blk', off' + k * 4, none⟩ = some (.string y.nm) := by have := hcy 0 (by omega); exact this
        have u0 := (hbw.out.cell (p := ⟨blk', off' + k * 4, none⟩) (cell_some_lt u0)).trans u0
        have v1 : w0.cell? ⟨blk, off + k * 4 + 1, none⟩ = some (.int .i64 x.kd) := by have := hcx 1 (by omega); exact this
        have v1 := (hbw.out.cell (p := ⟨blk, off + k * 4 + 1, none⟩) (cell_some_lt v1)).trans v1
        have u1 : w0.cell? ⟨blk', off' + k * 4 + 1, none⟩ = some (.int .i64 y.kd) := by have := hcy 1 (by omega); exact this
        have u1 := (hbw.out.cell (p := ⟨blk', off' + k * 4 + 1, none⟩) (cell_some_lt u1)).trans u1
        have v2 : w0.cell? ⟨blk, off + k * 4 + 2, none⟩ = some (.int .i64 x.sz) := by have := hcx 2 (by omega); exact this
        have v2 := (hbw.out.cell (p := ⟨blk, off + k * 4 + 2, none⟩) (cell_some_lt v2)).trans v2
        have u2 : w0.cell? ⟨blk', off' + k * 4 + 2, none⟩ = some (.int .i64 y.sz) := by have := hcy 2 (by omega); exact this
        have u2 := (hbw.out.cell (p := ⟨blk', off' + k * 4 + 2, none⟩) (cell_some_lt u2)).trans u2
        have v3 : w0.cell? ⟨blk, off + k * 4 + 3, none⟩ = some (.bool x.sc) := by have := hcx 3 (by omega); exact this
        have v3 := (hbw.out.cell (p := ⟨blk, off + k * 4 + 3, none⟩) (cell_some_lt v3)).trans v3
        have u3 : w0.cell? ⟨blk', off' + k * 4 + 3, none⟩ = some (.bool y.sc) := by have := hcy 3 (by omega); exact this
        have u3 := (hbw.out.cell (p := ⟨blk', off' + k * 4 + 3, none⟩) (cell_some_lt u3)).trans u3
        have hx' := Lib.hid hx
        have hy' := Lib.hid hy
        by_cases hxy : x = y
        · subst hxy
          clear hcx hcy hx hy
          go_wp2_with fail
          go_quiet (fail)
          go_wp2
          go_roundg g2
          case measure => omega
          case rel => exact ⟨k + 1, by omega, by go_num, fun i hi => by
              rcases Nat.lt_or_ge i k with h | h
              · exact hall'.out i h
              · obtain rfl : i = k := by omega
                rw [hx'.out, hy'.out], below_drewN hbr'.out _⟩
        · have hs := Lib.hid (show same L M = false from same_false.2 (by
            rintro rfl
            have h := hx'.out.symm.trans hy'.out
            injection h with h
            exact hxy h))
          rcases neV hxy with q1 | ⟨q1, q2⟩ | ⟨q1, q2, q3⟩ | ⟨q1, q2, q3, q4⟩
          all_goals
            clear hcx hcy hx hy
            go_wp2_with fail
            go_quiet (fail)
            go_wp2
            go_ret
            exact ⟨by rw [hs.out]; rfl, below_drewN hbr'.out _⟩
  · have e1 : ¬ ((n : Int) = (m : Int)) := by omega
    have hs := Lib.hid (show same L M = false from same_false.2 (by
      rintro rfl
      exact hnm (hLn.out.symm.trans hMn.out)))
    go_enter Tryz.func86, Tryz.ntmps86
    go_wp2
    go_ret
    exact ⟨by rw [hs.out]; rfl, Below.refl _ _⟩

set_option maxRecDepth 100000 in
set_option maxHeartbeats 8000000 in
theorem eqR_any (w0 : World) (L M : List RegC) (A B : Option Addr) (hL : CellsAt 4 cellsR w0 L A) (hM : CellsAt 4 cellsR w0 M B) (c d : Nat) (W : World) (hW : Below w0.heap.size w0 W) (hn : L.length ≤ 1000000) (hm : M.length ≤ 1000000) :
    Calls Tryz.prog 88 #[.slice A L.length c, .slice B M.length d] W (BoolPost (same L M) W) := by
  have hL' := Lib.hid hL
  have hM' := Lib.hid hM
  have hW' := Lib.hid hW
  obtain ⟨n, hnn⟩ : ∃ n, L.length = n := ⟨_, rfl⟩
  obtain ⟨m, hmm⟩ : ∃ m, M.length = m := ⟨_, rfl⟩
  rw [hnn] at hn ⊢
  rw [hmm] at hm ⊢
  have hLn := Lib.hid hnn
  have hMn := Lib.hid hmm
  clear hL hM hW hnn hmm
  by_cases hnm : n = m
  · subst hnm
    have e1 : ¬ ¬ ((n : Int) = (n : Int)) := by omega
    go_enter Tryz.func88, Tryz.ntmps88
    go_wp2_with fail
    go_loopg [13] n (fun g s13 wr => ∃ k : Nat, k + g = n ∧ s13 = .int .i64 k ∧ (∀ i : Nat, i < k → L[i]? = M[i]?) ∧ Below W.heap.size W wr)
    case atStart => exact ⟨0, by omega, rfl, fun i h => absurd h (by omega), Below.refl _ _⟩
    case round =>
      obtain ⟨k, hkg, rfl, hall, hbr⟩ := hrel
      have hall' := Lib.hid hall
      have hbr' := Lib.hid hbr
      clear hall hbr
      cases gk with
      | zero =>
        have e0 : ¬ ((k : Int) < (n : Int)) := by omega
        have hs := Lib.hid (show same L M = true from same_true.2 (List.ext_getElem? fun i => by
          by_cases hi : i < k
          · exact hall'.out i hi
          · rw [List.getElem?_eq_none (by have := hLn.out; omega), List.getElem?_eq_none (by have := hMn.out; omega)]))
        go_wp2
        go_ret
        exact ⟨by rw [hs.out]; rfl, hbr'.out⟩
      | succ g2 =>
        have e0 : (k : Int) < (n : Int) := by omega
        have hbw := Lib.hid (hW'.out.trans (hbr'.out.mono hW'.out.size))
        obtain ⟨blk, off, x, rfl, hx, hcx⟩ := (hL'.out).at_ (i := k) (by rw [hLn.out]; omega)
        obtain ⟨blk', off', y, rfl, hy, hcy⟩ := (hM'.out).at_ (i := k) (by rw [hMn.out]; omega)
        have v0 : w0.cell? ⟨blk, off + k * 4, none⟩ = some (.string x.nm) := by have := hcx 0 (by omega); exact this
        have v0 := (hbw.out.cell (p := ⟨blk, off + k * 4, none⟩) (cell_some_lt v0)).trans v0
        have u0 : w0.cell? ⟨blk', off' + k * 4, none⟩ = some (.string y.nm) := by have := hcy 0 (by omega); exact this
        have u0 := (hbw.out.cell (p := ⟨blk', off' + k * 4, none⟩) (cell_some_lt u0)).trans u0
        have v1 : w0.cell? ⟨blk, off + k * 4 + 1, none⟩ = some (.int .i64 x.ad) := by have := hcx 1 (by omega); exact this
        have v1 := (hbw.out.cell (p := ⟨blk, off + k * 4 + 1, none⟩) (cell_some_lt v1)).trans v1
        have u1 : w0.cell? ⟨blk', off' + k * 4 + 1, none⟩ = some (.int .i64 y.ad) := by have := hcy 1 (by omega); exact this
        have u1 := (hbw.out.cell (p := ⟨blk', off' + k * 4 + 1, none⟩) (cell_some_lt u1)).trans u1
        have v2 : w0.cell? ⟨blk, off + k * 4 + 2, none⟩ = some (.int .i64 x.sz) := by have := hcx 2 (by omega); exact this
        have v2 := (hbw.out.cell (p := ⟨blk, off + k * 4 + 2, none⟩) (cell_some_lt v2)).trans v2
        have u2 : w0.cell? ⟨blk', off' + k * 4 + 2, none⟩ = some (.int .i64 y.sz) := by have := hcy 2 (by omega); exact this
        have u2 := (hbw.out.cell (p := ⟨blk', off' + k * 4 + 2, none⟩) (cell_some_lt u2)).trans u2
        have v3 : w0.cell? ⟨blk, off + k * 4 + 3, none⟩ = some (.bool x.sc) := by have := hcx 3 (by omega); exact this
        have v3 := (hbw.out.cell (p := ⟨blk, off + k * 4 + 3, none⟩) (cell_some_lt v3)).trans v3
        have u3 : w0.cell? ⟨blk', off' + k * 4 + 3, none⟩ = some (.bool y.sc) := by have := hcy 3 (by omega); exact this
        have u3 := (hbw.out.cell (p := ⟨blk', off' + k * 4 + 3, none⟩) (cell_some_lt u3)).trans u3
        have hx' := Lib.hid hx
        have hy' := Lib.hid hy
        by_cases hxy : x = y
        · subst hxy
          clear hcx hcy hx hy
          go_wp2_with fail
          go_quiet (fail)
          go_wp2
          go_roundg g2
          case measure => omega
          case rel => exact ⟨k + 1, by omega, by go_num, fun i hi => by
              rcases Nat.lt_or_ge i k with h | h
              · exact hall'.out i h
              · obtain rfl : i = k := by omega
                rw [hx'.out, hy'.out], below_drewN hbr'.out _⟩
        · have hs := Lib.hid (show same L M = false from same_false.2 (by
            rintro rfl
            have h := hx'.out.symm.trans hy'.out
            injection h with h
            exact hxy h))
          rcases neR hxy with q1 | ⟨q1, q2⟩ | ⟨q1, q2, q3⟩ | ⟨q1, q2, q3, q4⟩
          all_goals
            clear hcx hcy hx hy
            go_wp2_with fail
            go_quiet (fail)
            go_wp2
            go_ret
            exact ⟨by rw [hs.out]; rfl, below_drewN hbr'.out _⟩
  · have e1 : ¬ ((n : Int) = (m : Int)) := by omega
    have hs := Lib.hid (show same L M = false from same_false.2 (by
      rintro rfl
      exact hnm (hLn.out.symm.trans hMn.out)))
    go_enter Tryz.func88, Tryz.ntmps88
    go_wp2
    go_ret
    exact ⟨by rw [hs.out]; rfl, Below.refl _ _⟩

set_option maxRecDepth 100000 in
set_option maxHeartbeats 8000000 in
theorem sameNames_any (w0 : World) (L M : List ByteArray) (A B : Option Addr) (hL : CellsAt 1 cellsS w0 L A) (hM : CellsAt 1 cellsS w0 M B) (c d : Nat) (W : World) (hW : Below w0.heap.size w0 W) (hn : L.length ≤ 1000000) (hm : M.length ≤ 1000000) :
    Calls Tryz.prog 78 #[.slice A L.length c, .slice B M.length d] W (BoolPost (same L M) W) := by
  have hL' := Lib.hid hL
  have hM' := Lib.hid hM
  have hW' := Lib.hid hW
  obtain ⟨n, hnn⟩ : ∃ n, L.length = n := ⟨_, rfl⟩
  obtain ⟨m, hmm⟩ : ∃ m, M.length = m := ⟨_, rfl⟩
  rw [hnn] at hn ⊢
  rw [hmm] at hm ⊢
  have hLn := Lib.hid hnn
  have hMn := Lib.hid hmm
  clear hL hM hW hnn hmm
  by_cases hnm : n = m
  · subst hnm
    have e1 : ¬ ¬ ((n : Int) = (n : Int)) := by omega
    go_enter Tryz.func78, Tryz.ntmps78
    go_wp2_with fail
    go_loopg [5] n (fun g s13 wr => ∃ k : Nat, k + g = n ∧ s13 = .int .i64 k ∧ (∀ i : Nat, i < k → L[i]? = M[i]?) ∧ Below W.heap.size W wr)
    case atStart => exact ⟨0, by omega, rfl, fun i h => absurd h (by omega), Below.refl _ _⟩
    case round =>
      obtain ⟨k, hkg, rfl, hall, hbr⟩ := hrel
      have hall' := Lib.hid hall
      have hbr' := Lib.hid hbr
      clear hall hbr
      cases gk with
      | zero =>
        have e0 : ¬ ((k : Int) < (n : Int)) := by omega
        have hs := Lib.hid (show same L M = true from same_true.2 (List.ext_getElem? fun i => by
          by_cases hi : i < k
          · exact hall'.out i hi
          · rw [List.getElem?_eq_none (by have := hLn.out; omega), List.getElem?_eq_none (by have := hMn.out; omega)]))
        go_wp2
        go_ret
        exact ⟨by rw [hs.out]; rfl, hbr'.out⟩
      | succ g2 =>
        have e0 : (k : Int) < (n : Int) := by omega
        have hbw := Lib.hid (hW'.out.trans (hbr'.out.mono hW'.out.size))
        obtain ⟨blk, off, x, rfl, hx, hcx⟩ := (hL'.out).at_ (i := k) (by rw [hLn.out]; omega)
        obtain ⟨blk', off', y, rfl, hy, hcy⟩ := (hM'.out).at_ (i := k) (by rw [hMn.out]; omega)
        have v0 : w0.cell? ⟨blk, off + k, none⟩ = some (.string x) := by have := hcx 0 (by omega); rw [Nat.mul_one] at this; exact this
        have v0 := (hbw.out.cell (p := ⟨blk, off + k, none⟩) (cell_some_lt v0)).trans v0
        have u0 : w0.cell? ⟨blk', off' + k, none⟩ = some (.string y) := by have := hcy 0 (by omega); rw [Nat.mul_one] at this; exact this
        have u0 := (hbw.out.cell (p := ⟨blk', off' + k, none⟩) (cell_some_lt u0)).trans u0
        have hx' := Lib.hid hx
        have hy' := Lib.hid hy
        by_cases hxy : x = y
        · subst hxy
          clear hcx hcy hx hy
          go_wp2_with fail
          go_quiet (fail)
          go_wp2
          go_roundg g2
          case measure => omega
          case rel => exact ⟨k + 1, by omega, by go_num, fun i hi => by
              rcases Nat.lt_or_ge i k with h | h
              · exact hall'.out i h
              · obtain rfl : i = k := by omega
                rw [hx'.out, hy'.out], below_drewN hbr'.out _⟩
        · have hs := Lib.hid (show same L M = false from same_false.2 (by
            rintro rfl
            have h := hx'.out.symm.trans hy'.out
            injection h with h
            exact hxy h))
          have hne : (x.toList == y.toList) = false := by rw [bytes_beq']; exact same_false.2 hxy
          all_goals
            clear hcx hcy hx hy
            go_wp2_with fail
            go_quiet (fail)
            go_wp2
            go_ret
            exact ⟨by rw [hs.out]; rfl, below_drewN hbr'.out _⟩
  · have e1 : ¬ ((n : Int) = (m : Int)) := by omega
    have hs := Lib.hid (show same L M = false from same_false.2 (by
      rintro rfl
      exact hnm (hLn.out.symm.trans hMn.out)))
    go_enter Tryz.func78, Tryz.ntmps78
    go_wp2
    go_ret
    exact ⟨by rw [hs.out]; rfl, Below.refl _ _⟩

set_option maxRecDepth 100000 in
set_option maxHeartbeats 8000000 in
theorem sameVars_any (w0 : World) (L M : List VarC) (A B : Option Addr) (hL : CellsAt 4 cellsV w0 L A) (hM : CellsAt 4 cellsV w0 M B) (c d : Nat) (W : World) (hW : Below w0.heap.size w0 W) (hn : L.length ≤ 1000000) (hm : M.length ≤ 1000000) :
    Calls Tryz.prog 77 #[.slice A L.length c, .slice B M.length d] W (BoolPost (same L M) W) := by
  have hL' := Lib.hid hL
  have hM' := Lib.hid hM
  have hW' := Lib.hid hW
  obtain ⟨n, hnn⟩ : ∃ n, L.length = n := ⟨_, rfl⟩
  obtain ⟨m, hmm⟩ : ∃ m, M.length = m := ⟨_, rfl⟩
  rw [hnn] at hn ⊢
  rw [hmm] at hm ⊢
  have hLn := Lib.hid hnn
  have hMn := Lib.hid hmm
  clear hL hM hW hnn hmm
  by_cases hnm : n = m
  · subst hnm
    have e1 : ¬ ¬ ((n : Int) = (n : Int)) := by omega
    go_enter Tryz.func77, Tryz.ntmps77
    go_wp2_with fail
    go_loopg [5] n (fun g s13 wr => ∃ k : Nat, k + g = n ∧ s13 = .int .i64 k ∧ (∀ i : Nat, i < k → L[i]? = M[i]?) ∧ Below W.heap.size W wr)
    case atStart => exact ⟨0, by omega, rfl, fun i h => absurd h (by omega), Below.refl _ _⟩
    case round =>
      obtain ⟨k, hkg, rfl, hall, hbr⟩ := hrel
      have hall' := Lib.hid hall
      have hbr' := Lib.hid hbr
      clear hall hbr
      cases gk with
      | zero =>
        have e0 : ¬ ((k : Int) < (n : Int)) := by omega
        have hs := Lib.hid (show same L M = true from same_true.2 (List.ext_getElem? fun i => by
          by_cases hi : i < k
          · exact hall'.out i hi
          · rw [List.getElem?_eq_none (by have := hLn.out; omega), List.getElem?_eq_none (by have := hMn.out; omega)]))
        go_wp2
        go_ret
        exact ⟨by rw [hs.out]; rfl, hbr'.out⟩
      | succ g2 =>
        have e0 : (k : Int) < (n : Int) := by omega
        have hbw := Lib.hid (hW'.out.trans (hbr'.out.mono hW'.out.size))
        obtain ⟨blk, off, x, rfl, hx, hcx⟩ := (hL'.out).at_ (i := k) (by rw [hLn.out]; omega)
        obtain ⟨blk', off', y, rfl, hy, hcy⟩ := (hM'.out).at_ (i := k) (by rw [hMn.out]; omega)
        have v0 : w0.cell? ⟨blk, off + k * 4, none⟩ = some (.string x.nm) := by have := hcx 0 (by omega); exact this
        have v0 := (hbw.out.cell (p := ⟨blk, off + k * 4, none⟩) (cell_some_lt v0)).trans v0
        have u0 : w0.cell? ⟨blk', off' + k * 4, none⟩ = some (.string y.nm) := by have := hcy 0 (by omega); exact this
        have u0 := (hbw.out.cell (p := ⟨blk', off' + k * 4, none⟩) (cell_some_lt u0)).trans u0
        have v1 : w0.cell? ⟨blk, off + k * 4 + 1, none⟩ = some (.int .i64 x.kd) := by have := hcx 1 (by omega); exact this
        have v1 := (hbw.out.cell (p := ⟨blk, off + k * 4 + 1, none⟩) (cell_some_lt v1)).trans v1
        have u1 : w0.cell? ⟨blk', off' + k * 4 + 1, none⟩ = some (.int .i64 y.kd) := by have := hcy 1 (by omega); exact this
        have u1 := (hbw.out.cell (p := ⟨blk', off' + k * 4 + 1, none⟩) (cell_some_lt u1)).trans u1
        have v2 : w0.cell? ⟨blk, off + k * 4 + 2, none⟩ = some (.int .i64 x.sz) := by have := hcx 2 (by omega); exact this
        have v2 := (hbw.out.cell (p := ⟨blk, off + k * 4 + 2, none⟩) (cell_some_lt v2)).trans v2
        have u2 : w0.cell? ⟨blk', off' + k * 4 + 2, none⟩ = some (.int .i64 y.sz) := by have := hcy 2 (by omega); exact this
        have u2 := (hbw.out.cell (p := ⟨blk', off' + k * 4 + 2, none⟩) (cell_some_lt u2)).trans u2
        have v3 : w0.cell? ⟨blk, off + k * 4 + 3, none⟩ = some (.bool x.sc) := by have := hcx 3 (by omega); exact this
        have v3 := (hbw.out.cell (p := ⟨blk, off + k * 4 + 3, none⟩) (cell_some_lt v3)).trans v3
        have u3 : w0.cell? ⟨blk', off' + k * 4 + 3, none⟩ = some (.bool y.sc) := by have := hcy 3 (by omega); exact this
        have u3 := (hbw.out.cell (p := ⟨blk', off' + k * 4 + 3, none⟩) (cell_some_lt u3)).trans u3
        have hx' := Lib.hid hx
        have hy' := Lib.hid hy
        by_cases hxy : x = y
        · subst hxy
          clear hcx hcy hx hy
          go_wp2_with fail
          go_quiet (fail)
          go_wp2
          go_roundg g2
          case measure => omega
          case rel => exact ⟨k + 1, by omega, by go_num, fun i hi => by
              rcases Nat.lt_or_ge i k with h | h
              · exact hall'.out i h
              · obtain rfl : i = k := by omega
                rw [hx'.out, hy'.out], below_drewN hbr'.out _⟩
        · have hs := Lib.hid (show same L M = false from same_false.2 (by
            rintro rfl
            have h := hx'.out.symm.trans hy'.out
            injection h with h
            exact hxy h))
          rcases neV hxy with q1 | ⟨q1, q2⟩ | ⟨q1, q2, q3⟩ | ⟨q1, q2, q3, q4⟩
          all_goals
            clear hcx hcy hx hy
            go_wp2_with fail
            go_quiet (fail)
            go_wp2
            go_ret
            exact ⟨by rw [hs.out]; rfl, below_drewN hbr'.out _⟩
  · have e1 : ¬ ((n : Int) = (m : Int)) := by omega
    have hs := Lib.hid (show same L M = false from same_false.2 (by
      rintro rfl
      exact hnm (hLn.out.symm.trans hMn.out)))
    go_enter Tryz.func77, Tryz.ntmps77
    go_wp2
    go_ret
    exact ⟨by rw [hs.out]; rfl, Below.refl _ _⟩
end Go.Proofs.YtnahgfdoiflacaaGreatDoor
