/- Programs: whether they are the same: the reference's way. -/
import Derived.Test.YtnahgfdoiflacaaGreatDoorCJ
import Derived.Test.YtnahgfdoiflacaaGreatDoorCH
import Derived.BigRegion
import Derived.BigQuiet
import Derived.Deep.Cut
import Derived.Deep.DeepCutAuto
set_option linter.unusedSimpArgs false
set_option linter.unusedVariables false
namespace Go.Proofs.YtnahgfdoiflacaaGreatDoor
open Go.RowKit Go.Lib Go.Shelf

/-- what the tests of two functions come to -/
structure RefF (w0 : World) (x y : Fn) (r s : FnC) : Prop where
  sam : same x y = ((r.nm.toList == s.nm.toList) && (same x.ps y.ps && (same x.vs y.vs && (same x.rs y.rs && same x.bd y.bd))))
  tp : ∀ (W' : World), Below w0.heap.size w0 W' → Calls Tryz.prog 77 #[.slice r.ps.a r.ps.n r.ps.c, .slice s.ps.a s.ps.n s.ps.c] W' (BoolPost (same x.ps y.ps) W')
  tv : ∀ (W' : World), Below w0.heap.size w0 W' → Calls Tryz.prog 77 #[.slice r.vs.a r.vs.n r.vs.c, .slice s.vs.a s.vs.n s.vs.c] W' (BoolPost (same x.vs y.vs) W')
  tr : ∀ (W' : World), Below w0.heap.size w0 W' → Calls Tryz.prog 78 #[.slice r.rs.a r.rs.n r.rs.c, .slice s.rs.a s.rs.n s.rs.c] W' (BoolPost (same x.rs y.rs) W')
  tb : ∀ (W' : World), Below w0.heap.size w0 W' → Calls Tryz.prog 36 #[.slice r.bd.a r.bd.n r.bd.c, .slice s.bd.a s.bd.n s.bd.c] W' (BoolPost (same x.bd y.bd) W')
theorem refF (w0 : World) (x y : Fn) (r s : FnC) (hx : FNow w0 x r) (hy : FNow w0 y s) (hcx : cntF x ≤ 1000000) (hcy : cntF y ≤ 1000000) : RefF w0 x y r s := by
  have l1 := len_cntV x.ps
  have l2 := len_cntV y.ps
  have l3 := len_cntV x.vs
  have l4 := len_cntV y.vs
  have l5 := len_cntN x.rs
  have l6 := len_cntN y.rs
  unfold cntF at hcx hcy
  refine ⟨?_, fun W' hW' => ?_, fun W' hW' => ?_, fun W' hW' => ?_, fun W' hW' => ?_⟩
  · rw [same_fn, hx.nm, hy.nm, bytes_beq']
  · rw [hx.ps, hy.ps]
    exact sameVars_any w0 x.ps y.ps _ _ hx.psA hy.psA _ _ W' hW' (by omega) (by omega)
  · rw [hx.vs, hy.vs]
    exact sameVars_any w0 x.vs y.vs _ _ hx.vsA hy.vsA _ _ W' hW' (by omega) (by omega)
  · rw [hx.rs, hy.rs]
    exact sameNames_any w0 x.rs y.rs _ _ hx.rsA hy.rsA _ _ W' hW' (by omega) (by omega)
  · rw [hx.bd, hy.bd]
    exact refSameSts_any w0 x.bd _ hx.bdA y.bd _ _ _ W' (by omega) (by omega) hy.bdA hW'
theorem list_ext_to {α : Type} {L M : List α} {n k : Nat} (hL : L.length = n) (hM : M.length = n) (hk : n ≤ k) (h : ∀ i : Nat, i < k → L[i]? = M[i]?) : L = M :=
  List.ext_getElem? fun i => by
    by_cases hi : i < k
    · exact h i hi
    · rw [List.getElem?_eq_none (by omega), List.getElem?_eq_none (by omega)]

set_option maxRecDepth 100000 in
set_option maxHeartbeats 16000000 in
theorem refSame_any (w0 : World) (p q : Pg) (A B A' B' : Option Addr) (c d c' d' : Nat) (hr : CellsAt 4 cellsR w0 p.rs A) (hf : FnsAt w0 p.fs B) (hr' : CellsAt 4 cellsR w0 q.rs A') (hf' : FnsAt w0 q.fs B') (W : World) (hW : Below w0.heap.size w0 W) (hcp : cntP p ≤ 1000000) (hcq : cntP q ≤ 1000000) :
    Calls Tryz.prog 23 #[pgV p A c B d, pgV q A' c' B' d'] W (BoolPost (same p q) W) := by
  have hR := Lib.hid hr
  have hR' := Lib.hid hr'
  have hF := Lib.hid hf
  have hF' := Lib.hid hf'
  unfold cntP at hcp hcq
  have hcp := Lib.hid hcp
  have hcq := Lib.hid hcq
  unfold pgV
  obtain ⟨n1, hn1⟩ : ∃ n, p.rs.length = n := ⟨_, rfl⟩
  obtain ⟨n2, hn2⟩ : ∃ n, p.fs.length = n := ⟨_, rfl⟩
  obtain ⟨m1, hm1⟩ : ∃ n, q.rs.length = n := ⟨_, rfl⟩
  obtain ⟨m2, hm2⟩ : ∃ n, q.fs.length = n := ⟨_, rfl⟩
  rw [hn1, hn2, hm1, hm2]
  have hn1b : n1 ≤ 1000000 := by have := hcp.out; omega
  have hn2b : n2 ≤ 1000000 := by have := hcp.out; omega
  have hn1' := Lib.hid hn1
  have hn2' := Lib.hid hn2
  have hm1' := Lib.hid hm1
  have hm2' := Lib.hid hm2
  obtain ⟨W1, hW1⟩ : ∃ W1, W.alloc (.cells #[.slice A n1 c, .slice B n2 d] 39) = W1 := ⟨_, rfl⟩
  obtain ⟨W2, hW2⟩ : ∃ W2, W1.alloc (.cells #[.slice A' m1 c', .slice B' m2 d'] 39) = W2 := ⟨_, rfl⟩
  have hb1 : Below W.heap.size W W1 := by rw [← hW1]; exact (Below.refl _ W).alloc (Nat.le_refl _) _
  have hb2 : Below W.heap.size W W2 := by rw [← hW2]; exact hb1.alloc hb1.size _
  have hs1 : W1.heap.size = W.heap.size + 1 := by rw [← hW1]; simp
  have hx1 : W1.heap[W.heap.size]? = some (.cells #[.slice A n1 c, .slice B n2 d] 39 (0, 0)) := by rw [← hW1]; exact heap_alloc_new _ _
  have hY : W2.heap[W1.heap.size]? = some (.cells #[.slice A' m1 c', .slice B' m2 d'] 39 (0, 0)) := by rw [← hW2]; exact heap_alloc_new _ _
  have hX : W2.heap[W.heap.size]? = some (.cells #[.slice A n1 c, .slice B n2 d] 39 (0, 0)) := by rw [← hW2, heap_alloc_old _ _ (by omega)]; exact hx1
  obtain ⟨a0, a1⟩ := box2 hX
  obtain ⟨d0, d1⟩ := box2 hY
  have up := Lib.hid fun (W' : World) (h : Below W2.heap.size W2 W') => (hW.trans ((Below.next hb2 h).mono hW.size) : Below w0.heap.size w0 W')
  have hX := Lib.hid hX
  have hY := Lib.hid hY
  have hb2 := Lib.hid hb2
  have hsp := Lib.hid (same_pg p q)
  clear hr hr' hf hf' hW hn1 hn2 hm1 hm2 hb1 hs1 hx1
  by_cases hnm : n1 = m1
  · subst hnm
    have e1 : ((n1 : Int) != (n1 : Int)) = false := by simp
    by_cases hnm2 : n2 = m2
    · subst hnm2
      have e2 : ((n2 : Int) != (n2 : Int)) = false := by simp
      go_enter Tryz.func23, Tryz.ntmps23
      go_wp2_with fail
      clear a0 a1 d0 d1
      go_loopg [5] n1 (fun g s5 wr => ∃ k : Nat, k + g = n1 ∧ s5 = .int .i64 k ∧ (∀ i : Nat, i < k → p.rs[i]? = q.rs[i]?) ∧ Below W2.heap.size W2 wr)
      case atStart => exact ⟨0, by omega, rfl, fun i h => absurd h (by omega), Below.refl _ _⟩
      case round =>
        obtain ⟨k, hkg, rfl, hall, hbr⟩ := hrel
        have hall := Lib.hid hall
        have hbr := Lib.hid hbr
        obtain ⟨a0, a1⟩ := box2 ((hbr.out.block _ (blk_lt hX.out)).trans hX.out)
        obtain ⟨d0, d1⟩ := box2 ((hbr.out.block _ (blk_lt hY.out)).trans hY.out)
        cases gk with
        | succ g2 =>
          have e0 : ((k : Int) < (n1 : Int)) := by omega
          have hbw := Lib.hid (up.out _ hbr.out)
          obtain ⟨blk, off, x, rfl, hx, hcx⟩ := (hR.out).at_ (i := k) (by rw [hn1'.out]; omega)
          obtain ⟨blk', off', y, rfl, hy, hcy⟩ := (hR'.out).at_ (i := k) (by rw [hm1'.out]; omega)
          have v0 : w0.cell? ⟨blk, off + k * 4, none⟩ = some (.string x.nm) := hcx 0 (by omega)
          have v0 := (hbw.out.cell (p := ⟨blk, off + k * 4, none⟩) (cell_some_lt v0)).trans v0
          have z0 : w0.cell? ⟨blk', off' + k * 4, none⟩ = some (.string y.nm) := hcy 0 (by omega)
          have z0 := (hbw.out.cell (p := ⟨blk', off' + k * 4, none⟩) (cell_some_lt z0)).trans z0
          have v1 : w0.cell? ⟨blk, off + k * 4 + 1, none⟩ = some (.int .i64 x.ad) := hcx 1 (by omega)
          have v1 := (hbw.out.cell (p := ⟨blk, off + k * 4 + 1, none⟩) (cell_some_lt v1)).trans v1
          have z1 : w0.cell? ⟨blk', off' + k * 4 + 1, none⟩ = some (.int .i64 y.ad) := hcy 1 (by omega)
          have z1 := (hbw.out.cell (p := ⟨blk', off' + k * 4 + 1, none⟩) (cell_some_lt z1)).trans z1
          have v2 : w0.cell? ⟨blk, off + k * 4 + 2, none⟩ = some (.int .i64 x.sz) := hcx 2 (by omega)
          have v2 := (hbw.out.cell (p := ⟨blk, off + k * 4 + 2, none⟩) (cell_some_lt v2)).trans v2
          have z2 : w0.cell? ⟨blk', off' + k * 4 + 2, none⟩ = some (.int .i64 y.sz) := hcy 2 (by omega)
          have z2 := (hbw.out.cell (p := ⟨blk', off' + k * 4 + 2, none⟩) (cell_some_lt z2)).trans z2
          have v3 : w0.cell? ⟨blk, off + k * 4 + 3, none⟩ = some (.bool x.sc) := hcx 3 (by omega)
          have v3 := (hbw.out.cell (p := ⟨blk, off + k * 4 + 3, none⟩) (cell_some_lt v3)).trans v3
          have z3 : w0.cell? ⟨blk', off' + k * 4 + 3, none⟩ = some (.bool y.sc) := hcy 3 (by omega)
          have z3 := (hbw.out.cell (p := ⟨blk', off' + k * 4 + 3, none⟩) (cell_some_lt z3)).trans z3
          have hx' := Lib.hid hx
          have hy' := Lib.hid hy
          by_cases hxy : x = y
          · subst hxy
            clear hcx hcy hx hy
            go_wp2_with fail
            go_quiet (fail)
            go_wp2
            go_roundg g2
            case measure => omega
            case rel => exact ⟨k + 1, by omega, by go_num, fun i hi => by
                rcases Nat.lt_or_ge i k with h | h
                · exact hall.out i h
                · obtain rfl : i = k := by omega
                  rw [hx'.out, hy'.out], below_drewN hbr.out _⟩
          · have hs := Lib.hid (show same p q = false from same_false.2 (by
              rintro rfl
              have h := hx'.out.symm.trans hy'.out
              injection h with h
              exact hxy h))
            rcases neR hxy with q1 | ⟨q1, q2⟩ | ⟨q1, q2, q3⟩ | ⟨q1, q2, q3, q4⟩
            all_goals
              as_aux_lemma =>
                clear hcx hcy hx hy
                go_wp2_with fail
                go_quiet (fail)
                go_wp2
                go_ret
                exact ⟨by rw [hs.out]; rfl, below_drewN (Below.next hb2.out hbr.out) _⟩
        | zero =>
          have e0 : ¬ ((k : Int) < (n1 : Int)) := by omega
          have hrs := Lib.hid (list_ext_to hn1'.out hm1'.out (by omega) hall.out)
          go_wp2_with fail
          clear a0 a1 d0 d1 e0 hall
          go_loopg [6] n2 (fun g s6 wr => ∃ k : Nat, k + g = n2 ∧ s6 = .int .i64 k ∧ (∀ i : Nat, i < k → p.fs[i]? = q.fs[i]?) ∧ Below W2.heap.size W2 wr)
          case atStart => exact ⟨0, by omega, rfl, fun i h => absurd h (by omega), hbr.out⟩
          case round =>
            obtain ⟨k, hkg, rfl, hall, hbr⟩ := hrel
            have hall := Lib.hid hall
            have hbr := Lib.hid hbr
            obtain ⟨a0, a1⟩ := box2 ((hbr.out.block _ (blk_lt hX.out)).trans hX.out)
            obtain ⟨d0, d1⟩ := box2 ((hbr.out.block _ (blk_lt hY.out)).trans hY.out)
            cases gk with
            | zero =>
              have e0 : ¬ ((k : Int) < (n2 : Int)) := by omega
              have hfs := Lib.hid (list_ext_to hn2'.out hm2'.out (by omega) hall.out)
              have hs := Lib.hid (show same p q = true by rw [hsp.out, same_true.2 hrs.out, same_true.2 hfs.out]; rfl)
              go_wp2
              go_ret
              exact ⟨by rw [hs.out]; rfl, Below.next hb2.out hbr.out⟩
            | succ g2 =>
              as_aux_lemma =>
                have e0 : ((k : Int) < (n2 : Int)) := by omega
                have hbw := Lib.hid (up.out _ hbr.out)
                obtain ⟨blk, off, x, r, rfl, hx, hcx, hxe⟩ := (hF.out).at_ (k := k) (by rw [hn2'.out]; omega)
                obtain ⟨blk', off', y, s, rfl, hy, hcy, hye⟩ := (hF'.out).at_ (k := k) (by rw [hm2'.out]; omega)
                have c1 : cntF x ≤ 1000000 := by have := cntF_mem hx; have := hcp.out; omega
                have c2 : cntF y ≤ 1000000 := by have := cntF_mem hy; have := hcq.out; omega
                have hT := refF w0 x y r s hxe hye c1 c2
                obtain ⟨nm, ⟨pA, pn, pc⟩, ⟨vA, vn, vc⟩, ⟨rA, rn, rc⟩, ⟨bA, bn, bc⟩⟩ := r
                obtain ⟨nm', ⟨pA', pn', pc'⟩, ⟨vA', vn', vc'⟩, ⟨rA', rn', rc'⟩, ⟨bA', bn', bc'⟩⟩ := s
                have v0 : w0.cell? ⟨blk, off + k * 5, none⟩ = some (.string nm) := hcx 0 (by omega)
                have v0 := (hbw.out.cell (p := ⟨blk, off + k * 5, none⟩) (cell_some_lt v0)).trans v0
                have z0 : w0.cell? ⟨blk', off' + k * 5, none⟩ = some (.string nm') := hcy 0 (by omega)
                have z0 := (hbw.out.cell (p := ⟨blk', off' + k * 5, none⟩) (cell_some_lt z0)).trans z0
                have v1 : w0.cell? ⟨blk, off + k * 5 + 1, none⟩ = some (.slice pA pn pc) := hcx 1 (by omega)
                have v1 := (hbw.out.cell (p := ⟨blk, off + k * 5 + 1, none⟩) (cell_some_lt v1)).trans v1
                have z1 : w0.cell? ⟨blk', off' + k * 5 + 1, none⟩ = some (.slice pA' pn' pc') := hcy 1 (by omega)
                have z1 := (hbw.out.cell (p := ⟨blk', off' + k * 5 + 1, none⟩) (cell_some_lt z1)).trans z1
                have v2 : w0.cell? ⟨blk, off + k * 5 + 2, none⟩ = some (.slice vA vn vc) := hcx 2 (by omega)
                have v2 := (hbw.out.cell (p := ⟨blk, off + k * 5 + 2, none⟩) (cell_some_lt v2)).trans v2
                have z2 : w0.cell? ⟨blk', off' + k * 5 + 2, none⟩ = some (.slice vA' vn' vc') := hcy 2 (by omega)
                have z2 := (hbw.out.cell (p := ⟨blk', off' + k * 5 + 2, none⟩) (cell_some_lt z2)).trans z2
                have v3 : w0.cell? ⟨blk, off + k * 5 + 3, none⟩ = some (.slice rA rn rc) := hcx 3 (by omega)
                have v3 := (hbw.out.cell (p := ⟨blk, off + k * 5 + 3, none⟩) (cell_some_lt v3)).trans v3
                have z3 : w0.cell? ⟨blk', off' + k * 5 + 3, none⟩ = some (.slice rA' rn' rc') := hcy 3 (by omega)
                have z3 := (hbw.out.cell (p := ⟨blk', off' + k * 5 + 3, none⟩) (cell_some_lt z3)).trans z3
                have v4 : w0.cell? ⟨blk, off + k * 5 + 4, none⟩ = some (.slice bA bn bc) := hcx 4 (by omega)
                have v4 := (hbw.out.cell (p := ⟨blk, off + k * 5 + 4, none⟩) (cell_some_lt v4)).trans v4
                have z4 : w0.cell? ⟨blk', off' + k * 5 + 4, none⟩ = some (.slice bA' bn' bc') := hcy 4 (by omega)
                have z4 := (hbw.out.cell (p := ⟨blk', off' + k * 5 + 4, none⟩) (cell_some_lt z4)).trans z4
                have hx' := Lib.hid hx
                have hy' := Lib.hid hy
                have q1 : blk < wr.heap.size := cell_some_lt v0
                have q2 : blk' < wr.heap.size := cell_some_lt z0
                have q3 : blk < wr.heap.size + 1 := by omega
                have q4 : blk' < wr.heap.size + 1 := by omega
                have q5 : W.heap.size < wr.heap.size := cell_some_lt a0
                have q6 : W1.heap.size < wr.heap.size := cell_some_lt d0
                have q7 : W.heap.size < wr.heap.size + 1 := by omega
                have q8 : W1.heap.size < wr.heap.size + 1 := by omega
                obtain ⟨hsame, tp, tv, tr, tb⟩ := hT
                dsimp only at hsame tp tv tr tb
                have hsame := Lib.hid hsame
                have tp := Lib.hid tp
                have tv := Lib.hid tv
                have tr := Lib.hid tr
                have tb := Lib.hid tb
                clear hcx hcy hxe hye hx hy c1 c2
                go_upto_region 11 with fail
                go_cut [7, 8] (fun s6 s7 wx => ∃ b6 b7 : Nat, s6 = .pointer (some ⟨b6, 0, none⟩) ∧ s7 = .pointer (some ⟨b7, 0, none⟩) ∧ wx.heap[b6]? = some (.cells #[.string nm, .slice pA pn pc, .slice vA vn vc, .slice rA rn rc, .slice bA bn bc] 54 (0, 0)) ∧ wx.heap[b7]? = some (.cells #[.string nm', .slice pA' pn' pc', .slice vA' vn' vc', .slice rA' rn' rc', .slice bA' bn' bc'] 54 (0, 0)) ∧ Below W2.heap.size W2 wx)
                case first =>
                  as_aux_lemma =>
                    have hbo := fun (o1 o2 : Obj) => Lib.hid ((hbr.out.alloc hbr.out.size o1).alloc (hbr.out.alloc hbr.out.size o1).size o2)
                    go_region
                    all_goals
                      go_wp2_with fail
                      go_meet
                      case rel =>
                        first
                          | exact ⟨_, _, rfl, rfl, two_first _ _ _, two_second _ _ _, below_drew1 (hbo _ _).out⟩
                          | exact ⟨_, _, rfl, rfl, two_second _ _ _, two_first _ _ _, below_drew1 (hbo _ _).out⟩
                case rest =>
                  obtain ⟨b6, b7, rfl, rfl, hX2, hY2, hbc⟩ := hcut
                  as_aux_lemma =>
                    clear v0 v1 v2 v3 v4 z0 z1 z2 z3 z4 q1 q2 q3 q4 q5 q6 q7 q8 a0 a1 d0 d1
                    obtain ⟨f0, f1, f2, f3, f4⟩ := box5 hX2
                    obtain ⟨g0, g1, g2, g3, g4⟩ := box5 hY2
                    have upc : ∀ W', Below wc.heap.size wc W' → Below w0.heap.size w0 W' := fun W' h => up.out W' (Below.next hbc h)
                    have tp := Lib.hid fun W' (h : Below wc.heap.size wc W') => tp.out W' (upc W' h)
                    have tv := Lib.hid fun W' (h : Below wc.heap.size wc W') => tv.out W' (upc W' h)
                    have tr := Lib.hid fun W' (h : Below wc.heap.size wc W') => tr.out W' (upc W' h)
                    have tb := Lib.hid fun W' (h : Below wc.heap.size wc W') => tb.out W' (upc W' h)
                    have hbw2 := Lib.hid (Below.refl wc.heap.size wc)
                    have hX2 := Lib.hid hX2
                    have hY2 := Lib.hid hY2
                    have hbc := Lib.hid hbc
                    clear upc
                    obtain ⟨b2, h2⟩ : ∃ b, (nm.toList == nm'.toList) = b := ⟨_, rfl⟩
                    have hsame := hsame.out
                    rw [h2] at hsame
                    generalize same x.ps y.ps = t5 at tp hsame
                    generalize same x.vs y.vs = t6 at tv hsame
                    generalize same x.rs y.rs = t7 at tr hsame
                    generalize same x.bd y.bd = t8 at tb hsame
                    cases b2
                    · replace hsame : same x y = false := hsame
                      as_aux_lemma =>
                        have hs := Lib.hid (show same p q = false from same_false.2 (by
                          rintro rfl
                          have h := hx'.out.symm.trans hy'.out
                          injection h with h
                          exact same_false.1 hsame h))
                        clear hsame
                        go_wp2
                        go_ret
                        exact ⟨by rw [hs.out]; rfl, Below.next hb2.out (Below.next hbc.out hbw2.out)⟩
                    · skip
                      go_wp2_with fail
                      refine (tp.out _ hbw2.out).mono ?_
                      rintro e w3 ⟨rfl, hbn⟩
                      have hbw2 := Lib.hid (Below.next hbw2.out hbn)
                      clear hbn f0 f1 f2 f3 f4 g0 g1 g2 g3 g4
                      cases t5
                      · replace hsame : same x y = false := hsame
                        as_aux_lemma =>
                          have hs := Lib.hid (show same p q = false from same_false.2 (by
                            rintro rfl
                            have h := hx'.out.symm.trans hy'.out
                            injection h with h
                            exact same_false.1 hsame h))
                          clear hsame
                          go_wp2
                          go_ret
                          exact ⟨by rw [hs.out]; rfl, Below.next hb2.out (Below.next hbc.out hbw2.out)⟩
                      · obtain ⟨f0, f1, f2, f3, f4⟩ := box5 ((hbw2.out.block _ (blk_lt hX2.out)).trans hX2.out)
                        obtain ⟨g0, g1, g2, g3, g4⟩ := box5 ((hbw2.out.block _ (blk_lt hY2.out)).trans hY2.out)
                        go_wp2_with fail
                        refine (tv.out _ hbw2.out).mono ?_
                        rintro e w4 ⟨rfl, hbn⟩
                        have hbw2 := Lib.hid (Below.next hbw2.out hbn)
                        clear hbn f0 f1 f2 f3 f4 g0 g1 g2 g3 g4
                        cases t6
                        · replace hsame : same x y = false := hsame
                          as_aux_lemma =>
                            have hs := Lib.hid (show same p q = false from same_false.2 (by
                              rintro rfl
                              have h := hx'.out.symm.trans hy'.out
                              injection h with h
                              exact same_false.1 hsame h))
                            clear hsame
                            go_wp2
                            go_ret
                            exact ⟨by rw [hs.out]; rfl, Below.next hb2.out (Below.next hbc.out hbw2.out)⟩
                        · obtain ⟨f0, f1, f2, f3, f4⟩ := box5 ((hbw2.out.block _ (blk_lt hX2.out)).trans hX2.out)
                          obtain ⟨g0, g1, g2, g3, g4⟩ := box5 ((hbw2.out.block _ (blk_lt hY2.out)).trans hY2.out)
                          go_wp2_with fail
                          refine (tr.out _ hbw2.out).mono ?_
                          rintro e w5 ⟨rfl, hbn⟩
                          have hbw2 := Lib.hid (Below.next hbw2.out hbn)
                          clear hbn f0 f1 f2 f3 f4 g0 g1 g2 g3 g4
                          cases t7
                          · replace hsame : same x y = false := hsame
                            as_aux_lemma =>
                              have hs := Lib.hid (show same p q = false from same_false.2 (by
                                rintro rfl
                                have h := hx'.out.symm.trans hy'.out
                                injection h with h
                                exact same_false.1 hsame h))
                              clear hsame
                              go_wp2
                              go_ret
                              exact ⟨by rw [hs.out]; rfl, Below.next hb2.out (Below.next hbc.out hbw2.out)⟩
                          · obtain ⟨f0, f1, f2, f3, f4⟩ := box5 ((hbw2.out.block _ (blk_lt hX2.out)).trans hX2.out)
                            obtain ⟨g0, g1, g2, g3, g4⟩ := box5 ((hbw2.out.block _ (blk_lt hY2.out)).trans hY2.out)
                            go_wp2_with fail
                            refine (tb.out _ hbw2.out).mono ?_
                            rintro e w6 ⟨rfl, hbn⟩
                            have hbw2 := Lib.hid (Below.next hbw2.out hbn)
                            clear hbn f0 f1 f2 f3 f4 g0 g1 g2 g3 g4
                            cases t8
                            · replace hsame : same x y = false := hsame
                              as_aux_lemma =>
                                have hs := Lib.hid (show same p q = false from same_false.2 (by
                                  rintro rfl
                                  have h := hx'.out.symm.trans hy'.out
                                  injection h with h
                                  exact same_false.1 hsame h))
                                clear hsame
                                go_wp2
                                go_ret
                                exact ⟨by rw [hs.out]; rfl, Below.next hb2.out (Below.next hbc.out hbw2.out)⟩
                            · replace hsame : same x y = true := hsame
                              have hxy := Lib.hid (same_true.1 hsame)
                              clear hsame
                              go_wp2
                              go_roundg g2
                              case measure => omega
                              case rel => exact ⟨k + 1, by omega, by go_num, fun i hi => by
                                  rcases Nat.lt_or_ge i k with h | h
                                  · exact hall.out i h
                                  · obtain rfl : i = k := by omega
                                    rw [hx'.out, hy'.out, hxy.out], Below.next hbc.out hbw2.out⟩
    · have e2 : ((n2 : Int) != (m2 : Int)) = true := by simp; omega
      have hs := Lib.hid (show same p q = false from same_false.2 (by
        rintro rfl
        exact hnm2 (hn2'.out.symm.trans hm2'.out)))
      go_enter Tryz.func23, Tryz.ntmps23
      go_wp2
      go_ret
      exact ⟨by rw [hs.out]; rfl, hb2.out⟩
  · have e1 : ((n1 : Int) != (m1 : Int)) = true := by simp; omega
    have hs := Lib.hid (show same p q = false from same_false.2 (by
      rintro rfl
      exact hnm (hn1'.out.symm.trans hm1'.out)))
    go_enter Tryz.func23, Tryz.ntmps23
    go_wp2
    go_ret
    exact ⟨by rw [hs.out]; rfl, hb2.out⟩
end Go.Proofs.YtnahgfdoiflacaaGreatDoor
