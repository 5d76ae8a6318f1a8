/- The reference's May and Long. -/
import Derived.Test.YtageahpgcjnkpaaJ
set_option linter.unusedSimpArgs false
set_option linter.unusedVariables false
namespace Go.Proofs.Ytageahpgcjnkpaa
open Go.RowKit

theorem meetB_ref (r s : Reg) : meetB r s = ((s.name.toList == r.name.toList) || (decide (s.addr < r.addr + 8 * r.size) && decide (r.addr < s.addr + 8 * s.size))) := by
  unfold meetB Reg.end_
  have e : (r.name.toList == s.name.toList) = (s.name.toList == r.name.toList) := BEq.comm
  rw [e, Bool.and_comm]
theorem mayB_no {r : Reg} (h : mayB r = false) : (r.name.size < 1) ∨ (1 ≤ r.name.size ∧ 16 < r.name.size) ∨ (1 ≤ r.name.size ∧ r.name.size ≤ 16 ∧ r.size < 1) ∨ (1 ≤ r.name.size ∧ r.name.size ≤ 16 ∧ 1 ≤ r.size ∧ 512 < r.size) ∨
    (1 ≤ r.name.size ∧ r.name.size ≤ 16 ∧ 1 ≤ r.size ∧ r.size ≤ 512 ∧ r.addr < 0) ∨ (1 ≤ r.name.size ∧ r.name.size ≤ 16 ∧ 1 ≤ r.size ∧ r.size ≤ 512 ∧ 0 ≤ r.addr ∧ r.addr % 8 ≠ 0) ∨
    (1 ≤ r.name.size ∧ r.name.size ≤ 16 ∧ 1 ≤ r.size ∧ r.size ≤ 512 ∧ 0 ≤ r.addr ∧ r.addr % 8 = 0 ∧ 49152 - 8 * r.size < r.addr) := by
  have h2 : ¬ mayB r = true := by rw [h]; exact Bool.false_ne_true
  rw [mayB_iff] at h2
  omega

set_option maxHeartbeats 1000000 in
theorem refMay_many (A : Option Addr) (n cap : Nat) (L : List Reg) (w : World) (hl : L.length = n) (hn : 16 < n) (hm : n ≤ 9223372036854775807) : Calls Try.prog 12 #[.slice A n cap] w (Flag (mayL L) w) := by
  have e : mayL L = false := by unfold mayL; rw [decide_eq_false (by omega)]; rfl
  rw [e]
  have hd : decide ((16 : Int) < (n : Int)) = true := by simp; omega
  clear e hl
  go_enter Try.func12, Try.ntmps12
  go_wp2
  go_ret
  exact ⟨rfl, Below.refl _ _⟩

set_option maxRecDepth 100000 in
set_option maxHeartbeats 4000000 in
theorem refMay_few (A : Option Addr) (n cap : Nat) (L : List Reg) (w : World) (hr : RegsAt w w.heap.size A n L) (hn : n ≤ 16) (hc : n ≤ cap) (hcm : cap ≤ 9223372036854775807) : Calls Try.prog 12 #[.slice A n cap] w (Flag (mayL L) w) := by
  have hd : decide ((16 : Int) < (n : Int)) = false := by simp; omega
  have hr' := Lib.hid hr
  clear hr
  have hl := hr'.out.1
  go_enter Try.func12, Try.ntmps12
  go_wp2
  go_loopg [3] n (fun g s3 wr => ∃ k : Nat, k + g = n ∧ s3 = .int .i64 k ∧ (∀ i, i < k → mayAt L i = true) ∧ Below w.heap.size w wr)
  case atStart => exact ⟨0, by omega, rfl, fun i h => absurd h (by omega), Below.refl _ _⟩
  case round =>
    obtain ⟨k, hkg, rfl, hall, hb⟩ := hrel
    have hall' := Lib.hid hall
    have hb' := Lib.hid hb
    clear hall hb
    cases gk with
    | zero =>
      have hz : ¬ ((k : Int) < (n : Int)) := by omega
      go_wp2
      go_ret
      exact ⟨ret_bool (mayL_all hl hn (by omega) hall'.out).symm, hb'.out⟩
    | succ g =>
      have hz : (k : Int) < (n : Int) := by omega
      obtain ⟨blk, off, r, rfl, hB, hL, hR, hW⟩ := (hr'.out.below hb'.out).at_ (k := k) (by omega)
      obtain ⟨⟨wa, wb⟩, ⟨wc, wd⟩, we⟩ := hW
      obtain ⟨r0, r1, r2, r3⟩ := hR
      have hL' := Lib.hid hL
      clear hL
      cases ht : mayB r
      · have hfin := Lib.hid (mayL_no hl hn (k := k) (by omega) (mayAt_no1 hL'.out ht))
        have hcs := mayB_no ht
        clear ht
        rcases hcs with h1 | ⟨h1, h2⟩ | ⟨h1, h2, h3⟩ | ⟨h1, h2, h3, h4⟩ | ⟨h1, h2, h3, h4, h5⟩ | ⟨h1, h2, h3, h4, h5, h6⟩ | ⟨h1, h2, h3, h4, h5, h6, h7⟩
        all_goals
          go_wp2
          go_ret
          exact ⟨ret_bool hfin.out.symm, hb'.out.alloc hb'.out.size _⟩
      · obtain ⟨m1, m2, m3, m4, m5, m6, m7⟩ := (mayB_iff r).1 ht
        have ht' := Lib.hid ht
        clear ht
        have hW2' := Lib.hid (hb'.out.alloc hb'.out.size (.cells #[.string r.name, .int .i64 r.addr, .int .i64 r.size, .bool r.sec] 67))
        have hbx' := Lib.hid (heap_alloc_new wr (.cells #[.string r.name, .int .i64 r.addr, .int .i64 r.size, .bool r.sec] 67))
        have hge := hb'.out.size
        obtain ⟨wo, hwo⟩ : ∃ wo : World, wo = wr := ⟨_, rfl⟩
        rw [← hwo] at hW2' hbx' hge hb' r0 r1 r2 r3 ⊢
        clear hwo
        go_wp2_with fail
        go_loopg [5] k (fun g2 s5 wy => ∃ j : Nat, j + g2 = k ∧ s5 = .int .i64 j ∧ (∀ i s, i < j → L[i]? = some s → meetB r s = false) ∧ Below w.heap.size w wy ∧ wy.heap[wo.heap.size]? = some (.cells #[.string r.name, .int .i64 r.addr, .int .i64 r.size, .bool r.sec] 67))
        case atStart => exact ⟨0, by omega, rfl, fun i s h => absurd h (by omega), hW2'.out, hbx'.out⟩
        case round =>
          obtain ⟨j, hjg, rfl, hno, hby, hbx⟩ := hrel
          have hno' := Lib.hid hno
          have hby' := Lib.hid hby
          have hbx2 := Lib.hid hbx
          clear hno hby hbx r0 r1 r2 r3
          cases gk with
          | zero =>
            have hjz : ¬ ((j : Int) < (k : Int)) := by omega
            go_wp2
            go_roundg g
            case measure => omega
            case rel =>
              refine ⟨k + 1, by omega, by go_num, fun i hi => ?_, hby'.out⟩
              rcases Nat.lt_or_ge i k with h | h
              · exact hall'.out i h
              · obtain rfl : i = k := by omega
                exact mayAt_yes hL'.out ht'.out (fun j' s hj hs => hno'.out j' s (by omega) hs) (by omega)
          | succ g2 =>
            have hjz : (j : Int) < (k : Int) := by omega
            have hj0 : (0 : Int) ≤ (j : Int) := by omega
            have hj1 : (j : Int) < (n : Int) := by omega
            obtain ⟨blk2, off2, s, e, _, hLs, hRs, hWs⟩ := (hr'.out.below hby'.out).at_ (k := j) (by omega)
            cases e
            obtain ⟨s0, s1, s2, s3⟩ := hRs
            obtain ⟨b0, b1, b2, b3⟩ := box4_of (w := wr) (b := wo.heap.size) (r := r) hbx2.out
            have hms := mayAt_may hLs (hall'.out j (by omega))
            obtain ⟨q1, q2, q3, q4, q5, q6, q7⟩ := (mayB_iff s).1 hms
            have hLs' := Lib.hid hLs
            clear hLs hWs hms
            have hmr := meetB_ref r s
            cases hnm : (s.name.toList == r.name.toList)
            · cases hlo : decide (s.addr < r.addr + 8 * r.size)
              · have hmt := Lib.hid (show meetB r s = false by rw [hmr, hnm, hlo]; rfl)
                clear hmr
                go_wp2
                go_quiet (fail)
                go_wp2
                go_roundg g2
                case measure => omega
                case rel =>
                  refine ⟨j + 1, by omega, by go_num, fun i s' hi hs' => ?_, below_drewN hby'.out _, hbx2.out⟩
                  rcases Nat.lt_or_ge i j with h | h
                  · exact hno'.out i s' h hs'
                  · obtain rfl : i = j := by omega
                    rw [hLs'.out] at hs'
                    cases hs'
                    exact hmt.out
              · cases hhi : decide (r.addr < s.addr + 8 * s.size)
                · have hmt := Lib.hid (show meetB r s = false by rw [hmr, hnm, hlo, hhi]; rfl)
                  clear hmr
                  go_wp2
                  go_quiet (fail)
                  go_wp2
                  go_roundg g2
                  case measure => omega
                  case rel =>
                    refine ⟨j + 1, by omega, by go_num, fun i s' hi hs' => ?_, below_drewN hby'.out _, hbx2.out⟩
                    rcases Nat.lt_or_ge i j with h | h
                    · exact hno'.out i s' h hs'
                    · obtain rfl : i = j := by omega
                      rw [hLs'.out] at hs'
                      cases hs'
                      exact hmt.out
                · have hmt := Lib.hid (show meetB r s = true by rw [hmr, hnm, hlo, hhi]; rfl)
                  clear hmr
                  go_wp2
                  go_quiet (fail)
                  go_wp2
                  go_ret
                  exact ⟨ret_bool (mayL_no hl hn (k := k) (by omega) (mayAt_no2 hL'.out hLs'.out (by omega) hmt.out)).symm, below_drewN hby'.out _⟩
            · have hmt := Lib.hid (show meetB r s = true by rw [hmr, hnm]; rfl)
              clear hmr
              go_wp2
              go_quiet (fail)
              go_wp2
              go_ret
              exact ⟨ret_bool (mayL_no hl hn (k := k) (by omega) (mayAt_no2 hL'.out hLs'.out (by omega) hmt.out)).symm, below_drewN hby'.out _⟩
end Go.Proofs.Ytageahpgcjnkpaa
