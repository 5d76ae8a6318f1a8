/- Which regions may be: May. -/
import Derived.Test.YtageahpgcjnkpaaH
import Derived.Test.YtageahpgcjnkpaaA2
import Derived.Deep.LoopGhost
set_option linter.unusedSimpArgs false
set_option linter.unusedVariables false
namespace Go.Proofs.Ytageahpgcjnkpaa
open Go.RowKit

def Flag (b : Bool) (w : World) (e : Ending) (w' : World) : Prop := e = .returned (.bool b) ∧ Below w.heap.size w w'

set_option maxHeartbeats 1000000 in
theorem may_many (A : Option Addr) (n cap : Nat) (L : List Reg) (w : World) (hl : L.length = n) (hn : 16 < n) (hm : n ≤ 9223372036854775807) : Calls Try.prog 23 #[.slice A n cap] w (Flag (mayL L) w) := by
  have e : mayL L = false := by unfold mayL; rw [decide_eq_false (by omega)]; rfl
  rw [e]
  have hd : decide ((16 : Int) < (n : Int)) = true := by simp; omega
  clear e hl
  go_enter Try.func23, Try.ntmps23
  go_wp2
  go_step3
  go_wp2
  try rw [Exit.noGoto_ret]
  go_ret
  exact ⟨rfl, Below.refl _ _⟩

theorem mayAt_no1 {L : List Reg} {k : Nat} {r : Reg} (hr : L[k]? = some r) (h : mayB r = false) : mayAt L k = false := by
  unfold mayAt
  rw [List.getD_eq_getElem?_getD, hr]
  simp [h]
theorem mayAt_no2 {L : List Reg} {k j : Nat} {r s : Reg} (hr : L[k]? = some r) (hs : L[j]? = some s) (hj : j < k) (h : meetB r s = true) : mayAt L k = false := by
  unfold mayAt
  rw [Bool.and_eq_false_iff]
  right
  rw [List.all_eq_false]
  refine ⟨j, List.mem_range.2 hj, ?_⟩
  simp [List.getD_eq_getElem?_getD, hr, hs, h]
theorem mayAt_yes {L : List Reg} {k : Nat} {r : Reg} (hr : L[k]? = some r) (h : mayB r = true) (hm : ∀ j s, j < k → L[j]? = some s → meetB r s = false) (hk : k < L.length) : mayAt L k = true := by
  unfold mayAt
  rw [Bool.and_eq_true, List.all_eq_true]
  refine ⟨by rw [List.getD_eq_getElem?_getD, hr]; exact h, fun j hj => ?_⟩
  have hj' := List.mem_range.1 hj
  have := hm j _ hj' (List.getElem?_eq_getElem (by omega))
  rw [List.getD_eq_getElem?_getD, hr, List.getD_eq_getElem?_getD, List.getElem?_eq_getElem (by omega)]
  simp [this]
theorem mayAt_may {L : List Reg} {k : Nat} {r : Reg} (hr : L[k]? = some r) (h : mayAt L k = true) : mayB r = true := by
  unfold mayAt at h
  rw [Bool.and_eq_true, List.getD_eq_getElem?_getD, hr] at h
  exact h.1
theorem mayL_all {L : List Reg} {n k : Nat} (hl : L.length = n) (hn : n ≤ 16) (hk : k = n) (h : ∀ i, i < k → mayAt L i = true) : mayL L = true := by
  unfold mayL
  rw [Bool.and_eq_true, List.all_eq_true]
  exact ⟨by simp; omega, fun i hi => h i (by have := List.mem_range.1 hi; omega)⟩
theorem mayL_no {L : List Reg} {n k : Nat} (hl : L.length = n) (hn : n ≤ 16) (hk : k < n) (h : mayAt L k = false) : mayL L = false := by
  unfold mayL
  rw [Bool.and_eq_false_iff]
  right
  rw [List.all_eq_false]
  exact ⟨k, List.mem_range.2 (by omega), by simp [h]⟩

set_option maxRecDepth 100000 in
set_option maxHeartbeats 2000000 in
theorem may_few (A : Option Addr) (n cap : Nat) (L : List Reg) (w : World) (hr : RegsAt w w.heap.size A n L) (hn : n ≤ 16) (hc : n ≤ cap) (hcm : cap ≤ 9223372036854775807) : Calls Try.prog 23 #[.slice A n cap] w (Flag (mayL L) w) := by
  have hd : decide ((16 : Int) < (n : Int)) = false := by simp; omega
  have hr' := Lib.hid hr
  clear hr
  go_enter Try.func23, Try.ntmps23
  have hl := hr'.out.1
  go_wp2
  go_step3
  go_wp2
  go_step3
  go_wp2
  go_loopg [3, 13] n (fun g s3 s13 wr => ∃ k : Nat, k + g = n ∧ s3 = .bool true ∧ s13 = .int .i64 k ∧ (∀ i, i < k → mayAt L i = true) ∧ Below w.heap.size w wr)
  case atStart => exact ⟨0, by omega, rfl, rfl, fun i h => absurd h (by omega), Below.refl _ _⟩
  case round =>
    obtain ⟨k, hkg, rfl, rfl, hall, hb⟩ := hrel
    have hall' := Lib.hid hall
    have hb' := Lib.hid hb
    clear hall hb
    cases gk with
    | zero =>
      have hz : ¬ ((k : Int) < (n : Int)) := by omega
      go_wp2
      go_ret
      exact ⟨ret_bool (mayL_all hl hn (by omega) hall'.out).symm, hb'.out⟩
    | succ g =>
      have hz : (k : Int) < (n : Int) := by omega
      obtain ⟨blk, off, r, rfl, hB, hL, hR, hW⟩ := (hr'.out.below hb'.out).at_ (k := k) (by omega)
      obtain ⟨r0, r1, r2, r3⟩ := hR
      have hL' := Lib.hid hL
      have hW' := Lib.hid hW
      clear hL hW
      obtain ⟨t, ht⟩ : ∃ t, mayB r = t := ⟨_, rfl⟩
      have ht' := Lib.hid ht
      go_wp2_with fail
      refine (may_any r _ hW'.out).mono ?_
      rw [ht]
      clear ht
      rintro e w1 ⟨rfl, rfl⟩
      cases t
      · go_wp2
        go_ret
        exact ⟨ret_bool (mayL_no hl hn (k := k) (by omega) (mayAt_no1 hL'.out ht'.out)).symm, ((hb'.out.alloc hb'.out.size _).alloc (by have := hb'.out.size; simp; omega) _)⟩
      · obtain ⟨m1, m2, m3, m4, m5, m6, m7⟩ := (mayB_iff r).1 ht'.out
        have hW2 : Below w.heap.size w ((wr.alloc (.cells #[.string r.name, .int .i64 r.addr, .int .i64 r.size, .bool r.sec] 67)).alloc (boxReg r)) := (hb'.out.alloc hb'.out.size _).alloc (by have := hb'.out.size; simp; omega) _
        have hbx : ((wr.alloc (.cells #[.string r.name, .int .i64 r.addr, .int .i64 r.size, .bool r.sec] 67)).alloc (boxReg r)).heap[wr.heap.size]? = some (boxReg r) := heap_alloc2_old wr _ _
        have hW2' := Lib.hid hW2
        have hbx' := Lib.hid hbx
        have hge := hb'.out.size
        obtain ⟨wo, hwo⟩ : ∃ wo : World, wo = wr := ⟨_, rfl⟩
        clear hW2 hbx
        rw [← hwo] at hW2' hbx' hge hb' r0 r1 r2 r3 ⊢
        clear hwo
        go_wp2_with fail
        go_loopg [3, 26] k (fun g2 s3 s26 wy => ∃ j : Nat, j + g2 = k ∧ s3 = .bool true ∧ s26 = .int .i64 j ∧ (∀ i s, i < j → L[i]? = some s → meetB r s = false) ∧ Below w.heap.size w wy ∧ wy.heap[wo.heap.size]? = some (boxReg r))
        case atStart => exact ⟨0, by omega, rfl, rfl, fun i s h => absurd h (by omega), hW2'.out, hbx'.out⟩
        case round =>
          obtain ⟨j, hjg, rfl, rfl, hno, hby, hbx⟩ := hrel
          have hno' := Lib.hid hno
          have hby' := Lib.hid hby
          have hbx2 := Lib.hid hbx
          clear hno hby hbx r0 r1 r2 r3
          cases gk with
          | zero =>
            have hjz : ¬ ((j : Int) < (k : Int)) := by omega
            go_wp2
            go_roundg g
            case measure => omega
            case rel =>
              refine ⟨k + 1, by omega, rfl, by go_num, fun i hi => ?_, hby'.out⟩
              rcases Nat.lt_or_ge i k with h | h
              · exact hall'.out i h
              · obtain rfl : i = k := by omega
                exact mayAt_yes hL'.out ht'.out (fun j' s hj hs => hno'.out j' s (by omega) hs) (by omega)
          | succ g2 =>
            have hjz : (j : Int) < (k : Int) := by omega
            obtain ⟨blk2, off2, s, e, _, hLs, hRs, hWs⟩ := (hr'.out.below hby'.out).at_ (k := j) (by omega)
            cases e
            obtain ⟨s0, s1, s2, s3⟩ := hRs
            have hblk := World.block_lt_of_cell? wr _ s0
            have hbox := blk_lt hbx2.out
            have hb4 := Lib.hid (box4_of (w := wr) (b := wo.heap.size) (r := r) hbx2.out)
            have hms := mayAt_may hLs (hall'.out j (by omega))
            obtain ⟨q1, q2, q3, q4, q5, q6, q7⟩ := (mayB_iff s).1 hms
            have hes := Lib.hid (show ∀ w, Calls Try.prog 49 #[.agg #[.string s.name, .int .i64 s.addr, .int .i64 s.size, .bool s.sec]] w fun e w' => e = .returned (.int .i64 s.end_) ∧ Below w.heap.size w w' from fun w => end_any s w q5 (by omega) (by omega) (by omega))
            have her := Lib.hid (show ∀ w, Calls Try.prog 49 #[.agg #[.string r.name, .int .i64 r.addr, .int .i64 r.size, .bool r.sec]] w fun e w' => e = .returned (.int .i64 r.end_) ∧ Below w.heap.size w w' from fun w => end_any r w m5 (by omega) (by omega) (by omega))
            have hLs' := Lib.hid hLs
            clear hLs hWs hms
            cases hnm : (r.name.toList == s.name.toList)
            · cases hlo : decide (r.addr < s.end_)
              · have hmt := Lib.hid (show meetB r s = false by unfold meetB; rw [hnm, hlo]; rfl)
                go_wp2
                obtain ⟨W1, hW1⟩ : ∃ W1, W1 = wr.alloc (.cells #[.string s.name, .int .i64 s.addr, .int .i64 s.size, .bool s.sec] 67) := ⟨_, rfl⟩
                have hbs : Below w.heap.size w W1 := by rw [hW1]; exact hby'.out.alloc hby'.out.size _
                have hx4 : Box4 W1 wo.heap.size r := by rw [hW1]; exact hb4.out.below ((Below.refl _ _).alloc (Nat.le_refl _) _) hbox
                have hy4 : Box4 W1 wr.heap.size s := by rw [hW1]; exact box4_new wr s 67
                have hz4 : W1.heap[wo.heap.size]? = some (boxReg r) := by rw [hW1]; exact (Below.heap_alloc wr _ _ hbox).trans hbx2.out
                have hbs' := Lib.hid hbs
                have hz4' := Lib.hid hz4
                rw [← hW1]
                obtain ⟨x0, x1, x2, x3⟩ := hx4.sub
                obtain ⟨y0, y1, y2, y3⟩ := hy4.sub
                have hw1s := blk_lt hz4
                clear hW1 hx4 hy4 hbs hz4
                refine wp_region_below (by kernel_rfl) (by kernel_rfl) ?_
                repeat (go_big_quiet_step ((first | (go_at_call 49; with_reducible exact Sub.call (hes.out _)) | (go_at_call 49; with_reducible exact Sub.call (her.out _)))))
                refine wpQuiet_nil ?_
                rintro _ ⟨⟨w3, hb3⟩, rfl⟩
                have hb3' := Lib.hid (hbs'.out.trans (hb3.mono hbs'.out.size))
                have hz3' := Lib.hid ((hb3.block _ hw1s).trans hz4'.out)
                clear hb3 x0 x1 x2 x3 y0 y1 y2 y3
                go_wp2
                go_roundg g2
                case measure => omega
                case rel =>
                  refine ⟨j + 1, by omega, rfl, by go_num, fun i s' hi hs' => ?_, hb3'.out, hz3'.out⟩
                  rcases Nat.lt_or_ge i j with h | h
                  · exact hno'.out i s' h hs'
                  · obtain rfl : i = j := by omega
                    rw [hLs'.out] at hs'
                    cases hs'
                    exact hmt.out
              · cases hhi : decide (s.addr < r.end_)
                · have hmt := Lib.hid (show meetB r s = false by unfold meetB; rw [hnm, hlo, hhi]; rfl)
                  go_wp2
                  obtain ⟨W1, hW1⟩ : ∃ W1, W1 = wr.alloc (.cells #[.string s.name, .int .i64 s.addr, .int .i64 s.size, .bool s.sec] 67) := ⟨_, rfl⟩
                  have hbs : Below w.heap.size w W1 := by rw [hW1]; exact hby'.out.alloc hby'.out.size _
                  have hx4 : Box4 W1 wo.heap.size r := by rw [hW1]; exact hb4.out.below ((Below.refl _ _).alloc (Nat.le_refl _) _) hbox
                  have hy4 : Box4 W1 wr.heap.size s := by rw [hW1]; exact box4_new wr s 67
                  have hz4 : W1.heap[wo.heap.size]? = some (boxReg r) := by rw [hW1]; exact (Below.heap_alloc wr _ _ hbox).trans hbx2.out
                  have hbs' := Lib.hid hbs
                  have hz4' := Lib.hid hz4
                  rw [← hW1]
                  obtain ⟨x0, x1, x2, x3⟩ := hx4.sub
                  obtain ⟨y0, y1, y2, y3⟩ := hy4.sub
                  have hw1s := blk_lt hz4
                  clear hW1 hx4 hy4 hbs hz4
                  refine wp_region_below (by kernel_rfl) (by kernel_rfl) ?_
                  repeat (go_big_quiet_step ((first | (go_at_call 49; with_reducible exact Sub.call (hes.out _)) | (go_at_call 49; with_reducible exact Sub.call (her.out _)))))
                  refine wpQuiet_nil ?_
                  rintro _ ⟨⟨w3, hb3⟩, rfl⟩
                  have hb3' := Lib.hid (hbs'.out.trans (hb3.mono hbs'.out.size))
                  have hz3' := Lib.hid ((hb3.block _ hw1s).trans hz4'.out)
                  clear hb3 x0 x1 x2 x3 y0 y1 y2 y3
                  go_wp2
                  go_roundg g2
                  case measure => omega
                  case rel =>
                    refine ⟨j + 1, by omega, rfl, by go_num, fun i s' hi hs' => ?_, hb3'.out, hz3'.out⟩
                    rcases Nat.lt_or_ge i j with h | h
                    · exact hno'.out i s' h hs'
                    · obtain rfl : i = j := by omega
                      rw [hLs'.out] at hs'
                      cases hs'
                      exact hmt.out
                · have hmt := Lib.hid (show meetB r s = true by unfold meetB; rw [hnm, hlo, hhi]; rfl)
                  go_wp2
                  obtain ⟨W1, hW1⟩ : ∃ W1, W1 = wr.alloc (.cells #[.string s.name, .int .i64 s.addr, .int .i64 s.size, .bool s.sec] 67) := ⟨_, rfl⟩
                  have hbs : Below w.heap.size w W1 := by rw [hW1]; exact hby'.out.alloc hby'.out.size _
                  have hx4 : Box4 W1 wo.heap.size r := by rw [hW1]; exact hb4.out.below ((Below.refl _ _).alloc (Nat.le_refl _) _) hbox
                  have hy4 : Box4 W1 wr.heap.size s := by rw [hW1]; exact box4_new wr s 67
                  have hz4 : W1.heap[wo.heap.size]? = some (boxReg r) := by rw [hW1]; exact (Below.heap_alloc wr _ _ hbox).trans hbx2.out
                  have hbs' := Lib.hid hbs
                  have hz4' := Lib.hid hz4
                  rw [← hW1]
                  obtain ⟨x0, x1, x2, x3⟩ := hx4.sub
                  obtain ⟨y0, y1, y2, y3⟩ := hy4.sub
                  have hw1s := blk_lt hz4
                  clear hW1 hx4 hy4 hbs hz4
                  refine wp_region_below (by kernel_rfl) (by kernel_rfl) ?_
                  repeat (go_big_quiet_step ((first | (go_at_call 49; with_reducible exact Sub.call (hes.out _)) | (go_at_call 49; with_reducible exact Sub.call (her.out _)))))
                  refine wpQuiet_nil ?_
                  rintro _ ⟨⟨w3, hb3⟩, rfl⟩
                  have hb3' := Lib.hid (hbs'.out.trans (hb3.mono hbs'.out.size))
                  have hz3' := Lib.hid ((hb3.block _ hw1s).trans hz4'.out)
                  clear hb3 x0 x1 x2 x3 y0 y1 y2 y3
                  go_wp2
                  go_ret
                  exact ⟨ret_bool (mayL_no hl hn (k := k) (by omega) (mayAt_no2 hL'.out hLs'.out (by omega) hmt.out)).symm, hb3'.out⟩
            · have hmt := Lib.hid (show meetB r s = true by unfold meetB; rw [hnm]; rfl)
              go_wp2
              obtain ⟨W1, hW1⟩ : ∃ W1, W1 = wr.alloc (.cells #[.string s.name, .int .i64 s.addr, .int .i64 s.size, .bool s.sec] 67) := ⟨_, rfl⟩
              have hbs : Below w.heap.size w W1 := by rw [hW1]; exact hby'.out.alloc hby'.out.size _
              have hx4 : Box4 W1 wo.heap.size r := by rw [hW1]; exact hb4.out.below ((Below.refl _ _).alloc (Nat.le_refl _) _) hbox
              have hy4 : Box4 W1 wr.heap.size s := by rw [hW1]; exact box4_new wr s 67
              have hz4 : W1.heap[wo.heap.size]? = some (boxReg r) := by rw [hW1]; exact (Below.heap_alloc wr _ _ hbox).trans hbx2.out
              have hbs' := Lib.hid hbs
              have hz4' := Lib.hid hz4
              rw [← hW1]
              obtain ⟨x0, x1, x2, x3⟩ := hx4.sub
              obtain ⟨y0, y1, y2, y3⟩ := hy4.sub
              have hw1s := blk_lt hz4
              clear hW1 hx4 hy4 hbs hz4
              refine wp_region_below (by kernel_rfl) (by kernel_rfl) ?_
              repeat (go_big_quiet_step ((first | (go_at_call 49; with_reducible exact Sub.call (hes.out _)) | (go_at_call 49; with_reducible exact Sub.call (her.out _)))))
              refine wpQuiet_nil ?_
              rintro _ ⟨⟨w3, hb3⟩, rfl⟩
              have hb3' := Lib.hid (hbs'.out.trans (hb3.mono hbs'.out.size))
              have hz3' := Lib.hid ((hb3.block _ hw1s).trans hz4'.out)
              clear hb3 x0 x1 x2 x3 y0 y1 y2 y3
              go_wp2
              go_ret
              exact ⟨ret_bool (mayL_no hl hn (k := k) (by omega) (mayAt_no2 hL'.out hLs'.out (by omega) hmt.out)).symm, hb3'.out⟩
end Go.Proofs.Ytageahpgcjnkpaa
