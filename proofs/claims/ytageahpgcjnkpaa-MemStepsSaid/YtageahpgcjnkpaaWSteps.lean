/- MemSteps answers true. -/
import Derived.Test.YtageahpgcjnkpaaWMay
import Derived.StillTailTactics
set_option linter.unusedSimpArgs false
set_option linter.unusedVariables false
namespace Go.Proofs.Ytageahpgcjnkpaa
open Go.RowKit

/-- rows of words, each with a first cell that can be turned -/
def RowsOk (w : World) (B : Nat) (A : Option Addr) (n : Nat) : Prop :=
  0 < n → ∃ blk cur, A = some ⟨blk, 0, none⟩ ∧ w.heap[blk]? = some (.cells cur 80 (0, 0)) ∧ ∀ i, i < n → ∃ (g len c : Nat) (rc : Array Value) (v : Int), cur[i]? = some (Value.slice (some ⟨g, 0, none⟩) len c) ∧ 0 < len ∧ B ≤ g ∧ w.heap[g]? = some (.cells rc 30 (0, 0)) ∧ rc[0]? = some (Value.int .u64 v) ∧ 0 ≤ v ∧ v ≤ 18446744073709551615
theorem WsOwn.ok {w : World} {B n : Nat} {A : Option Addr} {W : List (List Int)} (h : WsOwn w B A W) (hn : W.length = n) (hp : ∀ ws ∈ W, 0 < ws.length) : RowsOk w B A n := by
  intro h0
  obtain ⟨blk, cur, e, hB, hh, hc⟩ := h (by omega)
  refine ⟨blk, cur, e, hh, fun i hi => ?_⟩
  have e1 : W[i]? = some (W[i]'(by omega)) := List.getElem?_eq_getElem (by omega)
  obtain ⟨A', c, k1, k2, k3, k4⟩ := hc i _ e1
  have hp1 := hp _ (List.mem_of_getElem? e1)
  obtain ⟨g, rc, rfl, hg, hgh, hx⟩ := k4.2 hp1
  have e2 : (W[i]'(by omega))[0]? = some ((W[i]'(by omega))[0]'(by omega)) := List.getElem?_eq_getElem (by omega)
  obtain ⟨b0, b1⟩ := k4.1 _ (List.mem_of_getElem? e2)
  exact ⟨g, _, c, rc, _, k1, hp1, hg, hgh, hx 0 _ e2, b0, b1⟩
theorem RowsOk.below {w w' : World} {B n : Nat} {A : Option Addr} (h : RowsOk w B A n) (hb : Below w.heap.size w w') : RowsOk w' B A n := by
  intro h0
  obtain ⟨blk, cur, e, hh, hc⟩ := h h0
  refine ⟨blk, cur, e, (hb.block _ (blk_lt hh)).trans hh, fun i hi => ?_⟩
  obtain ⟨g, len, c, rc, v, k1, k2, k3, k4, k5⟩ := hc i hi
  exact ⟨g, len, c, rc, v, k1, k2, k3, (hb.block _ (blk_lt k4)).trans k4, k5⟩
/-- a first cell has turned -/
theorem RowsOk.set {w : World} {B n g : Nat} {A : Option Addr} {rc : Array Value} {u : Int} (h : RowsOk w B A n) (hg : w.heap[g]? = some (.cells rc 30 (0, 0))) (h0 : 0 ≤ u) (h1 : u ≤ 18446744073709551615) (hr : 0 < rc.size) : RowsOk (w.setCell ⟨g, 0, none⟩ (.int .u64 u)) B A n := by
  have hset := heap_setCell_same w g 0 rc 30 (.int .u64 u) hg
  have hgr : w.grownBy (w.setCell ⟨g, 0, none⟩ (.int .u64 u)) (some g) := grown_set (World.grownBy.refl w _) (.inl rfl) _
  intro hn
  obtain ⟨blk, cur, e, hh, hc⟩ := h hn
  refine ⟨blk, cur, e, (hgr.block _ (blk_lt hh) (by simpa using blk_ne hh hg (by decide))).trans hh, fun i hi => ?_⟩
  obtain ⟨g', len, c, rc', v, k1, k2, k3, k4, k5, k6⟩ := hc i hi
  by_cases e2 : g' = g
  · subst e2
    rw [hg] at k4
    injection k4 with k4
    injection k4 with k4
    subst k4
    refine ⟨g', len, c, _, u, k1, k2, k3, hset, ?_, h0, h1⟩
    rw [Array.getElem?_setIfInBounds, if_pos rfl, if_pos hr]
  · exact ⟨g', len, c, rc', v, k1, k2, k3, (hgr.block _ (blk_lt k4) (by simpa using e2)).trans k4, k5, k6⟩

theorem of_any' {A A' : Option Addr} {n cap n' cap' : Nat} {L : List Reg} {V : List (List Int)} {w W : World} (h : RegsIn w A n cap L) (h2 : RowsIn w A' n' cap' V) (hb : Below w.heap.size w W) (hno : (mayL L && fitsB L V) = false) :
    Calls Try.prog 38 #[.slice A n cap, .slice A' n' cap'] W fun e w' => e = .returned (.tuple #[.pointer none, .int .i64 2]) ∧ Below W.heap.size W w' := by
  cases h1 : mayL L
  · exact of_no A A' n cap n' cap' L W ((h.hr.below hb).more hb.size) h.hc h.hcm h1
  · have h3 := of_any A A' n cap n' cap' L V W ((h.hr.below hb).more hb.size) h.hc h.hcm h1 h2.hl (h2.hw.below hb) (Nat.le_trans h2.hc h2.hcm)
    rw [h1, Bool.true_and] at hno
    rw [hno] at h3
    exact h3
theorem wordsL_pos {f : Nat → Int} {L : List Reg} (hm : ∀ r ∈ L, mayB r = true) : ∀ ws ∈ wordsL f L, 0 < ws.length := by
  intro ws hws
  obtain ⟨r, hr, rfl⟩ := List.mem_map.1 hws
  obtain ⟨m1, m2, m3, m4, m5, m6, m7⟩ := (mayB_iff r).1 (hm r hr)
  rw [rowW_len]
  omega

set_option maxRecDepth 100000 in
set_option maxHeartbeats 2000000 in
theorem memSteps_long (A : Option Addr) (n cap : Nat) (L : List Reg) (A3 : Option Addr) (n3 cap3 : Nat) (V : List (List Int)) (A5 : Option Addr) (n5 cap5 : Nat) (S : List Stp) (ad lv : Int) (w : World) (h1 : RegsIn w A n cap L) (h3 : RowsIn w A3 n3 cap3 V) (h5 : StepsIn w A5 n5 cap5 S) (had : 0 ≤ ad ∧ ad ≤ 18446744073709551615) (hl : (longB L || decide (40 < n3) || decide (60 < n5)) = true) : Calls Try.prog 10 #[.slice A n cap, .slice A3 n3 cap3, .slice A5 n5 cap5, .int .u64 ad, .int .i64 lv] w (Yes w) := by
  obtain ⟨c1, e1⟩ : ∃ c, longB L = c := ⟨_, rfl⟩
  have k1 := Lib.hid fun W hb => long_any' h1 (W := W) hb e1
  rw [e1] at hl
  have hn3 := Nat.le_trans h3.hc h3.hcm
  have hn5 := Nat.le_trans h5.hc h5.hcm
  have hb' := Lib.hid (Below.refl w.heap.size w)
  clear h1 h3 h5 e1
  go_enter Try.func10, Try.ntmps10
  go_wp2_with fail
  refine (k1.out _ hb'.out).mono ?_
  rintro e w1 ⟨rfl, b1⟩
  have hb' := Lib.hid (Below.next hb'.out b1)
  clear b1
  cases c1
  · by_cases g6 : 40 < n3
    · have d6 : decide ((40 : Int) < (n3 : Int)) = true := by simp; omega
      go_wp2_with fail
      refine (known_any _).mono ?_
      rintro e w3 ⟨rfl, b3⟩
      have hb' := Lib.hid (Below.next hb'.out b3)
      clear b3
      go_wp2
      go_ret
      exact ⟨rfl, hb'.out⟩
    · have d6 : decide ((40 : Int) < (n3 : Int)) = false := by simp; omega
      by_cases g7 : 60 < n5
      · have d7 : decide ((60 : Int) < (n5 : Int)) = true := by simp; omega
        go_wp2_with fail
        refine (known_any _).mono ?_
        rintro e w3 ⟨rfl, b3⟩
        have hb' := Lib.hid (Below.next hb'.out b3)
        clear b3
        go_wp2
        go_ret
        exact ⟨rfl, hb'.out⟩
      · simp [g6, g7] at hl
  · clear hl
    go_wp2_with fail
    refine (known_any _).mono ?_
    rintro e w3 ⟨rfl, b3⟩
    have hb' := Lib.hid (Below.next hb'.out b3)
    clear b3
    go_wp2
    go_ret
    exact ⟨rfl, hb'.out⟩

set_option maxRecDepth 100000 in
set_option maxHeartbeats 2000000 in
theorem memSteps_no (A : Option Addr) (n cap : Nat) (L : List Reg) (A3 : Option Addr) (n3 cap3 : Nat) (V : List (List Int)) (A5 : Option Addr) (n5 cap5 : Nat) (S : List Stp) (ad lv : Int) (w : World) (h1 : RegsIn w A n cap L) (h3 : RowsIn w A3 n3 cap3 V) (h5 : StepsIn w A5 n5 cap5 S) (had : 0 ≤ ad ∧ ad ≤ 18446744073709551615) (hl : (longB L || decide (40 < n3) || decide (60 < n5)) = false) (hno : (mayL L && fitsB L V) = false) : Calls Try.prog 10 #[.slice A n cap, .slice A3 n3 cap3, .slice A5 n5 cap5, .int .u64 ad, .int .i64 lv] w (Yes w) := by
  rw [Bool.or_eq_false_iff, Bool.or_eq_false_iff] at hl
  obtain ⟨⟨e1, g6⟩, g7⟩ := hl
  have k1 := Lib.hid fun W hb => long_any' h1 (W := W) hb e1
  have ko := Lib.hid fun W hb => of_any' h1 h3 (W := W) hb hno
  obtain ⟨c2, e2⟩ : ∃ c, mayL L = c := ⟨_, rfl⟩
  obtain ⟨c3, e3⟩ : ∃ c, fitsB L V = c := ⟨_, rfl⟩
  have k2 := Lib.hid fun W hb => may_any' h1 (W := W) hb e2
  have k3 := Lib.hid fun W hb => fits_any' h1 h3 (W := W) hb e3
  rw [e2, e3] at hno
  have hn3 := Nat.le_trans h3.hc h3.hcm
  have hn5 := Nat.le_trans h5.hc h5.hcm
  have hb' := Lib.hid (Below.refl w.heap.size w)
  have hnil : ∀ w, (binOp .eql 25 (.pointer none) (.pointer none)).run Try.prog w = .ok (.bool true) w := fun w => by kernel_rfl
  have d6 : decide ((40 : Int) < (n3 : Int)) = false := by simp at g6; simp; omega
  have d7 : decide ((60 : Int) < (n5 : Int)) = false := by simp at g7; simp; omega
  have d6' := of_decide_eq_false g6
  have d7' := of_decide_eq_false g7
  clear h1 h3 h5 e1 e2 e3 g6 g7
  go_enter Try.func10, Try.ntmps10
  go_wp2_with fail
  refine (k1.out _ hb'.out).mono ?_
  rintro e w1 ⟨rfl, b1⟩
  have hb' := Lib.hid (Below.next hb'.out b1)
  clear b1
  go_wp2_with fail
  refine (k2.out _ hb'.out).mono ?_
  rintro e w1 ⟨rfl, b1⟩
  have hb' := Lib.hid (Below.next hb'.out b1)
  clear b1
  cases c2
  · clear hno
    go_wp2_with fail
    refine (ko.out _ hb'.out).mono ?_
    rintro e w1 ⟨rfl, b1⟩
    have hb' := Lib.hid (Below.next hb'.out b1)
    clear b1
    go_wp2_with fail
    refine (num_any _ _).mono ?_
    rintro e w6 ⟨rfl, rfl⟩
    go_wp2_with fail
    refine (known_any _).mono ?_
    rintro e w3 ⟨rfl, b3⟩
    have hb' := Lib.hid (Below.next hb'.out b3)
    clear b3
    go_wp2
    go_ret
    exact ⟨rfl, hb'.out⟩
  · obtain rfl : c3 = false := by simpa using hno
    clear hno
    go_wp2_with fail
    refine (k3.out _ hb'.out).mono ?_
    rintro e w1 ⟨rfl, b1⟩
    have hb' := Lib.hid (Below.next hb'.out b1)
    clear b1
    go_wp2_with fail
    refine (ko.out _ hb'.out).mono ?_
    rintro e w1 ⟨rfl, b1⟩
    have hb' := Lib.hid (Below.next hb'.out b1)
    clear b1
    go_wp2_with fail
    refine (num_any _ _).mono ?_
    rintro e w6 ⟨rfl, rfl⟩
    go_wp2_with fail
    refine (known_any _).mono ?_
    rintro e w3 ⟨rfl, b3⟩
    have hb' := Lib.hid (Below.next hb'.out b3)
    clear b3
    go_wp2
    go_ret
    exact ⟨rfl, hb'.out⟩

set_option maxRecDepth 100000 in
set_option maxHeartbeats 4000000 in
theorem memSteps_yes (A : Option Addr) (n cap : Nat) (L : List Reg) (A3 : Option Addr) (n3 cap3 : Nat) (V : List (List Int)) (A5 : Option Addr) (n5 cap5 : Nat) (S : List Stp) (ad lv : Int) (w : World) (h1 : RegsIn w A n cap L) (h3 : RowsIn w A3 n3 cap3 V) (h5 : StepsIn w A5 n5 cap5 S) (had : 0 ≤ ad ∧ ad ≤ 18446744073709551615) (hl : (longB L || decide (40 < n3) || decide (60 < n5)) = false) (h2 : mayL L = true) (h4 : fitsB L V = true) : Calls Try.prog 10 #[.slice A n cap, .slice A3 n3 cap3, .slice A5 n5 cap5, .int .u64 ad, .int .i64 lv] w (Yes w) := by
  rw [Bool.or_eq_false_iff, Bool.or_eq_false_iff] at hl
  obtain ⟨⟨e1, g6⟩, g7⟩ := hl
  have k1 := Lib.hid fun W hb => long_any' h1 (W := W) hb e1
  have k2 := Lib.hid fun W hb => may_any' h1 (W := W) hb h2
  have k3 := Lib.hid fun W hb => fits_any' h1 h3 (W := W) hb h4
  have kp := Lib.hid fun W hb => play_any' h1 h3 h5 (W := W) hb h2 h4
  have hm' := Lib.hid (mayL_mem h2)
  have hn : n ≤ 16 := by rw [← h1.hr.1]; exact mayL_len h2
  have hin := Lib.hid (show Inside L (playN L V n S n5) by
    have := inside_play (mayL_mem h2) h4 h5.hs.2.1 S.length (Nat.le_refl _)
    rw [h5.hs.1, h1.hr.1] at this
    exact this)
  have hn3 := Nat.le_trans h3.hc h3.hcm
  have hn5 := Nat.le_trans h5.hc h5.hcm
  have hb' := Lib.hid (Below.refl w.heap.size w)
  have d6 : decide ((40 : Int) < (n3 : Int)) = false := by simp at g6; simp; omega
  have d7 : decide ((60 : Int) < (n5 : Int)) = false := by simp at g7; simp; omega
  have d6' := of_decide_eq_false g6
  have d7' := of_decide_eq_false g7
  obtain ⟨a0, a1⟩ := had
  generalize playN L V n S n5 = f at kp hin
  clear h1 h3 h5 e1 h2 h4 g6 g7
  go_enter Try.func10, Try.ntmps10
  go_wp2_with fail
  refine (k1.out _ hb'.out).mono ?_
  rintro e w1 ⟨rfl, b1⟩
  have hb' := Lib.hid (Below.next hb'.out b1)
  clear b1
  go_wp2_with fail
  refine (k2.out _ hb'.out).mono ?_
  rintro e w2 ⟨rfl, b1⟩
  have hb' := Lib.hid (Below.next hb'.out b1)
  clear b1
  go_wp2_with fail
  refine (k3.out _ hb'.out).mono ?_
  rintro e w3 ⟨rfl, b1⟩
  have hb' := Lib.hid (Below.next hb'.out b1)
  clear b1
  go_wp2_with fail
  refine (kp.out _ hb'.out).mono ?_
  rintro e w4 ⟨p, q, p', q', B1, bc1, B2, bc2, rfl, hM, hR, u1, u2, u3, b1⟩
  have hM' := Lib.hid hM
  have hR' := Lib.hid hR
  have hb' := Lib.hid (Below.next hb'.out b1)
  clear hM hR b1 u3 k1 k2 k3 kp
  go_wp2_with fail
  refine (load_any ad _ hM'.out hm'.out a0 (by omega)).mono ?_
  rintro e w5 ⟨rfl, b1⟩
  have hb' := Lib.hid (Below.next hb'.out b1)
  have hM' := Lib.hid (hM'.out.below b1)
  have hR' := Lib.hid (hR'.out.below b1)
  clear b1
  go_wp2_with fail
  refine (refLoad_any ad _ hR'.out hm'.out a0 (by omega)).mono ?_
  rintro e w6 ⟨rfl, b1⟩
  have hb' := Lib.hid (Below.next hb'.out b1)
  have hM' := Lib.hid (hM'.out.below b1)
  have hR' := Lib.hid (hR'.out.below b1)
  clear b1
  go_wp2_with fail
  refine (loadByte_any ad _ hM'.out hm'.out a0 (by omega)).mono ?_
  rintro e w7 ⟨rfl, b1⟩
  have hb' := Lib.hid (Below.next hb'.out b1)
  have hM' := Lib.hid (hM'.out.below b1)
  have hR' := Lib.hid (hR'.out.below b1)
  clear b1
  go_wp2_with fail
  refine (refLoadByte_any ad _ hR'.out hm'.out a0 (by omega)).mono ?_
  rintro e w8 ⟨rfl, b1⟩
  have hb' := Lib.hid (Below.next hb'.out b1)
  have hM' := Lib.hid (hM'.out.below b1)
  have hR' := Lib.hid (hR'.out.below b1)
  clear b1
  go_wp2_with fail
  refine (place_any ad _ hM'.out hm'.out a0 (by omega)).mono ?_
  rintro e w9 ⟨rfl, b1⟩
  have hb' := Lib.hid (Below.next hb'.out b1)
  have hM' := Lib.hid (hM'.out.below b1)
  have hR' := Lib.hid (hR'.out.below b1)
  clear b1
  go_wp2_with fail
  refine (refPlace_any ad _ hR'.out hm'.out a0 (by omega)).mono ?_
  rintro e w10 ⟨rfl, b1⟩
  have hb' := Lib.hid (Below.next hb'.out b1)
  have hM' := Lib.hid (hM'.out.below b1)
  have hR' := Lib.hid (hR'.out.below b1)
  clear b1
  generalize loadI L f ad = x1
  generalize loadB L f ad = x2
  generalize askI L ad 8 = x3
  generalize askI L ad 1 = x4
  generalize (placeI L ad).1 = x5
  generalize (placeI L ad).2 = x6
  go_wp2_with fail
  refine (num_any _ _).mono ?_
  rintro e wq ⟨rfl, rfl⟩
  go_wp2_with fail
  refine (num_any _ _).mono ?_
  rintro e wq ⟨rfl, rfl⟩
  obtain ⟨wB, hwB⟩ : ∃ wB : World, wB = w10 := ⟨_, rfl⟩
  have hMB := Lib.hid (show Mem_ wB p q B1 n bc1 L f by rw [hwB]; exact hM'.out)
  have hRB := Lib.hid (show RMem_ wB p' q' B2 n bc2 L f by rw [hwB]; exact hR'.out)
  have hbB := Lib.hid (show Below w.heap.size w wB by rw [hwB]; exact hb'.out)
  rw [← hwB]
  clear hM' hR' hb' hwB
  go_wp2_with fail
  refine (words_any _ hMB.out u1 hm'.out).mono ?_
  rintro e wS ⟨AW, cW, rfl, l3, l4, hW0, hWl, b1⟩
  have hbS := Lib.hid b1
  have hM' := Lib.hid (hMB.out.below b1)
  have hR' := Lib.hid (hRB.out.below b1)
  have hW1 := Lib.hid hW0.wsAt
  have hok := Lib.hid (hW0.ok hWl (wordsL_pos hm'.out))
  clear b1 hW0
  have hcv1 : ∀ W, W.heap[q']? = some (.cells (bytes f) 5 (0, 0)) → (convert 50 9 (.slice (some ⟨q', 49152, none⟩) 16384 16384)).run Try.prog W = .ok (.string (strF f 49152 16384)) W := fun W hq => run_strF W q' 49152 16384 16384 f hq (by omega)
  have hcv2 := Lib.hid fun W g c (hc : ∀ i, i < 16384 → W.cell? ⟨g, i, none⟩ = some (.int .u8 (f (49152 + i)))) => run_strG W g 16384 c f 49152 hc
  generalize strF f 49152 16384 = s at hcv1 hcv2
  have hS := Lib.hid ((Below.refl wS.heap.size wS).drew)
  have hnm : n ≤ 9223372036854775807 := by omega
  have hW1 := Lib.hid (hW1.out.below (Below.refl _ _).drew)
  have hcell := hR'.out.c1
  have hheap := hR'.out.hq
  go_wp2
  go_region_held_law (fun W => W.cell? ⟨p', 1, none⟩ = some (.slice (some ⟨q', 0, none⟩) 65536 65536) ∧ W.heap[q']? = some (.cells (bytes f) 5 (0, 0)))
    (exact ⟨(hR'.out.below hS.out).c1, (hR'.out.below hS.out).hq⟩) (first
    | (go_at_call 15; refine (num_any _ _).mono ?_; rintro e wA ⟨rfl, rfl⟩)
    | (go_at_call 28; refine (refWords_any _ (hR'.out.below hS.out) hm'.out).mono ?_; rintro e wA ⟨AX, cX, rfl, l5, l6, hW2, hWl2, b1⟩; have hS := Lib.hid (Below.next hS.out b1); have hW1 := Lib.hid (hW1.out.below b1); have hW2 := Lib.hid hW2.wsAt; clear b1)
    | (go_at_call 26; refine (sameWords_refl _ hWl hW1.out hW2.out hnm).mono ?_; rintro e wA ⟨rfl, b1⟩; have hS := Lib.hid (Below.next hS.out b1); clear b1)
    | (go_at_call 29; refine (stack_any _ (hM'.out.below hS.out)).mono ?_; rintro e wA ⟨g, cg, rfl, hg, b1⟩; have hS := Lib.hid (Below.next hS.out b1); have hcv3 := hcv2.out _ g cg hg; clear b1 hg)
    | (go_at_call 30; refine (once_any _ _ (hM'.out.below hS.out) (hR'.out.below hS.out) u1 hm'.out hin.out).mono ?_; rintro e wA ⟨rfl, b1⟩; have hS := Lib.hid (Below.next hS.out b1); clear b1))
  all_goals
    have hok := Lib.hid (hok.out.below hS.out)
    have hbS := Lib.hid (Below.next hbS.out hS.out)
    clear hcv1 hcv2 hcell hheap hM' hR' hW1 hS
    try clear hcv3
    try clear hW2
    go_wp2_with fail
    go_loopg [29] n (fun g s29 wr => ∃ k : Nat, k + g = n ∧ s29 = .int .i64 k ∧ RowsOk wr wB.heap.size AW n ∧ Below wB.heap.size wB wr)
    case atStart => exact ⟨0, by omega, rfl, hok.out, hbS.out⟩
    case round =>
      clear hok hbS
      obtain ⟨k, hkg, rfl, hok, hbr⟩ := hrel
      have hok' := Lib.hid hok
      have hbr' := Lib.hid hbr
      clear hok hbr
      cases gk with
      | zero =>
        have e0 : ¬ ((k : Int) < (n : Int)) := by omega
        have hM' := Lib.hid (hMB.out.below hbr'.out)
        have hR' := Lib.hid (hRB.out.below hbr'.out)
        clear hok'
        go_wp2_with fail
        refine (words_any _ hM'.out u1 hm'.out).mono ?_
        rintro e wX ⟨AY, cY, rfl, q1, q2, hY, hYl, b1⟩
        have hb2 := Lib.hid b1
        have hY' := Lib.hid hY.wsAt
        clear b1 hY
        go_wp2_with fail
        refine (refWords_any _ (hR'.out.below hb2.out) hm'.out).mono ?_
        rintro e wY ⟨AZ, cZ, rfl, q3, q4, hZ, hZl, b1⟩
        have hb2 := Lib.hid (Below.next hb2.out b1)
        have hY' := Lib.hid (hY'.out.below b1)
        have hZ' := Lib.hid hZ.wsAt
        clear b1 hZ
        go_wp2_with fail
        refine (sameWords_refl _ hYl hY'.out hZ'.out hnm).mono ?_
        rintro e wZ ⟨rfl, b1⟩
        have hb2 := Lib.hid (Below.next hb2.out b1)
        clear b1
        go_wp2_with fail
        refine (known_any _).mono ?_
        rintro e wK ⟨rfl, b1⟩
        have hb2 := Lib.hid (Below.next hb2.out b1)
        clear b1
        go_wp2
        go_ret
        exact ⟨rfl, Below.next hbB.out (Below.next hbr'.out hb2.out)⟩
      | succ g =>
        have e0 : (k : Int) < (n : Int) := by omega
        obtain ⟨blk, cur, rfl, hblk, hrow⟩ := hok'.out (by omega)
        obtain ⟨gr, len, c, rc, v, r1, r2, r3, r4, r5, r6, r7⟩ := hrow k (by omega)
        have cc : wr.cell? ⟨blk, k, none⟩ = some (.slice (some ⟨gr, 0, none⟩) len c) := by rw [blk_cell hblk]; exact r1
        have cv : wr.cell? ⟨gr, 0, none⟩ = some (.int .u64 v) := by rw [blk_cell r4]; exact r5
        have cz : wr.frozen? ⟨gr, 0, none⟩ = false := blk_frozen r4 0
        have hl0 : (0 : Int) < (len : Int) := by omega
        have hg4 := Lib.hid r4
        have hrc : 0 < rc.size := (Array.getElem?_eq_some_iff.1 r5).1
        have hset := Lib.hid fun u (h0 : 0 ≤ u) (h1 : u ≤ 18446744073709551615) => hok'.out.set r4 h0 h1 hrc
        clear hblk hrow r1 r4 r5
        go_wp2
        go_still_tail 12, (by kernel_rfl)
        go_wp2
        go_roundg g
        case measure => omega
        case rel =>
          refine ⟨k + 1, by omega, by go_num, ?_, ?_⟩
          · exact hset.out _ (by rw [IntKind.wrap_u64]; omega) (by rw [IntKind.wrap_u64]; omega)
          · exact (hbr'.out.drew).setCell (p := ⟨gr, 0, none⟩) r3 _

theorem memSteps_any (A : Option Addr) (n cap : Nat) (L : List Reg) (A3 : Option Addr) (n3 cap3 : Nat) (V : List (List Int)) (A5 : Option Addr) (n5 cap5 : Nat) (S : List Stp) (ad lv : Int) (w : World) (h1 : RegsIn w A n cap L) (h3 : RowsIn w A3 n3 cap3 V) (h5 : StepsIn w A5 n5 cap5 S) (had : 0 ≤ ad ∧ ad ≤ 18446744073709551615) : Calls Try.prog 10 #[.slice A n cap, .slice A3 n3 cap3, .slice A5 n5 cap5, .int .u64 ad, .int .i64 lv] w (Yes w) := by
  cases hl : (longB L || decide (40 < n3) || decide (60 < n5))
  · cases h2 : mayL L
    · exact memSteps_no A n cap L A3 n3 cap3 V A5 n5 cap5 S ad lv w h1 h3 h5 had hl (by rw [h2]; rfl)
    · cases h4 : fitsB L V
      · exact memSteps_no A n cap L A3 n3 cap3 V A5 n5 cap5 S ad lv w h1 h3 h5 had hl (by rw [h2, h4]; rfl)
      · exact memSteps_yes A n cap L A3 n3 cap3 V A5 n5 cap5 S ad lv w h1 h3 h5 had hl h2 h4
  · exact memSteps_long A n cap L A3 n3 cap3 V A5 n5 cap5 S ad lv w h1 h3 h5 had hl
end Go.Proofs.Ytageahpgcjnkpaa
