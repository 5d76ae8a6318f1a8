/- The reference's Words; the stack's bytes. -/
import Derived.Test.YtageahpgcjnkpaaP1
set_option linter.unusedSimpArgs false
set_option linter.unusedVariables false
namespace Go.Proofs.Ytageahpgcjnkpaa
open Go.RowKit

set_option maxRecDepth 100000 in
set_option maxHeartbeats 2000000 in
theorem refWords_any {p q : Nat} {A : Option Addr} {n cap : Nat} {L : List Reg} {f : Nat → Int} (w : World) (h : RMem_ w p q A n cap L f) (hm : ∀ r ∈ L, mayB r = true) :
    Calls Try.prog 28 #[.pointer (some ⟨p, 0, none⟩)] w (WordsPost (wordsL f L) n w) := by
  obtain ⟨i0, hi, hz0, hz1, hz2⟩ := info_parts info30
  obtain ⟨j0, hj, hy0, hy1, hy2⟩ := info_parts info80
  have hi' := Lib.hid (And.intro hi (And.intro hz0 (And.intro hz1 hz2)))
  have hj' := Lib.hid (And.intro hj (And.intro hy0 (And.intro hy1 hy2)))
  have H := Lib.hid h
  have hm' := Lib.hid hm
  have hn := h.hn
  clear h hm hi hz0 hz1 hz2 hj hy0 hy1 hy2
  go_enter Try.func28, Try.ntmps28
  go_wp2_with fail
  go_loopg [3, 4] n (fun g s3 s4 wr => ∃ (k : Nat) (Vs : List Value), k + g = n ∧ s4 = .int .i64 k ∧ wr.ownsRow w.heap.size 80 1 s3 k Vs ∧ Rows_ wr w.heap.size Vs (wordsL f (L.take k)) ∧ Below w.heap.size w wr)
  case atStart => exact ⟨0, [], by omega, rfl, World.ownsRow_nil _ _ _ _, ⟨rfl, by simp [wordsL]⟩, Below.refl _ _⟩
  case round =>
    obtain ⟨k, Vs, hkg, rfl, ho, hV, hbr⟩ := hrel
    have ho' := Lib.hid ho
    have hV' := Lib.hid hV
    have hbr' := Lib.hid hbr
    have c0 := (H.out.below hbr).c0
    clear ho hV hbr
    cases gk with
    | zero =>
      have e0 : ¬ ((k : Int) < (n : Int)) := by omega
      have hkn : k = n := by omega
      obtain ⟨A3, c3, hv3, q1, q2, q3, q4⟩ := rows_own ho'.out hV'.out (Nat.le_refl _)
      have htk : L.take k = L := List.take_of_length_le (by rw [H.out.hr.1]; omega)
      rw [htk] at q3 q4
      have q3' := Lib.hid q3
      clear q3
      subst hkn
      subst hv3
      go_wp2
      go_ret
      exact ⟨A3, c3, rfl, q1, q2, q3'.out, q4, hbr'.out⟩
    | succ g =>
      have e0 : (k : Int) < (n : Int) := by omega
      obtain ⟨blk, off, r, rfl, hB, hL, hRr, hWf⟩ := (H.out.hr.below hbr'.out).at_ (k := k) (by omega)
      obtain ⟨m1, m2, m3, m4, m5, m6, m7⟩ := (mayB_iff r).1 (hm'.out r (List.mem_of_getElem? hL))
      have hL' := Lib.hid hL
      have hR0 := Lib.hid hRr
      have hsz := hbr'.out.size
      obtain ⟨sz, hsz2⟩ : ∃ sz : Nat, (sz : Int) = r.size := ⟨r.size.toNat, by omega⟩
      have hszn : r.size.toNat = sz := by omega
      have hHo := Lib.hid (H.out.below hbr'.out)
      clear hL hWf hRr
      go_wp2_with fail
      obtain ⟨wo, hwo⟩ : ∃ wo : World, wo = wr := ⟨_, rfl⟩
      rw [← hwo] at hR0 ho' hV' hHo hbr' hsz c0 ⊢
      clear hwo c0
      go_loopg [5, 6] sz (fun g2 s5 s6 wy => ∃ j : Nat, j + g2 = sz ∧ s6 = .int .i64 j ∧ wy.ownsRow wo.heap.size 30 1 s5 j (wCells (rowW f r j)) ∧ Below wo.heap.size wo wy)
      case atStart => exact ⟨0, by omega, rfl, World.ownsRow_nil _ _ _ _, Below.refl _ _⟩
      case round =>
        obtain ⟨j, hjg, rfl, ho2, hb2⟩ := hrel
        have ho2' := Lib.hid ho2
        have hb2' := Lib.hid hb2
        obtain ⟨b0, b1, b2, b3⟩ := hR0.out.below hb2 (cell_some_lt hR0.out.1)
        have Hy := Lib.hid (hHo.out.below hb2)
        have c0 := Hy.out.c0
        have hout := Lib.hid (ownsRow_below ho'.out hb2)
        have hVy := Lib.hid (hV'.out.below hb2)
        have hly := hb2.size
        clear ho2 hb2
        cases gk with
        | zero =>
          have e1 : ¬ ((j : Int) < r.size) := by omega
          have hjs := Lib.hid (show j = sz by omega)
          obtain ⟨A6, c6, hv6, q1, q2, q3, q4⟩ := row_own ho2'.out (rowW_bd Hy.out.hf r j)
          rw [rowW_len] at hv6 q1
          have q3' := Lib.hid q3
          clear q3 ho2' hjg q4
          subst hv6
          have hown := Lib.hid (hout.out.alloc (.cells #[.slice A6 j c6] 80))
          have hnew := Lib.hid (cell_one_new wr (.slice A6 j c6) 80)
          have hbA := Lib.hid ((Below.refl wr.heap.size wr).alloc (Nat.le_refl _) (.cells #[.slice A6 j c6] 80))
          have hone := Lib.hid (show ∀ u ∈ [Value.slice A6 j c6], u.oneCell' = true by simp [Value.oneCell'])
          have hbs := Lib.hid (show w.heap.size ≤ (wr.alloc (.cells #[.slice A6 j c6] 80)).heap.size by simp; omega)
          have hk1 := Lib.hid (show k + 1 ≤ maxLen by unfold maxLen; omega)
          have hk2 := Lib.hid (show (k + 1) * 24 ≤ 140737488355328 by omega)
          obtain ⟨hj1, hj2, hj3, hj4⟩ := hj'.out
          go_wp2_with ((at_builtin; refine wpList_append_own_at _ rfl _ _ 48 rfl w.heap.size 80 j0 _ 1 24 und48 hj1 hj2 hj3 hj4 rfl (by decide) u3 k Vs rfl hown.out ⟨wr.heap.size, 0, none⟩ 1 1 [.slice A6 j c6] rfl rfl hnew.out hone.out hk1.out hk2.out hbs.out ?_; intro v' w4 hown4 hg4 hnil4 hat4))
          have hVn : Rows_ w4 w.heap.size (Vs ++ [.slice A6 j c6]) (wordsL f (L.take (k + 1))) := by
            rw [wordsL_take hL'.out, hszn, ← hjs.out]
            have h5 := ((hVy.out.below hbA.out).keep (keep30 hown.out hg4 w.heap.size)).snoc (A := A6) (c := c6) (ws := rowW f r j) (by rw [rowW_len]; exact q1) q2
              (((q3'.out.less (by omega : w.heap.size ≤ wo.heap.size)).keep fun blk cur _ hc => (hbA.out.block blk (blk_lt hc)).trans hc).keep (keep30 hown.out hg4 w.heap.size))
            rw [rowW_len] at h5
            exact h5
          have hB4 : Below w.heap.size w w4 := (Below.next hbr'.out (Below.next hb2'.out hbA.out)).grown hg4 (by simp; omega) (fun g' e => (hown.out.lt g' e).1)
          have hVn' := Lib.hid hVn
          have hB4' := Lib.hid hB4
          have hown4' := Lib.hid hown4
          clear hVn hB4 hown4 hg4 hnil4 hat4 c0 b0 b1 b2 b3
          go_wp2
          go_roundg g
          case measure => omega
          case rel => exact ⟨k + 1, _, by omega, by go_num, hown4'.out, hVn'.out, hB4'.out⟩
        | succ g2 =>
          have e1 : (j : Int) < r.size := by omega
          have e2 : (j : Int) < 512 := by omega
          have hget := Lib.hid (refGet_int (r.addr + 8 * j) wr Hy.out (by omega) (by omega))
          have e8 : (r.addr + 8 * (j : Int)).toNat = r.addr.toNat + 8 * j := by omega
          rw [e8] at hget
          have hrw := Lib.hid (rowW_succ f r j)
          clear e8
          generalize get8 f (r.addr.toNat + 8 * j) = x at hget hrw
          have hown := Lib.hid (ho2'.out.alloc (.cells #[.int .u64 x] 30))
          have hnew := Lib.hid (cell_one_new wr (.int .u64 x) 30)
          have hbA := Lib.hid ((Below.refl wr.heap.size wr).alloc (Nat.le_refl _) (.cells #[.int .u64 x] 30))
          have hone := Lib.hid (show ∀ u ∈ [Value.int .u64 x], u.oneCell' = true by simp [Value.oneCell'])
          have hbs := Lib.hid (show wo.heap.size ≤ (wr.alloc (.cells #[.int .u64 x] 30)).heap.size by simp; omega)
          have hk1 := Lib.hid (show j + 1 ≤ maxLen by unfold maxLen; omega)
          have hk2 := Lib.hid (show (j + 1) * 8 ≤ 140737488355328 by omega)
          obtain ⟨hj1, hj2, hj3, hj4⟩ := hi'.out
          go_wp2_with fail
          refine hget.out.mono ?_
          rintro e w5 ⟨rfl, rfl⟩
          go_wp2_with ((at_builtin; refine wpList_append_own_at _ rfl _ _ 80 rfl wo.heap.size 30 i0 _ 1 8 und80 hj1 hj2 hj3 hj4 rfl (by decide) u5 j (wCells (rowW f r j)) rfl hown.out ⟨wr.heap.size, 0, none⟩ 1 1 [.int .u64 x] rfl rfl hnew.out hone.out hk1.out hk2.out hbs.out ?_; intro v' w4 hown4 hg4 hnil4 hat4))
          have hB4 : Below wo.heap.size wo w4 := (Below.next hb2'.out hbA.out).grown hg4 (by simp; omega) (fun g' e => (hown.out.lt g' e).1)
          have hB4' := Lib.hid hB4
          have hown4' := Lib.hid hown4
          clear hB4 hown4 hg4 hnil4 hat4 c0 b0 b1 b2 b3
          go_wp2
          go_roundg g2
          case measure => omega
          case rel => exact ⟨j + 1, by omega, by go_num, by rw [hrw.out]; simpa [wCells] using hown4'.out, hB4'.out⟩
end Go.Proofs.Ytageahpgcjnkpaa
