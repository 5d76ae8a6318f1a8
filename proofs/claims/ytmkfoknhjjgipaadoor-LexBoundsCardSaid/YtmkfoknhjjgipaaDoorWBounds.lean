/- LexBounds: the walk. -/
import Derived.Test.YtmkfoknhjjgipaaDoorO
import Derived.Laws.OwnMore
import Derived.Deep.OwnRows
set_option linter.unusedSimpArgs false
set_option linter.unusedVariables false
namespace Go.Proofs.YtmkfoknhjjgipaaDoor
open Go.RowKit Go.Lib Go.Shelf

theorem skip_spaces : ∀ k, skipL false (List.replicate k 32) = k
  | 0 => rfl
  | k + 1 => by
    rw [List.replicate_succ, skipL, if_neg (by decide), if_pos (by decide), skip_spaces k]
def spaces : ByteArray := ⟨(List.replicate 65536 32).toArray⟩
theorem spaces_list : spaces.data.toList = List.replicate 65536 32 := List.toList_toArray
theorem spaces_size : spaces.size = 65536 := by rw [← size_list, spaces_list, List.length_replicate]
theorem spaces_all : allM spaces = ([], 0, 0, 0) := by
  have h : scanA spaces = ([], none) := by
    unfold scanA
    rw [spaces_list]
    refine scanF_end ?_ _ _
    rw [skip_spaces, List.drop_eq_nil_iff, List.length_replicate]
    exact Nat.le_refl _
  unfold allM
  rw [if_neg (by rw [spaces_size]; omega), h]
theorem more_all {s : ByteArray} (h : s.size = 65537) : allM s = ([], 3, 0, 0) := by
  unfold allM
  rw [if_pos (by omega)]
theorem byte5 : (Tryd.prog.info? 5).map (fun i => (i.zero, i.size, i.bytes)) = some (some (.int .u8 0), 1, 1) := by kernel_rfl
theorem make_long (w : World) : (Instr.makeSlice 26 (.int .i64 65536) (.int .i64 65536)).run Tryd.prog w = .ok (.slice (some ⟨w.heap.size, 0, none⟩) 65536 65536) (w.alloc (.cells (madeCells #[.int .u8 0] 65536) 5)) :=
  run_make_row' 26 5 (.int .u8 0) 1 u73 byte5 rfl .i64 .i64 65536 (by omega) (by omega) w
theorem made_at (n j : Nat) (h : j < n) : (madeCells #[.int .u8 0] n)[j]? = some (.int .u8 0) := by
  unfold madeCells
  simp [h, Nat.mod_one]
theorem set_at {W : World} {b k : Nat} {cs : Array Value} {t : TypeId} {v : Value} (h : W.heap[b]? = some (.cells cs t (0, 0))) : (W.setCell ⟨b, k, none⟩ v).heap[b]? = some (.cells (cs.setIfInBounds k v) t (0, 0)) := by
  simp [World.setCell, Array.getElem?_modify, h]
/-- the text of what was laid -/
theorem conv_spaces {W : World} {b : Nat} (h : ∀ j, j < 65536 → W.cell? ⟨b, j, none⟩ = some (.int .u8 32)) : (convert 26 9 (.slice (some ⟨b, 0, none⟩) 65536 65536)).run Tryd.prog W = .ok (.string spaces) W := by
  have hr := run_convert_bytes_back (P := Tryd.prog) W 26 9 5 ⟨b, 0, none⟩ 65536 (List.replicate 65536 32) u73 u5 u9 (fun j hj => by
    rw [List.length_replicate] at hj
    rw [Lib.add_plain, Nat.zero_add, List.getElem_replicate]
    exact h j hj)
  rw [List.length_replicate] at hr
  exact hr
theorem kb_num : numI ⟨#[49, 56, 52, 52, 54, 55, 52, 52, 48, 55, 51, 55, 48, 57, 53, 53, 49, 54, 49, 53]⟩ = some 18446744073709551615 := by decide +kernel
theorem kb_t0 : (allM ⟨#[97, 98, 99, 100, 101, 102, 103, 104, 105, 106, 107, 108, 109, 110, 111, 112]⟩).2 = (0, 0, 0) ∧ plainT ((allM ⟨#[97, 98, 99, 100, 101, 102, 103, 104, 105, 106, 107, 108, 109, 110, 111, 112]⟩).1.map fun t => mkB t.x.t) = ⟨#[97, 98, 99, 100, 101, 102, 103, 104, 105, 106, 107, 108, 109, 110, 111, 112]⟩ ∧ (allM ⟨#[97, 98, 99, 100, 101, 102, 103, 104, 105, 106, 107, 108, 109, 110, 111, 112]⟩).1.length ≤ 1000 ∧ (Lib.join ((allM ⟨#[97, 98, 99, 100, 101, 102, 103, 104, 105, 106, 107, 108, 109, 110, 111, 112]⟩).1.map fun t => t.x.t) [32]).length ≤ 140737488355328 := by decide +kernel
theorem kb_t1 : (allM ⟨#[62, 62, 62, 62, 62, 61, 45, 62, 61, 61, 60, 60, 61]⟩).2 = (0, 0, 0) ∧ plainT ((allM ⟨#[62, 62, 62, 62, 62, 61, 45, 62, 61, 61, 60, 60, 61]⟩).1.map fun t => mkB t.x.t) = ⟨#[62, 62, 62, 62, 32, 62, 32, 61, 32, 45, 62, 32, 61, 61, 32, 60, 60, 32, 61]⟩ ∧ (allM ⟨#[62, 62, 62, 62, 62, 61, 45, 62, 61, 61, 60, 60, 61]⟩).1.length ≤ 1000 ∧ (Lib.join ((allM ⟨#[62, 62, 62, 62, 62, 61, 45, 62, 61, 61, 60, 60, 61]⟩).1.map fun t => t.x.t) [32]).length ≤ 140737488355328 := by decide +kernel
theorem kb_t2 : (allM ⟨#[35]⟩).2 = (0, 0, 0) ∧ plainT ((allM ⟨#[35]⟩).1.map fun t => mkB t.x.t) = ⟨#[]⟩ ∧ (allM ⟨#[35]⟩).1.length ≤ 1000 ∧ (Lib.join ((allM ⟨#[35]⟩).1.map fun t => t.x.t) [32]).length ≤ 140737488355328 := by decide +kernel
theorem kb_t3 : (allM ⟨#[]⟩).2 = (0, 0, 0) ∧ plainT ((allM ⟨#[]⟩).1.map fun t => mkB t.x.t) = ⟨#[]⟩ ∧ (allM ⟨#[]⟩).1.length ≤ 1000 ∧ (Lib.join ((allM ⟨#[]⟩).1.map fun t => t.x.t) [32]).length ≤ 140737488355328 := by decide +kernel
theorem kb_f0 : allM ⟨#[97, 32, 33]⟩ = ([], 15, 1, 3) := by decide +kernel
theorem kb_f1 : allM ⟨#[10, 10, 32, 49, 120]⟩ = ([], 15, 3, 2) := by decide +kernel
theorem kb_f2 : allM ⟨#[120, 32, 35, 10, 57, 57, 57, 57, 57, 57, 57, 57, 57, 57, 57, 57, 57, 57, 57, 57, 57, 57, 57, 57]⟩ = ([], 15, 2, 1) := by decide +kernel
theorem kb_f3 : allM ⟨#[95, 97]⟩ = ([], 15, 1, 1) := by decide +kernel
theorem kb_f4 : allM ⟨#[65]⟩ = ([], 15, 1, 1) := by decide +kernel
set_option maxRecDepth 100000 in
set_option maxHeartbeats 16000000 in
theorem lexBounds_any (w : World) (hE : Env w) : Calls Tryd.prog 4 #[] w (OkPost w) := by
  have hE' := Lib.hid hE
  have hT := Lib.hid fun (s t : ByteArray) (h : (allM s).2 = (0, 0, 0) ∧ plainT ((allM s).1.map fun t => mkB t.x.t) = t ∧ (allM s).1.length ≤ 1000 ∧ (Lib.join ((allM s).1.map fun t => t.x.t) [32]).length ≤ 140737488355328) (hs : s.size ≤ 2000000) (W : World) (hb : Below w.heap.size w W) => texts_ok s t W (hE.below hb) hs h.1 h.2.1 h.2.2.1 h.2.2.2
  have hF := Lib.hid fun (s : ByteArray) (er : Int) (l c : Nat) (h : allM s = ([], er, l, c)) (hs : s.size ≤ 2000000) (W : World) (hb : Below w.heap.size w W) => fault_ok s er l c W (hE.below hb) hs h
  have hK := Lib.hid fun (W : World) (hb : Below w.heap.size w W) => known_any W (hE.below hb)
  have hnum := Lib.hid fun W => num_any 0 W
  have hz : ∀ W, (binOp .eql 30 (.agg #[.int .i64 0, .int .i64 0, .int .i64 0]) (.agg #[.int .i64 0, .int .i64 0, .int .i64 0])).run Tryd.prog W = .ok (.bool true) W := fun W => by kernel_rfl
  have hmk := make_long
  have hbW := Lib.hid ((Below.refl w.heap.size w).alloc (Nat.le_refl _) (.cells (madeCells #[.int .u8 0] 65536) 5))
  have hnw := Lib.hid (heap_alloc_new w (.cells (madeCells #[.int .u8 0] 65536) 5))
  have hma := Lib.hid fun j => made_at 65536 j
  have hms := Lib.hid (show (madeCells #[.int .u8 0] 65536).size = 65536 by rw [size_madeCells])
  generalize madeCells #[.int .u8 0] 65536 = CS at hmk hbW hnw hma hms
  clear hE
  go_enter Tryd.func4, Tryd.ntmps4
  go_wp2_with fail
  go_loopg [2] 65536 (fun g s2 wr => ∃ (k : Nat) (cs : Array Value), k + g = 65536 ∧ s2 = .int .i64 k ∧ wr.heap[w.heap.size]? = some (.cells cs 5 (0, 0)) ∧ cs.size = 65536 ∧ (∀ j, j < k → cs[j]? = some (.int .u8 32)) ∧ (∀ j, k ≤ j → j < 65536 → cs[j]? = some (.int .u8 0)) ∧ Below w.heap.size w wr)
  case atStart => exact ⟨0, CS, by omega, rfl, hnw.out, hms.out, fun j h => absurd h (by omega), fun j _ h => hma.out j h, hbW.out⟩
  case round =>
    obtain ⟨k, cs, hkg, rfl, hc, hcs, hlo, hhi, hb⟩ := hrel
    have hb := Lib.hid hb
    clear hmk
    cases gk with
    | succ g =>
      have e0 : (k : Int) < 65536 := by omega
      have c0 : wr.cell? ⟨w.heap.size, k, none⟩ = some (.int .u8 0) := by rw [blk_cell hc]; exact hhi k (Nat.le_refl _) (by omega)
      have f0 : wr.frozen? ⟨w.heap.size, k, none⟩ = false := by simp [World.frozen?, hc]
      have l0 := blk_lt hc
      have hset := Lib.hid (set_at (k := k) (v := .int .u8 32) hc)
      have hlo := Lib.hid hlo
      have hhi := Lib.hid hhi
      clear hc
      go_wp2
      go_roundg g
      case measure => omega
      case rel =>
        refine ⟨k + 1, cs.setIfInBounds k (.int .u8 32), by omega, by go_num, hset.out, by rw [Array.size_setIfInBounds, hcs], fun j hj => ?_, fun j hj hj2 => ?_, hb.out.setCell (p := ⟨w.heap.size, k, none⟩) (Nat.le_refl _) _⟩
        · rw [Array.getElem?_setIfInBounds]
          split
          · rename_i h; subst h; rw [if_pos (by omega)]
          · exact hlo.out j (by omega)
        · rw [Array.getElem?_setIfInBounds, if_neg (by omega)]
          exact hhi.out j (by omega) hj2
    | zero =>
      obtain rfl : k = 65536 := by omega
      have e0 : ¬ ((65536 : Int) < 65536) := by omega
      have hcell : ∀ j, j < 65536 → wr.cell? ⟨w.heap.size, j, none⟩ = some (.int .u8 32) := fun j hj => by rw [blk_cell hc]; exact hlo j hj
      have hcv := conv_spaces hcell
      have hcv2 := Lib.hid fun (W : World) (h : Below wr.heap.size wr W) => conv_spaces (W := W) (b := w.heap.size) fun j hj => (h.cell (p := ⟨w.heap.size, j, none⟩) (blk_lt hc)).trans (hcell j hj)
      have hsz := spaces_size
      have hall := all_any spaces wr (hE'.out.below hb.out) (by omega)
      unfold AllPost at hall
      rw [spaces_all] at hall
      have hmore : ∀ t : ByteArray, t = spaces ++ ⟨#[32]⟩ → allM t = ([], 3, 0, 0) ∧ t.size ≤ 2000000 := fun t ht => by
        have e : t.size = 65537 := by rw [ht, ByteArray.size_append, hsz]; rfl
        exact ⟨more_all e, by omega⟩
      generalize spaces = S at hcv hcv2 hsz hall hmore
      obtain ⟨S2, hS2⟩ : ∃ S2, S ++ ⟨#[32]⟩ = S2 := ⟨_, rfl⟩
      have hmore := Lib.hid (hmore S2 hS2.symm)
      have hall := Lib.hid hall
      have p1 : ¬ 9223372036854775807 < S.size + (⟨#[32]⟩ : ByteArray).size := by rw [hsz]; decide
      have p2 : (⟨#[32]⟩ : ByteArray).size = 1 := rfl
      clear hc hcell hlo hhi
      go_wp2_with fail
      refine hall.out.mono ?_
      rintro e w1 ⟨v, rfl, hv, hb1⟩
      obtain ⟨A, cp, rfl, _, _, _⟩ := tpsAt_form hv
      unfold fltV
      dsimp only
      have hbw1 := Lib.hid (hb1)
      obtain ⟨W1, hW1⟩ : ∃ W1, w1.alloc (.cells #[.int .i64 0, .int .i64 0, .int .i64 0] 30) = W1 := ⟨_, rfl⟩
      obtain ⟨fb, hfb⟩ : ∃ fb, w1.heap.size = fb := ⟨_, rfl⟩
      have hB1 : Below wr.heap.size wr W1 := by rw [← hW1]; exact hb1.alloc hb1.size _
      have hF1 : W1.heap[fb]? = some (.cells #[.int .i64 0, .int .i64 0, .int .i64 0] 30 (0, 0)) := by rw [← hW1, ← hfb]; exact heap_alloc_new _ _
      have hnu := Lib.hid (number_any ⟨#[49, 56, 52, 52, 54, 55, 52, 52, 48, 55, 51, 55, 48, 57, 53, 53, 49, 54, 49, 53]⟩ W1 (hE'.out.below (Below.next hb.out hB1)) (by decide))
      have hB1 := Lib.hid hB1
      have hF1 := Lib.hid hF1
      have hW1' := Lib.hid hW1
      have hfb' := Lib.hid hfb
      clear hv hb1 hW1 hfb hcv
      go_wp2_with fail
      rw [hW1'.out, hfb'.out]
      refine hnu.out.mono ?_
      rintro e w2 ⟨_, hyes, hb2⟩
      obtain rfl := hyes _ kb_num
      have hB2 := Lib.hid (Below.next hB1.out hb2)
      obtain ⟨x0, x1, x2, xf⟩ := box3 ((hb2.block fb (blk_lt hF1.out)).trans hF1.out)
      have hcv := hcv2.out w2 hB2.out
      have hk2 := Lib.hid (Below.next hb.out hB2.out)
      have q1 := Lib.hid (hF.out S2 3 0 0 hmore.out.1 hmore.out.2 w2 hk2.out)
      clear hyes hb2
      go_wp2_with fail
      refine q1.out.mono ?_
      rintro e w3 ⟨rfl, hb3⟩
      have hk3 := Lib.hid (Below.next hk2.out hb3)
      clear hb3
      go_wp2_with fail
      refine (hnum.out _).mono ?_
      rintro e w3' ⟨rfl, rfl⟩
      go_wp2_with fail
      refine (hT.out ⟨#[97, 98, 99, 100, 101, 102, 103, 104, 105, 106, 107, 108, 109, 110, 111, 112]⟩ ⟨#[97, 98, 99, 100, 101, 102, 103, 104, 105, 106, 107, 108, 109, 110, 111, 112]⟩ kb_t0 (by decide) _ hk3.out).mono ?_
      rintro e w4 ⟨rfl, hb4⟩
      have hk4 := Lib.hid (Below.next hk3.out hb4)
      clear hb4
      go_wp2_with fail
      refine (hT.out ⟨#[62, 62, 62, 62, 62, 61, 45, 62, 61, 61, 60, 60, 61]⟩ ⟨#[62, 62, 62, 62, 32, 62, 32, 61, 32, 45, 62, 32, 61, 61, 32, 60, 60, 32, 61]⟩ kb_t1 (by decide) _ hk4.out).mono ?_
      rintro e w5 ⟨rfl, hb5⟩
      have hk5 := Lib.hid (Below.next hk4.out hb5)
      clear hb5
      go_wp2_with fail
      refine (hF.out ⟨#[97, 32, 33]⟩ 15 1 3 kb_f0 (by decide) _ hk5.out).mono ?_
      rintro e w6 ⟨rfl, hb6⟩
      have hk6 := Lib.hid (Below.next hk5.out hb6)
      clear hb6
      go_wp2_with fail
      refine (hF.out ⟨#[10, 10, 32, 49, 120]⟩ 15 3 2 kb_f1 (by decide) _ hk6.out).mono ?_
      rintro e w7 ⟨rfl, hb7⟩
      have hk7 := Lib.hid (Below.next hk6.out hb7)
      clear hb7
      go_wp2_with fail
      refine (hF.out ⟨#[120, 32, 35, 10, 57, 57, 57, 57, 57, 57, 57, 57, 57, 57, 57, 57, 57, 57, 57, 57, 57, 57, 57, 57]⟩ 15 2 1 kb_f2 (by decide) _ hk7.out).mono ?_
      rintro e w8 ⟨rfl, hb8⟩
      have hk8 := Lib.hid (Below.next hk7.out hb8)
      clear hb8
      go_wp2_with fail
      refine (hT.out ⟨#[35]⟩ ⟨#[]⟩ kb_t2 (by decide) _ hk8.out).mono ?_
      rintro e w9 ⟨rfl, hb9⟩
      have hk9 := Lib.hid (Below.next hk8.out hb9)
      clear hb9
      go_wp2_with fail
      refine (hT.out ⟨#[]⟩ ⟨#[]⟩ kb_t3 (by decide) _ hk9.out).mono ?_
      rintro e w10 ⟨rfl, hb10⟩
      have hk10 := Lib.hid (Below.next hk9.out hb10)
      clear hb10
      go_wp2_with fail
      refine (hF.out ⟨#[95, 97]⟩ 15 1 1 kb_f3 (by decide) _ hk10.out).mono ?_
      rintro e w11 ⟨rfl, hb11⟩
      have hk11 := Lib.hid (Below.next hk10.out hb11)
      clear hb11
      go_wp2_with fail
      refine (hF.out ⟨#[65]⟩ 15 1 1 kb_f4 (by decide) _ hk11.out).mono ?_
      rintro e w12 ⟨rfl, hb12⟩
      have hk12 := Lib.hid (Below.next hk11.out hb12)
      clear hb12
      go_wp2_with fail
      refine (hK.out _ hk12.out).mono ?_
      rintro e w13 ⟨rfl, hb13⟩
      have hk13 := Lib.hid (Below.next hk12.out hb13)
      go_wp2
      go_ret
      exact ⟨rfl, hk13.out⟩
end Go.Proofs.YtmkfoknhjjgipaaDoor
