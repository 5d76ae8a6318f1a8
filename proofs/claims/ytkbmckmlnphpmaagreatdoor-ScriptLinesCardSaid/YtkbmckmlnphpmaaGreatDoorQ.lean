/- The reference's Words. -/
import Derived.Test.YtkbmckmlnphpmaaGreatDoorP
set_option linter.unusedSimpArgs false
set_option linter.unusedVariables false
namespace Go.Proofs.YtkbmckmlnphpmaaGreatDoor
open Go.RowKit Go.Lib Go.Shelf

theorem ownC_conv_all {w : World} {b0 n : Nat} {v : Value} {xs : List UInt8} (h : OwnC w b0 v n xs) : (convert 73 9 v).run Tryz.prog w = .ok (.string ⟨xs.toArray⟩) w := by
  rcases h.2 with ⟨rfl, rfl⟩ | ⟨g, cap, rfl, _⟩
  · have hx : xs = [] := List.length_eq_zero_iff.1 h.1
    subst hx
    exact run_convert_bytes_nil (P := Tryz.prog) w 73 5 u73 u5 0 0 9 u9
  · exact ownC_text h
theorem tailL_snoc (l : List Int) (x : Int) : tailL (l ++ [x]) = tailL l ++ 32 :: Lib.decDigits x.toNat := by simp [tailL]
theorem numT_size (u : Nat) (hu : u < 18446744073709551616) : (numT u).size ≤ 20 := by
  have := numT_len u hu
  rw [size_list] at this
  exact this

theorem new_cell (w : World) (v : Value) (t : TypeId) : (w.alloc (.cells #[v] t)).cell? ⟨w.heap.size, 0, none⟩ = some v := by
  rw [blk_cell (heap_alloc_new w _)]; rfl
theorem new_cell_d (w : World) (v : Value) (t : TypeId) : (w.alloc (.cells #[v] t)).drew.cell? ⟨w.heap.size, 0, none⟩ = some v := new_cell w v t
theorem below_alloc_d {B : Nat} {a w : World} (h : Below B a w.drew) (hB : B ≤ w.heap.size) (o : Obj) : Below B a (w.alloc o).drew := h.alloc hB o

set_option maxRecDepth 100000 in
set_option maxHeartbeats 4000000 in
theorem refWords_any (word : ByteArray) (A : Option Addr) (n c : Nat) (l : List Int) (w : World) (hl : l.length = n) (hw : WAt w A l) (hT : Tab w) (h1 : word.size ≤ 1000000) (h2 : n ≤ 1000000) :
    Calls Tryz.prog 17 #[.string word, .slice A n c] w (StrPost (lineT word l) w) := by
  obtain ⟨v0, w0, hcv, ho0, hb0⟩ : ∃ v0 w0, (convert 9 73 (.string word)).run Tryz.prog w = .ok v0 w0 ∧ OwnC w0 w.heap.size v0 word.size word.data.toList ∧ Below w.heap.size w w0 :=
    ⟨_, _, Go.Lib.run_convert_string_bytes (P := Tryz.prog) w 9 73 5 word u9 u73 u5, ownC_conv w word (by unfold maxLen; omega), below_bytes w word⟩
  have ho0 := Lib.hid ho0
  have hb0 := Lib.hid hb0
  have hT' := Lib.hid hT
  have hw' := Lib.hid hw
  have hl' := Lib.hid hl
  clear hT hw hl
  go_enter Tryz.func17, Tryz.ntmps17
  go_wp2_with fail
  go_loopg [5, 6] n (fun g s5 s6 wr => ∃ k N : Nat, k + g = n ∧ s6 = .int .i64 k ∧ N ≤ word.size + 21 * k ∧ OwnC wr w.heap.size s5 N (word.data.toList ++ tailL (l.take k)) ∧ Below w.heap.size w wr)
  case atStart => exact ⟨0, word.size, by omega, rfl, by omega, by simpa [tailL] using ho0.out, hb0.out⟩
  case round =>
    obtain ⟨k, N, hkg, rfl, hN, ho, hb⟩ := hrel
    have ho := Lib.hid ho
    have hb := Lib.hid hb
    cases gk with
    | zero =>
      have e0 : ¬ ((k : Int) < (n : Int)) := by omega
      have htk : l.take k = l := List.take_of_length_le (by rw [hl'.out]; omega)
      have hcv2 := ownC_conv_all ho.out
      rw [htk] at hcv2
      have hfin := Lib.hid (show (⟨(word.data.toList ++ tailL l).toArray⟩ : ByteArray) = lineT word l from ext_bytes (by rw [lineT_list]))
      rw [hfin.out] at hcv2
      clear htk
      go_wp2
      go_ret
      exact ⟨rfl, hb.out⟩
    | succ g =>
      have e0 : (k : Int) < (n : Int) := by omega
      obtain ⟨blk, off, x, rfl, hx, cx, x0, x1⟩ := hw'.out.at_ (k := k) (by rw [hl'.out]; omega)
      obtain ⟨u, rfl⟩ := Int.eq_ofNat_of_zero_le x0
      have hx' := Lib.hid hx
      have hu := Lib.hid (show u < 18446744073709551616 by omega)
      have hfm := Lib.hid fun (W : World) (h : Below w.heap.size w W) => fmtU u (by omega) W (hT'.out.below h)
      have hkp := Lib.hid fun (W : World) (h : Below w.heap.size w W) => (h.cell (p := ⟨blk, off + k, none⟩) (cell_some_lt cx)).trans cx
      have hsz20 := Lib.hid (numT_size u (by omega))
      have hN2 := Lib.hid (show N + 21 ≤ 1000000000 by omega)
      have hc1 := hkp.out _ hb.out
      clear hx cx x0 x1
      go_wp2_with fail
      have ho := Lib.hid (ho.out.kept ((Below.refl _ _).drew))
      have hb := Lib.hid hb.out.drew
      go_region_held_law (fun W => W.cell? ⟨blk, off + k, none⟩ = some (.int .u64 u)) (first | exact hkp.out _ hb5.out | exact hkp.out _ hb.out | exact hkp.out _ (below_alloc_d hb.out hb.out.size _) | exact hkp.out _ (hb.out.alloc hb.out.size _)) (first
        | (go_at_call 51; refine (hfm.out _ hb.out).mono ?_; rintro e w3 ⟨rfl, b3⟩; have ho := Lib.hid (ho.out.kept b3); have hb := Lib.hid (Below.next hb.out b3); clear b3)
        | (go_at_call 51; refine (hfm.out _ (below_alloc_d hb.out hb.out.size _)).mono ?_; rintro e w3 ⟨rfl, b3⟩; have hN := Lib.hid ((b3.cell (p := ⟨wr.heap.size, 0, none⟩) (by simp)).trans (new_cell_d wr _ _)); have ho := Lib.hid ((ho.out.kept (below_alloc_d (Below.refl _ _) (Nat.le_refl _) _)).kept b3); have hb := Lib.hid (Below.next (below_alloc_d hb.out hb.out.size _) b3); clear b3)
        | (refine step_append_C_string rfl _ _ rfl w.heap.size (N + 1) _ _ rfl ho.out (numT u) rfl (by have := hsz20.out; have := hN2.out; omega) hb.out.size ?_; intro v5 w5 ho5 hg5; have hb5 := Lib.hid (hb.out.grown hg5 hb.out.size (fun g' e => (ho.out.lt g' e).1)); have ho5' := Lib.hid ho5; clear ho5 hg5)
        | (refine step_append_C_byte rfl _ _ rfl w.heap.size N _ _ rfl ho.out _ 32 rfl hN.out (by have := hN2.out; omega) hb.out.size ?_; intro v4 w4 ho4 hg4; have hb := Lib.hid (hb.out.grown hg4 hb.out.size (fun g' e => (ho.out.lt g' e).1)); have ho := Lib.hid ho4; clear ho4 hg4)
        | (refine step_append_C_byte rfl _ _ rfl w.heap.size N _ _ rfl (ho.out.kept ((Below.refl _ _).alloc (Nat.le_refl _) _)) _ 32 rfl (new_cell _ _ _) (by have := hN2.out; omega) (hb.out.alloc hb.out.size _).size ?_; intro v4 w4 ho4 hg4; have hb := Lib.hid ((hb.out.alloc hb.out.size _).grown hg4 (hb.out.alloc hb.out.size _).size (fun g' e => (ho.out.lt g' e).1)); have ho := Lib.hid ho4; clear ho4 hg4)
        | (refine step_append_C_byte rfl _ _ rfl w.heap.size N _ _ rfl (ho.out.kept (below_alloc_d (Below.refl _ _) (Nat.le_refl _) _)) _ 32 rfl (new_cell_d _ _ _) (by have := hN2.out; omega) (below_alloc_d hb.out hb.out.size _).size ?_; intro v4 w4 ho4 hg4; have hb := Lib.hid ((below_alloc_d hb.out hb.out.size _).grown hg4 (below_alloc_d hb.out hb.out.size _).size (fun g' e => (ho.out.lt g' e).1)); have ho := Lib.hid ho4; clear ho4 hg4))
      all_goals (
        go_wp2
        go_roundg g
        case measure => omega
        case rel =>
          have hs20 := hsz20.out
          refine ⟨k + 1, N + 1 + (numT u).size, by omega, by go_num, by omega, ?_, hb5.out⟩
          have e5 : word.data.toList ++ tailL (l.take (k + 1)) = word.data.toList ++ tailL (l.take k) ++ [32] ++ (numT u).data.toList := by
            have e6 : l.take (k + 1) = l.take k ++ [(u : Int)] := by rw [List.take_add_one, hx'.out]; rfl
            rw [e6, tailL_snoc]
            simp [numT]
          rw [e5]
          exact ho5'.out)
end Go.Proofs.YtkbmckmlnphpmaaGreatDoor
