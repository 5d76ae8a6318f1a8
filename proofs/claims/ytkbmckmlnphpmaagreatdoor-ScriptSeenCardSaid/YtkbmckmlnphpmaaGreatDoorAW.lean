/- What was seen, told: the reference's Seen; told and read again. -/
import Derived.Test.YtkbmckmlnphpmaaGreatDoorAV
import Derived.Test.YtkbmckmlnphpmaaGreatDoorAO
import Derived.Test.YtkbmckmlnphpmaaGreatDoorQ
set_option linter.unusedSimpArgs false
set_option linter.unusedVariables false
namespace Go.Proofs.YtkbmckmlnphpmaaGreatDoor
open Go.RowKit Go.Lib Go.Shelf

/-- the bytes of what was seen -/
def seenF (L : List Sn) : List UInt8 := Lib.join (L.map fun x => (seenT x).data.toList) [32]
theorem seenText_list (L : List Sn) : (seenText L).data.toList = seenF L := by
  unfold seenText joinT seenF
  show Lib.join _ _ = _
  rw [List.map_map]
  rfl
theorem joinTail_snoc (sep : List UInt8) (xs : List (List UInt8)) (y : List UInt8) : Lib.joinTail sep (xs ++ [y]) = Lib.joinTail sep xs ++ sep ++ y := by simp [Lib.joinTail]
theorem join_snoc0 (sep y : List UInt8) : Lib.join ([] ++ [y]) sep = y := Lib.join_one y sep
theorem join_snoc (sep : List UInt8) (xs : List (List UInt8)) (y : List UInt8) (h : 0 < xs.length) : Lib.join (xs ++ [y]) sep = Lib.join xs sep ++ sep ++ y := by
  cases xs with
  | nil => exact absurd h (Nat.lt_irrefl 0)
  | cons x r => rw [List.cons_append, Lib.join_cons, Lib.join_cons, joinTail_snoc]; simp
theorem seenF_zero {L : List Sn} {x : Sn} (h : L[0]? = some x) : seenF (L.take 1) = (seenT x).data.toList := by
  rw [List.take_add_one, h]
  exact Lib.join_one _ _
theorem seenF_next {L : List Sn} {x : Sn} {k : Nat} (h : L[k]? = some x) (hk : 0 < k) : seenF (L.take (k + 1)) = seenF (L.take k) ++ [32] ++ (seenT x).data.toList := by
  have hl := (List.getElem?_eq_some_iff.1 h).1
  rw [List.take_add_one, h]
  unfold seenF
  rw [List.map_append]
  exact join_snoc _ _ _ (by rw [List.length_map, List.length_take]; omega)
theorem seenT_size (x : Sn) (h : 0 ≤ x.a ∧ x.a ≤ 18446744073709551615) : (seenT x).size ≤ 20 := by
  unfold seenT
  split
  · decide
  · split
    · decide
    · exact numT_size _ (by omega)

set_option maxRecDepth 100000 in
set_option maxHeartbeats 4000000 in
theorem refSeen_any (A : Option Addr) (n c : Nat) (L : List Sn) (w : World) (hL : L.length = n) (hA : SnAt w A L) (hT : Tab w) (hn : n ≤ 1000000) (hall : L.all toldB = true) :
    Calls Tryz.prog 31 #[.slice A n c] w (StrPost (seenText L) w) := by
  have hL' := Lib.hid hL
  have hA' := Lib.hid hA
  have hT' := Lib.hid hT
  have hall' := Lib.hid hall
  clear hL hA hT hall
  go_enter Tryz.func31, Tryz.ntmps31
  go_wp2_with fail
  go_loopg [3, 4] n (fun g s3 s4 wr => ∃ k N : Nat, k + g = n ∧ s4 = .int .i64 k ∧ N ≤ 21 * k ∧ OwnC wr w.heap.size s3 N (seenF (L.take k)) ∧ Below w.heap.size w wr)
  case atStart => exact ⟨0, 0, by omega, rfl, by omega, ⟨rfl, .inl ⟨rfl, rfl⟩⟩, Below.refl _ _⟩
  case round =>
    obtain ⟨k, N, hkg, rfl, hN, ho, hb⟩ := hrel
    have ho := Lib.hid ho
    have hb := Lib.hid hb
    cases gk with
    | zero =>
      have e0 : ¬ ((k : Int) < (n : Int)) := by omega
      have htk : L.take k = L := List.take_of_length_le (by rw [hL'.out]; omega)
      have hcv2 := ownC_conv_all ho.out
      rw [htk] at hcv2
      have hfin := Lib.hid (show (⟨(seenF L).toArray⟩ : ByteArray) = seenText L from ext_bytes (by rw [seenText_list]))
      rw [hfin.out] at hcv2
      clear htk
      go_wp2
      go_ret
      exact ⟨rfl, hb.out⟩
    | succ g =>
      have e0 : (k : Int) < (n : Int) := by omega
      obtain ⟨blk, off, x, rfl, hx, v1, v2, v3, x0, x1⟩ := hA'.out.at_ (k := k) (by rw [hL'.out]; omega)
      have hx' := Lib.hid hx
      have hlt := cell_some_lt v1
      have hs20 := Lib.hid (seenT_size x ⟨x0, x1⟩)
      obtain ⟨u, hu⟩ := Int.eq_ofNat_of_zero_le x0
      rw [hu] at v3 x1
      have hu' := Lib.hid hu
      have hfm := Lib.hid fun (W : World) (h : Below w.heap.size w W) => fmtU u (by omega) W (hT'.out.below h)
      obtain ⟨xj, hxj⟩ : ∃ xj, x.j = xj := ⟨_, rfl⟩
      obtain ⟨xt, hxt⟩ : ∃ xt, x.t = xt := ⟨_, rfl⟩
      rw [hxj] at v1
      rw [hxt] at v2
      have hkp := Lib.hid fun (W : World) (h : Below w.heap.size w W) => (show W.cell? ⟨blk, off + k * 3, none⟩ = some (.bool xj) ∧ W.cell? ⟨blk, off + k * 3 + 1, none⟩ = some (.bool xt) ∧ W.cell? ⟨blk, off + k * 3 + 2, none⟩ = some (.int .u64 u) from ⟨(h.cell (p := ⟨blk, off + k * 3, none⟩) hlt).trans v1, (h.cell (p := ⟨blk, off + k * 3 + 1, none⟩) hlt).trans v2, (h.cell (p := ⟨blk, off + k * 3 + 2, none⟩) hlt).trans v3⟩)
      obtain ⟨v1, v2, v3⟩ := hkp.out wr hb.out
      have hsT := Lib.hid (show seenT x = if xt then j1W else if xj then j0W else numT u by unfold seenT; rw [hxj, hxt, hu]; rfl)
      have hN2 := Lib.hid (show N + 21 ≤ 1000000000 by omega)
      have htj := Lib.hid (show xt = true → xj = true from fun h => by
        have h2 := List.all_eq_true.1 hall'.out x (List.mem_of_getElem? hx)
        unfold toldB at h2
        rw [hxj, hxt, h] at h2
        cases xj
        · simp at h2
        · rfl)
      clear hx hu x0 hxj hxt
      -- the state behind the blank
      obtain ⟨M, hM⟩ : ∃ M, M = if k = 0 then N else N + 1 := ⟨_, rfl⟩
      have hfinish : ∀ (T : ByteArray), seenT x = T → ∀ wz v, OwnC wz w.heap.size v (M + T.size) ((if k = 0 then seenF (L.take k) else seenF (L.take k) ++ [32]) ++ T.data.toList) → M + T.size ≤ 21 * (k + 1) ∧ OwnC wz w.heap.size v (M + T.size) (seenF (L.take (k + 1))) := by
        intro T hTx wz v h
        have h20 := hs20.out
        rw [hTx] at h20
        by_cases hk0 : k = 0
        · subst hk0
          rw [if_pos rfl] at h hM
          rw [seenF_zero hx'.out, hTx]
          refine ⟨by omega, ?_⟩
          have : seenF (L.take 0) = [] := rfl
          rw [this] at h
          exact h
        · rw [if_neg hk0] at h hM
          rw [seenF_next hx'.out (by omega), hTx]
          exact ⟨by omega, h⟩
      have hfinish := Lib.hid hfinish
      have hMle := Lib.hid (show M + 20 ≤ 1000000000 by have := hN2.out; subst hM; split <;> omega)
      by_cases hk0 : k = 0
      · subst hk0
        rw [if_pos rfl] at hM
        subst hM
        have e1 : ¬ ((0 : Int) < (0 : Int)) := by omega
        simp only [Nat.zero_mul, Nat.add_zero] at v1 v2 v3
        have hfinish := Lib.hid (show ∀ (T : ByteArray), seenT x = T → ∀ wz v, OwnC wz w.heap.size v (M + T.size) (seenF (L.take 0) ++ T.data.toList) → M + T.size ≤ 21 * (0 + 1) ∧ OwnC wz w.heap.size v (M + T.size) (seenF (L.take (0 + 1))) from by have h := hfinish.out; rw [if_pos rfl] at h; exact h)
        cases xt
        · cases xj
          · have hsT' := Lib.hid (show seenT x = numT u from hsT.out)
            go_wp2_with fail
            refine (hfm.out _ hb.out).mono ?_
            rintro e w3 ⟨rfl, b3⟩
            have ho := Lib.hid (ho.out.kept b3)
            have hb := Lib.hid (Below.next hb.out b3)
            clear b3
            go_wp2_with ((at_builtin; refine wpList_append_C_string rfl _ _ rfl w.heap.size M _ _ rfl ho.out (numT u) rfl (by have := hMle.out; have := hs20.out; rw [hsT'.out] at this; omega) hb.out.size ?_; intro v5 w5 ho5 hg5; have hb5 := Lib.hid (hb.out.grown hg5 hb.out.size (fun g' e => (ho.out.lt g' e).1)); have ho5' := Lib.hid ho5; clear ho5 hg5))
            go_wp2
            go_roundg g
            case measure => omega
            case rel =>
              obtain ⟨f1, f2⟩ := hfinish.out (numT u) hsT'.out _ _ ho5'.out
              exact ⟨0 + 1, _, by omega, by go_num, f1, f2, hb5.out⟩
          · have hsT' := Lib.hid (show seenT x = ⟨#[106, 48]⟩ from hsT.out)
            go_wp2_with ((at_builtin; refine wpList_append_C_string rfl _ _ rfl w.heap.size M _ _ rfl ho.out (⟨#[106, 48]⟩) rfl (by have := hMle.out; have := hs20.out; rw [hsT'.out] at this; omega) hb.out.size ?_; intro v5 w5 ho5 hg5; have hb5 := Lib.hid (hb.out.grown hg5 hb.out.size (fun g' e => (ho.out.lt g' e).1)); have ho5' := Lib.hid ho5; clear ho5 hg5))
            go_wp2
            go_roundg g
            case measure => omega
            case rel =>
              obtain ⟨f1, f2⟩ := hfinish.out (⟨#[106, 48]⟩) hsT'.out _ _ ho5'.out
              exact ⟨0 + 1, _, by omega, by go_num, f1, f2, hb5.out⟩
        · obtain rfl := htj.out rfl
          have hsT' := Lib.hid (show seenT x = ⟨#[106, 49]⟩ from hsT.out)
          go_wp2_with ((at_builtin; refine wpList_append_C_string rfl _ _ rfl w.heap.size M _ _ rfl ho.out (⟨#[106, 49]⟩) rfl (by have := hMle.out; have := hs20.out; rw [hsT'.out] at this; omega) hb.out.size ?_; intro v5 w5 ho5 hg5; have hb5 := Lib.hid (hb.out.grown hg5 hb.out.size (fun g' e => (ho.out.lt g' e).1)); have ho5' := Lib.hid ho5; clear ho5 hg5))
          go_wp2
          go_roundg g
          case measure => omega
          case rel =>
            obtain ⟨f1, f2⟩ := hfinish.out (⟨#[106, 49]⟩) hsT'.out _ _ ho5'.out
            exact ⟨0 + 1, _, by omega, by go_num, f1, f2, hb5.out⟩
      · have e1 : (0 : Int) < (k : Int) := by omega
        rw [if_neg hk0] at hM
        subst hM
        have hfinish := Lib.hid (show ∀ (T : ByteArray), seenT x = T → ∀ wz v, OwnC wz w.heap.size v (N + 1 + T.size) ((seenF (L.take k) ++ [32]) ++ T.data.toList) → N + 1 + T.size ≤ 21 * (k + 1) ∧ OwnC wz w.heap.size v (N + 1 + T.size) (seenF (L.take (k + 1))) from by have h := hfinish.out; rw [if_neg hk0] at h; exact h)
        clear hk0
        cases xt
        · cases xj
          · have hsT' := Lib.hid (show seenT x = numT u from hsT.out)
            go_wp2_with ((at_builtin; refine wpList_append_C_byte rfl _ _ rfl w.heap.size N _ _ rfl (ho.out.kept ((Below.refl _ _).alloc (Nat.le_refl _) _)) _ 32 rfl (new_cell _ _ _) (by have := hN2.out; omega) (hb.out.alloc hb.out.size _).size ?_; intro v4 w4 ho4 hg4; have hb4 := (hb.out.alloc hb.out.size _).grown hg4 (hb.out.alloc hb.out.size _).size (fun g' e => (ho.out.lt g' e).1); have v1 := (hkp.out _ hb4).1; have v2 := (hkp.out _ hb4).2.1; have v3 := (hkp.out _ hb4).2.2; have hb := Lib.hid hb4; have ho := Lib.hid ho4; clear ho4 hg4 hb4))
            go_wp2_with fail
            refine (hfm.out _ hb.out).mono ?_
            rintro e w3 ⟨rfl, b3⟩
            have ho := Lib.hid (ho.out.kept b3)
            have hb := Lib.hid (Below.next hb.out b3)
            clear b3
            go_wp2_with ((at_builtin; refine wpList_append_C_string rfl _ _ rfl w.heap.size (N + 1) _ _ rfl ho.out (numT u) rfl (by have := hMle.out; have := hs20.out; rw [hsT'.out] at this; omega) hb.out.size ?_; intro v5 w5 ho5 hg5; have hb5 := Lib.hid (hb.out.grown hg5 hb.out.size (fun g' e => (ho.out.lt g' e).1)); have ho5' := Lib.hid ho5; clear ho5 hg5))
            go_wp2
            go_roundg g
            case measure => omega
            case rel =>
              obtain ⟨f1, f2⟩ := hfinish.out (numT u) hsT'.out _ _ ho5'.out
              exact ⟨k + 1, _, by omega, by go_num, f1, f2, hb5.out⟩
          · have hsT' := Lib.hid (show seenT x = ⟨#[106, 48]⟩ from hsT.out)
            go_wp2_with (first | (at_builtin; refine wpList_append_C_byte rfl _ _ rfl w.heap.size N _ _ rfl (ho.out.kept ((Below.refl _ _).alloc (Nat.le_refl _) _)) _ 32 rfl (new_cell _ _ _) (by have := hN2.out; omega) (hb.out.alloc hb.out.size _).size ?_; intro v4 w4 ho4 hg4; have hb4 := (hb.out.alloc hb.out.size _).grown hg4 (hb.out.alloc hb.out.size _).size (fun g' e => (ho.out.lt g' e).1); have v1 := (hkp.out _ hb4).1; have v2 := (hkp.out _ hb4).2.1; have v3 := (hkp.out _ hb4).2.2; have hb := Lib.hid hb4; have ho := Lib.hid ho4; clear ho4 hg4 hb4) | (at_builtin; refine wpList_append_C_string rfl _ _ rfl w.heap.size (N + 1) _ _ rfl ho.out (⟨#[106, 48]⟩) rfl (by have := hMle.out; have := hs20.out; rw [hsT'.out] at this; omega) hb.out.size ?_; intro v5 w5 ho5 hg5; have hb5 := Lib.hid (hb.out.grown hg5 hb.out.size (fun g' e => (ho.out.lt g' e).1)); have ho5' := Lib.hid ho5; clear ho5 hg5))
            go_wp2
            go_roundg g
            case measure => omega
            case rel =>
              obtain ⟨f1, f2⟩ := hfinish.out (⟨#[106, 48]⟩) hsT'.out _ _ ho5'.out
              exact ⟨k + 1, _, by omega, by go_num, f1, f2, hb5.out⟩
        · obtain rfl := htj.out rfl
          have hsT' := Lib.hid (show seenT x = ⟨#[106, 49]⟩ from hsT.out)
          go_wp2_with (first | (at_builtin; refine wpList_append_C_byte rfl _ _ rfl w.heap.size N _ _ rfl (ho.out.kept ((Below.refl _ _).alloc (Nat.le_refl _) _)) _ 32 rfl (new_cell _ _ _) (by have := hN2.out; omega) (hb.out.alloc hb.out.size _).size ?_; intro v4 w4 ho4 hg4; have hb4 := (hb.out.alloc hb.out.size _).grown hg4 (hb.out.alloc hb.out.size _).size (fun g' e => (ho.out.lt g' e).1); have v1 := (hkp.out _ hb4).1; have v2 := (hkp.out _ hb4).2.1; have v3 := (hkp.out _ hb4).2.2; have hb := Lib.hid hb4; have ho := Lib.hid ho4; clear ho4 hg4 hb4) | (at_builtin; refine wpList_append_C_string rfl _ _ rfl w.heap.size (N + 1) _ _ rfl ho.out (⟨#[106, 49]⟩) rfl (by have := hMle.out; have := hs20.out; rw [hsT'.out] at this; omega) hb.out.size ?_; intro v5 w5 ho5 hg5; have hb5 := Lib.hid (hb.out.grown hg5 hb.out.size (fun g' e => (ho.out.lt g' e).1)); have ho5' := Lib.hid ho5; clear ho5 hg5))
          go_wp2
          go_roundg g
          case measure => omega
          case rel =>
            obtain ⟨f1, f2⟩ := hfinish.out (⟨#[106, 49]⟩) hsT'.out _ _ ho5'.out
            exact ⟨k + 1, _, by omega, by go_num, f1, f2, hb5.out⟩
end Go.Proofs.YtkbmckmlnphpmaaGreatDoor
