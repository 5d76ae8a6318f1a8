/- The reference's text of all code. -/
import Derived.Test.YtmimmnjdgpdjlaaGreatDoorAG
import Derived.Test.YtmimmnjdgpdjlaaGreatDoorAL
import Derived.Test.YtmimmnjdgpdjlaaGreatDoorAO
set_option linter.unusedSimpArgs false
set_option linter.unusedVariables false
namespace Go.Proofs.YtmimmnjdgpdjlaaGreatDoor
open Go.RowKit Go.Lib Go.Shelf

theorem row_at {w W : World} (hb : Below w.heap.size w W) {blk o : Nat} {i : In} (h : ∀ j, j < 13 → w.cell? ⟨blk, o + j, none⟩ = (inCells i)[j]?) : W.cell? ⟨blk, o, none⟩ = some (.int .i64 i.op) ∧ W.cell? ⟨blk, o + 1, none⟩ = some (.int .i64 i.bn) ∧ W.cell? ⟨blk, o + 2, none⟩ = some (.int .i64 i.sh) ∧ W.cell? ⟨blk, o + 3, none⟩ = some (.int .i64 i.cd) ∧ W.cell? ⟨blk, o + 4, none⟩ = some (.int .i64 i.ds) ∧ W.cell? ⟨blk, o + 5, none⟩ = some (.int .i64 i.sr) ∧ W.cell? ⟨blk, o + 6, none⟩ = some (.int .u64 (i.im : Int)) ∧ W.cell? ⟨blk, o + 7, none⟩ = some (.int .i64 i.ba) ∧ W.cell? ⟨blk, o + 8, none⟩ = some (.int .i64 i.ix) ∧ W.cell? ⟨blk, o + 9, none⟩ = some (.bool i.hb) ∧ W.cell? ⟨blk, o + 10, none⟩ = some (.bool i.hi) ∧ W.cell? ⟨blk, o + 11, none⟩ = some (.int .i64 i.dp) ∧ W.cell? ⟨blk, o + 12, none⟩ = some (.int .i64 i.lb) := by
  have k : ∀ j v, j < 13 → (inCells i)[j]? = some v → W.cell? ⟨blk, o + j, none⟩ = some v := fun j v hj hv => by
    have h1 := (h j hj).trans hv
    exact (hb.cell (p := ⟨blk, o + j, none⟩) (cell_some_lt h1)).trans h1
  exact ⟨k 0 _ (by omega) rfl, k 1 _ (by omega) rfl, k 2 _ (by omega) rfl, k 3 _ (by omega) rfl, k 4 _ (by omega) rfl, k 5 _ (by omega) rfl, k 6 _ (by omega) rfl, k 7 _ (by omega) rfl, k 8 _ (by omega) rfl, k 9 _ (by omega) rfl, k 10 _ (by omega) rfl, k 11 _ (by omega) rfl, k 12 _ (by omega) rfl⟩
set_option maxRecDepth 100000 in
set_option maxHeartbeats 8000000 in
theorem rprint30_any (L : List In) (A : Option Addr) (c : Nat) (w : World) (hE : Env w) (hL : InsAt w L A) (hF : ∀ i ∈ L, Fit i) (hlen : L.length ≤ 100000) (hm : ∀ i ∈ L, mayB i = true) :
    Calls Tryz.prog 30 #[.slice A L.length c] w (StrPost (bt (tellT L)) w) := by
  obtain ⟨n, hnn⟩ : ∃ n, L.length = n := ⟨_, rfl⟩
  rw [hnn] at hlen ⊢
  obtain ⟨R, hR⟩ : ∃ R, bt (tellT L) = R := ⟨_, rfl⟩
  rw [hR]
  have hR' := Lib.hid hR
  have hn' := Lib.hid hnn
  have hL := Lib.hid hL
  have hF := Lib.hid hF
  have hE := Lib.hid hE
  have hm := Lib.hid hm
  clear hnn hR
  go_enter Tryz.func30, Tryz.ntmps30
  go_wp2_with fail
  go_loopg [3, 4] n (fun g s3 s4 wr => ∃ k N : Nat, k + g = n ∧ s4 = .int .i64 k ∧ N ≤ 142 * k ∧ OwnC wr w.heap.size s3 N (tellT (L.take k)) ∧ Below w.heap.size w wr)
  case atStart => exact ⟨0, 0, by omega, rfl, by omega, ⟨rfl, .inl ⟨rfl, rfl⟩⟩, Below.refl _ _⟩
  case round =>
    obtain ⟨k, N, hkg, rfl, hN, ho, hb⟩ := hrel
    have ho := Lib.hid ho
    have hb := Lib.hid hb
    cases gk with
    | zero =>
      have e0 : ¬ ((k : Int) < (n : Int)) := by omega
      have htk : L.take k = L := List.take_of_length_le (by rw [hn'.out]; omega)
      have hcv2 := ownC_conv_all ho.out
      rw [htk, show (⟨(tellT L).toArray⟩ : ByteArray) = bt (tellT L) from rfl, hR'.out] at hcv2
      clear htk
      go_wp2
      go_ret
      exact ⟨rfl, hb.out⟩
    | succ g =>
      have e0 : (k : Int) < (n : Int) := by omega
      obtain ⟨blk, off, i, rfl, hx, hcx⟩ := hL.out.at_ (i := k) (by rw [hn'.out]; omega)
      have hi := List.mem_of_getElem? hx
      have hfm := form_of (hm.out i hi) (hF.out i hi).1
      have hsz : (bt (lineL i)).size ≤ 140 := by rw [bt_size]; exact line_len hfm
      have hln := Lib.hid (fun W hE => rline25_any hfm W hE)
      have hrow := Lib.hid (fun W (h : Below w.heap.size w W) => row_at h hcx)
      have hnx := tell_take hx
      have ht19 : i.op = 19 → tellI i = lineL i := fun h => by unfold tellI tabT; rw [if_pos h]; rfl
      have hn19 : i.op ≠ 19 → tellI i = 9 :: lineL i := fun h => by unfold tellI tabT; rw [if_neg h]; rfl
      obtain ⟨x, hx'⟩ : ∃ x, bt (lineL i) = x := ⟨_, rfl⟩
      have hxl := Lib.hid (show x.data.toList = lineL i from by rw [← hx']; rfl)
      unfold StrPost inV inC at hln
      rw [hx'] at hln hsz
      have hnx := Lib.hid hnx
      clear hx' hx hcx hfm hi
      obtain ⟨v0, v1, v2, v3, v4, v5, v6, v7, v8, v9, v10, v11, v12⟩ := hrow.out _ hb.out
      by_cases e19 : i.op = 19
      · have e19' : (i.op != 19) = false := by simp [e19]
        have h19 := Lib.hid (ht19 e19)
        clear e19 ht19 hn19
        go_wp2_with fail
        refine (hln.out _ (hE.out.below hb.out)).mono ?_
        rintro e w5 ⟨rfl, hb5⟩
        have ho := Lib.hid (ho.out.kept hb5)
        have hb := Lib.hid (Below.next hb.out hb5)
        clear hb5 v0 v1 v2 v3 v4 v5 v6 v7 v8 v9 v10 v11 v12
        go_wp2_with (at_builtin; refine wpList_append_C_string rfl _ _ rfl w.heap.size N _ _ rfl ho.out x rfl (by omega) hb.out.size ?_)
        intro z6 w6 ho6 hg6
        have hb6 := Lib.hid (hb.out.grown hg6 hb.out.size (fun g' e => (ho.out.lt g' e).1))
        have ho6 := Lib.hid ho6
        clear hg6
        go_wp2_with (at_builtin; refine wpList_append_C_byte rfl _ _ rfl w.heap.size (N + x.size) _ _ rfl (ho6.out.kept ((Below.refl _ _).alloc (Nat.le_refl _) _)) _ 10 rfl (new_cell _ _ _) (by omega) (hb6.out.alloc hb6.out.size _).size ?_)
        intro z7 w7 ho7 hg7
        have hb7 := Lib.hid ((hb6.out.alloc hb6.out.size _).grown hg7 (hb6.out.alloc hb6.out.size _).size (fun g' e => (ho6.out.lt g' e).1))
        have ho7 := Lib.hid ho7
        clear hg7
        go_wp2
        go_roundg g
        case measure => omega
        case rel =>
          refine ⟨k + 1, N + x.size + 1, by omega, by go_num, by omega, ?_, hb7.out⟩
          have e5 : tellT (L.take (k + 1)) = tellT (L.take k) ++ x.data.toList ++ [10] := by rw [hnx.out, h19.out, hxl.out]; simp
          rw [e5]
          first | exact ho7.out | simpa using ho7.out
      · have e19' : (i.op != 19) = true := by simp [e19]
        have h19 := Lib.hid (hn19 e19)
        clear e19 ht19 hn19
        go_wp2_with (at_builtin; refine wpList_append_C_byte rfl _ _ rfl w.heap.size N _ _ rfl (ho.out.kept ((Below.refl _ _).alloc (Nat.le_refl _) _)) _ 9 rfl (new_cell _ _ _) (by omega) (hb.out.alloc hb.out.size _).size ?_)
        intro z3 w3 ho3 hg3
        have hb := Lib.hid ((hb.out.alloc hb.out.size _).grown hg3 (hb.out.alloc hb.out.size _).size (fun g' e => (ho.out.lt g' e).1))
        have ho := Lib.hid ho3
        clear ho3 hg3 v0 v1 v2 v3 v4 v5 v6 v7 v8 v9 v10 v11 v12
        obtain ⟨v0, v1, v2, v3, v4, v5, v6, v7, v8, v9, v10, v11, v12⟩ := hrow.out _ hb.out
        go_wp2_with fail
        refine (hln.out _ (hE.out.below hb.out)).mono ?_
        rintro e w5 ⟨rfl, hb5⟩
        have ho := Lib.hid (ho.out.kept hb5)
        have hb := Lib.hid (Below.next hb.out hb5)
        clear hb5 v0 v1 v2 v3 v4 v5 v6 v7 v8 v9 v10 v11 v12
        go_wp2_with (at_builtin; refine wpList_append_C_string rfl _ _ rfl w.heap.size (N + 1) _ _ rfl ho.out x rfl (by omega) hb.out.size ?_)
        intro z6 w6 ho6 hg6
        have hb6 := Lib.hid (hb.out.grown hg6 hb.out.size (fun g' e => (ho.out.lt g' e).1))
        have ho6 := Lib.hid ho6
        clear hg6
        go_wp2_with (at_builtin; refine wpList_append_C_byte rfl _ _ rfl w.heap.size ((N + 1) + x.size) _ _ rfl (ho6.out.kept ((Below.refl _ _).alloc (Nat.le_refl _) _)) _ 10 rfl (new_cell _ _ _) (by omega) (hb6.out.alloc hb6.out.size _).size ?_)
        intro z7 w7 ho7 hg7
        have hb7 := Lib.hid ((hb6.out.alloc hb6.out.size _).grown hg7 (hb6.out.alloc hb6.out.size _).size (fun g' e => (ho6.out.lt g' e).1))
        have ho7 := Lib.hid ho7
        clear hg7
        go_wp2
        go_roundg g
        case measure => omega
        case rel =>
          refine ⟨k + 1, (N + 1) + x.size + 1, by omega, by go_num, by omega, ?_, hb7.out⟩
          have e5 : tellT (L.take (k + 1)) = tellT (L.take k) ++ [9] ++ x.data.toList ++ [10] := by rw [hnx.out, h19.out, hxl.out]; simp
          rw [e5]
          first | exact ho7.out | simpa using ho7.out
end Go.Proofs.YtmimmnjdgpdjlaaGreatDoor
