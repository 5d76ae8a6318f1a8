/- The reference's All. -/
import Derived.Test.YtmkfoknhjjgipaaGreatDoorAA
import Derived.Test.YtmkfoknhjjgipaaGreatDoorN
set_option linter.unusedSimpArgs false
set_option linter.unusedVariables false
namespace Go.Proofs.YtmkfoknhjjgipaaGreatDoor
open Go.RowKit Go.Lib Go.Shelf

theorem und36 : Tryz.prog.underlying 36 = some (.slice 3) := by kernel_rfl
theorem info3 : (Tryz.prog.info? 3).map (fun i => (i.zero, i.size, i.bytes)) = some (some (.int .i64 0), 1, 8) := by kernel_rfl
def atCells (l : List Tp) : List Value := l.map fun t => .int .i64 t.a
theorem at_snoc (l : List Tp) (t : Tp) : atCells (l ++ [t]) = atCells l ++ [.int .i64 t.a] := by simp [atCells]
/-- what the reference's All has gathered -/
structure Gath (B : Nat) (w0 : World) (pre : List Tp) (v5 v6 : Value) (W : World) : Prop where
  r5 : W.ownsRow B 48 5 v5 pre.length (tpsCells pre)
  r6 : W.ownsRow B 3 1 v6 pre.length (atCells pre)
  ne : ∀ g, v5.ownBlock = some g → v6.ownBlock ≠ some g
  b : Below B w0 W
theorem Gath.below {B : Nat} {w0 : World} {pre : List Tp} {v5 v6 : Value} {W W' : World} (h : Gath B w0 pre v5 v6 W) (hB : B ≤ W.heap.size) (hb : Below W.heap.size W W') : Gath B w0 pre v5 v6 W' :=
  ⟨own_keep h.r5 fun g hg => hb.block g (own_at h.r5 hg).2, own_keep h.r6 fun g hg => hb.block g (own_at h.r6 hg).2, h.ne, h.b.trans (hb.mono hB)⟩
/-- one token more -/
theorem Gath.step {B : Nat} {w0 : World} {pre : List Tp} {v5 v6 : Value} {W W4 W5 : World} {t : Tp} {g5 c5 g6 c6 : Nat} {o : Obj} (hB : B ≤ W.heap.size) (h : Gath B w0 pre v5 v6 W)
    (h5 : W4.ownsRow B 48 5 (.slice (some ⟨g5, 0, none⟩) (pre.length + 1) c5) (pre.length + 1) (tpsCells pre ++ tpCells t)) (hg5 : W.grownBy W4 v5.ownBlock) (ha5 : v5.ownBlock = some g5 ∨ g5 = W.heap.size) (hl5 : g5 < W4.heap.size)
    (h6 : W5.ownsRow B 3 1 (.slice (some ⟨g6, 0, none⟩) (pre.length + 1) c6) (pre.length + 1) (atCells pre ++ [.int .i64 t.a])) (hg6 : (W4.alloc o).grownBy W5 v6.ownBlock) (ha6 : v6.ownBlock = some g6 ∨ g6 = (W4.alloc o).heap.size) :
    Gath B w0 (pre ++ [t]) (.slice (some ⟨g5, 0, none⟩) (pre.length + 1) c5) (.slice (some ⟨g6, 0, none⟩) (pre.length + 1) c6) W5 := by
  have hz : (W4.alloc o).heap.size = W4.heap.size + 1 := by simp
  have hne56 : v6.ownBlock ≠ some g5 := by
    rcases ha5 with e | e
    · exact h.ne g5 e
    · intro he
      have := (own_at h.r6 he).2
      omega
  refine ⟨?_, ?_, ?_, ?_⟩
  · rw [tps_snoc, List.length_append]
    refine own_keep h5 fun k hk => ?_
    cases hk
    exact (hg6.block g5 (by omega) (fun e => hne56 e.symm)).trans (heap_alloc_old _ _ hl5)
  · rw [at_snoc, List.length_append]
    exact h6
  · intro k hk
    cases hk
    intro e
    cases e
    rcases ha6 with e | e
    · exact hne56 e
    · omega
  · have b4 : Below B w0 W4 := h.b.grown hg5 hB (fun k hk => (own_at h.r5 hk).1)
    have hB4 : B ≤ W4.heap.size := Nat.le_trans hB hg5.size
    exact (b4.alloc hB4 o).grown hg6 (by omega) (fun k hk => (own_at h.r6 hk).1)
def RefAllPost (s : ByteArray) (w : World) (e : Ending) (w' : World) : Prop :=
  ∃ v1 v2, e = .returned (.tuple #[v1, v2, fltV (allM s).2.1 (allM s).2.2.1 (allM s).2.2.2]) ∧ w'.ownsRow w.heap.size 48 5 v1 (scanA s).1.length (tpsCells (scanA s).1) ∧ w'.ownsRow w.heap.size 3 1 v2 (scanA s).1.length (atCells (scanA s).1) ∧ Below w.heap.size w w'
theorem lc_next (s : ByteArray) (k : Nat) (hk : k < s.size) : lcF (1, 1) (s.data.toList.take (k + 1)) = lcS (lcF (1, 1) (s.data.toList.take k)) (s[k]'hk) := by
  rw [take_next s k hk, lcF_snoc]
theorem lc_bound (s : ByteArray) (k : Nat) (hk : k ≤ s.size) : (lcF (1, 1) (s.data.toList.take k)).1 ≤ s.size + 1 ∧ (lcF (1, 1) (s.data.toList.take k)).2 ≤ s.size + 2 := by
  have h := lcF_le (s.data.toList.take k) (1, 1)
  have hl : (s.data.toList.take k).length ≤ k := by rw [List.length_take]; omega
  dsimp only at h
  omega
theorem scan_len_at {s : ByteArray} {pre rest : List Tp} (h : (scanA s).1 = pre ++ rest) : pre.length ≤ s.size := by
  have := scanA_len s
  rw [h, List.length_append] at this
  omega
theorem own_set {W : World} {B : Nat} {e : TypeId} {sz : Nat} {v : Value} {n : Nat} {xs : List Value} (h : W.ownsRow B e sz v n xs) {b o : Nat} (hb : b < B) (u : Value) : (W.setCell ⟨b, o, none⟩ u).ownsRow B e sz v n xs :=
  own_keep h fun g hg => Go.Deep.blk_setCell_other _ _ _ _ (by have := (own_at h hg).1; simp; omega)
set_option maxRecDepth 100000 in
set_option maxHeartbeats 8000000 in
theorem refAll_any (s : ByteArray) (w : World) (hs : s.size ≤ 65536) : Calls Tryz.prog 17 #[.string s] w (RefAllPost s w) := by
  obtain ⟨w0, hw0⟩ : ∃ w0, w.alloc (.cells #[.int .i64 0, .int .i64 0, .int .i64 0] 33) = w0 := ⟨_, rfl⟩
  have hz0 : w0.heap.size = w.heap.size + 1 := by rw [← hw0]; simp
  have hF0 : w0.heap[w.heap.size]? = some (.cells #[.int .i64 0, .int .i64 0, .int .i64 0] 33 (0, 0)) := by rw [← hw0]; exact heap_alloc_new _ _
  have hb0 : Below w.heap.size w w0 := by rw [← hw0]; exact (Below.refl _ w).alloc (Nat.le_refl _) _
  have e0 : ¬ (65536 : Int) < (s.size : Int) := by omega
  have hsk := Lib.hid fun W => skip_any s 0 W (by omega) (Nat.zero_le _)
  obtain ⟨i0, hi0, hiz0, hiz1, hiz2⟩ := info_parts info48
  obtain ⟨j0, hj0, hjz0, hjz1, hjz2⟩ := info_parts info3
  have hi := Lib.hid (And.intro hi0 (And.intro hiz0 (And.intro hiz1 hiz2)))
  have hj := Lib.hid (And.intro hj0 (And.intro hjz0 (And.intro hjz1 hjz2)))
  clear hi0 hiz0 hiz1 hiz2 hj0 hjz0 hjz1 hjz2
  have hw0h := Lib.hid hw0
  have hF0h := Lib.hid hF0
  have hb0h := Lib.hid hb0
  clear hw0 hF0 hb0
  go_enter Tryz.func17, Tryz.ntmps17
  go_wp2_with fail
  rw [hw0h.out]
  refine (hsk.out w0).mono ?_
  rintro e w1 ⟨rfl, rfl⟩
  have hi1 := skipE_le (s := s) (b := false) (a := 0) (Nat.zero_le _)
  have hst0 : skipL false (s.data.toList.drop (skipE s false 0)) = 0 := by
    unfold skipE
    rw [Nat.zero_add, List.drop_zero]
    exact skip_stop0 _
  have hsc0 : scanR s 0 = scanR s (skipE s false 0) := scanR_skip s 0
  rw [scanR_zero] at hsc0
  have hg0 : Gath w1.heap.size w1 [] (.slice none 0 0) (.slice none 0 0) w1 := ⟨⟨rfl, .inl ⟨rfl, rfl⟩⟩, ⟨rfl, .inl ⟨rfl, rfl⟩⟩, fun g hg => (by cases hg), Below.refl _ _⟩
  obtain ⟨i1, hi1e⟩ : ∃ i1, skipE s false 0 = i1 := ⟨_, rfl⟩
  rw [hi1e] at hi1 hst0 hsc0 ⊢
  have hst := Lib.hid (show ∃ i k0 pre, s.size - i = s.size - i1 ∧ Value.int .i64 (i1 : Int) = .int .i64 ((i : Nat) : Int) ∧ i ≤ s.size ∧ skipL false (s.data.toList.drop i) = 0 ∧ Value.int .i64 0 = .int .i64 ((k0 : Nat) : Int) ∧ k0 ≤ i ∧ Value.int .i64 1 = .int .i64 (((lcF (1, 1) (s.data.toList.take k0)).1 : Nat) : Int) ∧ Value.int .i64 1 = .int .i64 (((lcF (1, 1) (s.data.toList.take k0)).2 : Nat) : Int) ∧ (scanA s).1 = pre ++ (scanR s i).1 ∧ (scanA s).2 = (scanR s i).2 ∧ Gath w1.heap.size w1 pre (.slice none 0 0) (.slice none 0 0) w1 from
    ⟨i1, 0, [], rfl, rfl, hi1, hst0, rfl, Nat.zero_le _, rfl, rfl, by rw [hsc0]; rfl, by rw [hsc0], hg0⟩)
  clear hi1 hst0 hsc0 hg0 hi1e
  go_wp2_with fail
  go_loopg [5, 6, 7, 8, 9, 10] (s.size - i1) (fun g s5 s6 s7 s8 s9 s10 wr => ∃ i k0 pre, s.size - i = g ∧ s10 = .int .i64 ((i : Nat) : Int) ∧ i ≤ s.size ∧ skipL false (s.data.toList.drop i) = 0 ∧ s9 = .int .i64 ((k0 : Nat) : Int) ∧ k0 ≤ i ∧ s7 = .int .i64 (((lcF (1, 1) (s.data.toList.take k0)).1 : Nat) : Int) ∧ s8 = .int .i64 (((lcF (1, 1) (s.data.toList.take k0)).2 : Nat) : Int) ∧ (scanA s).1 = pre ++ (scanR s i).1 ∧ (scanA s).2 = (scanR s i).2 ∧ Gath w1.heap.size w1 pre s5 s6 wr)
  case atStart => exact hst.out
  case round =>
    obtain ⟨i, k0, pre, hig, rfl, hil, hi0, rfl, hk0, rfl, rfl, hs1, hs2, hG⟩ := hrel
    have hs1 := Lib.hid hs1
    have hs2 := Lib.hid hs2
    have hG := Lib.hid hG
    have hi0 := Lib.hid hi0
    clear hst
    rcases Nat.lt_or_ge i s.size with hlt | hge
    · have e1 : ((i : Nat) : Int) < (s.size : Int) := by omega
      obtain ⟨La, hLa⟩ : ∃ La, (lcF (1, 1) (s.data.toList.take k0)).1 = La := ⟨_, rfl⟩
      obtain ⟨Lb, hLb⟩ : ∃ Lb, (lcF (1, 1) (s.data.toList.take k0)).2 = Lb := ⟨_, rfl⟩
      have hLL := Lib.hid (And.intro hLa hLb)
      rw [hLa, hLb]
      clear hLa hLb
      go_wp2_with fail
      go_loopg [7, 8, 11] (i - k0) (fun g s7 s8 s11 wr2 => ∃ k, i - k = g ∧ s11 = .int .i64 ((k : Nat) : Int) ∧ k ≤ i ∧ s7 = .int .i64 (((lcF (1, 1) (s.data.toList.take k)).1 : Nat) : Int) ∧ s8 = .int .i64 (((lcF (1, 1) (s.data.toList.take k)).2 : Nat) : Int) ∧ wr2 = wr)
      case atStart => exact ⟨k0, rfl, rfl, hk0, by rw [hLL.out.1], by rw [hLL.out.2], rfl⟩
      case round =>
        obtain ⟨k, hkg, rfl, hki, rfl, rfl, rfl⟩ := hrel
        have hbd := lc_bound s k (by omega)
        obtain ⟨M, hM⟩ : ∃ M, lcF (1, 1) (s.data.toList.take k) = M := ⟨_, rfl⟩
        rw [hM] at hbd ⊢
        obtain ⟨Ma, Mb⟩ := M
        dsimp only at hbd ⊢
        have hM := Lib.hid hM
        obtain ⟨hbd1, hbd2⟩ := hbd
        rcases Nat.lt_or_ge k i with hlk | hgk
        · have e2 : ((k : Nat) : Int) < (i : Int) := by omega
          have hks : k < s.size := by omega
          have hnx := Lib.hid (show lcF (1, 1) (s.data.toList.take (k + 1)) = lcS (Ma, Mb) (s[k]'hks) by rw [lc_next s k hks, hM.out])
          by_cases h10 : (s[k]'hks).toNat = 10
          · have f10 : (((s[k]'hks).toNat : Int) == 10) = true := by simp; omega
            have hn2 := Lib.hid (show lcF (1, 1) (s.data.toList.take (k + 1)) = (Ma + 1, 1) by rw [hnx.out]; unfold lcS; rw [if_pos h10])
            have g10 : ((s[k]'hks).toNat : Int) = 10 := by omega
            clear h10
            go_wp2
            go_roundg (i - (k + 1))
            case measure => omega
            case rel => exact ⟨k + 1, rfl, by go_num, hlk, by rw [hn2.out]; go_num, by rw [hn2.out]; rfl, rfl⟩
          · have f10 : (((s[k]'hks).toNat : Int) == 10) = false := by simp; omega
            have hn2 := Lib.hid (show lcF (1, 1) (s.data.toList.take (k + 1)) = (Ma, Mb + 1) by rw [hnx.out]; unfold lcS; rw [if_neg h10])
            have g10 : ¬ ((s[k]'hks).toNat : Int) = 10 := by omega
            clear h10
            go_wp2
            go_roundg (i - (k + 1))
            case measure => omega
            case rel => exact ⟨k + 1, rfl, by go_num, hlk, by rw [hn2.out], by rw [hn2.out]; go_num, rfl⟩
        · obtain rfl : k = i := by omega
          have e2 : ¬ ((k : Nat) : Int) < ((k : Nat) : Int) := by omega
          have hone := Lib.hid (refOne_any s k wr (by omega) hlt)
          go_wp2_with fail
          refine hone.out.mono ?_
          rintro e w2 ⟨y, nx, er, rfl, hok, hno, hb2⟩
          have hG2 := Lib.hid (hG.out.below hG.out.b.size hb2)
          have hnb := skip_at hlt hi0.out
          have hlt1 : w.heap.size < w1.heap.size := by omega
          have hF2 := (hG2.out.b.block w.heap.size hlt1).trans hF0h.out
          obtain ⟨q, hq⟩ : ∃ q, mkB y.t = q := ⟨_, rfl⟩
          obtain ⟨yk, hyk⟩ : ∃ yk, y.k = yk := ⟨_, rfl⟩
          obtain ⟨yu, hyu⟩ : ∃ yu, y.u = yu := ⟨_, rfl⟩
          unfold tkV
          rw [hq, hyk, hyu]
          rcases hx : oneR (s.data.toList.drop k) with er' | x
          · obtain ⟨rfl, hne⟩ := hno er' hx
            have hse := scanR_err hlt hnb.1 hnb.2 hx
            have ham := Lib.hid (show allM s = ([], er, Ma, Mb) by
              have hp : placeN s k = (Ma, Mb) := hM.out
              unfold allM; rw [if_neg (by omega), hs2.out, hse]; dsimp only; rw [hp])
            have hpre := Lib.hid (show (scanA s).1 = pre by rw [hs1.out, hse]; simp)
            have hd : (er != 0) = true := by simpa using hne
            obtain ⟨x0, x1, x2, xf⟩ := box3 ((heap_alloc_old w2 (.cells #[.int .i64 yk, .string q, .int .u64 yu, .int .i64 Ma, .int .i64 Mb] 48) (blk_lt hF2)).trans hF2)
            have hBw := hG2.out.b.size
            clear hok hno hse hx hb2
            go_wp2
            refine bodyPost_ret (v := .tuple #[u5, u6, .agg #[.int .i64 er, .int .i64 Ma, .int .i64 Mb]]) (by simp [results, Tryz.results17, go_sem, x0, x1, x2]) rfl ?_
            have hG3 := hG2.out.below hBw ((Below.refl w2.heap.size w2).alloc (Nat.le_refl _) (.cells #[.int .i64 yk, .string q, .int .u64 yu, .int .i64 Ma, .int .i64 Mb] 48))
            refine ⟨_, _, by rw [ham.out]; rfl, ?_, ?_, ?_⟩
            · rw [hpre.out]
              refine own_mono ?_ (Nat.le_of_lt hlt1)
              repeat refine own_set ?_ hlt1 _
              exact hG3.r5
            · rw [hpre.out]
              refine own_mono ?_ (Nat.le_of_lt hlt1)
              repeat refine own_set ?_ hlt1 _
              exact hG3.r6
            · repeat refine Below.setCell ?_ (by exact Nat.le_refl _) _
              exact Below.next hb0h.out hG3.b
          · obtain ⟨rfl, hnx, rfl⟩ := hok x hx
            have htok := scanR_tok hlt hnb.1 hnb.2 hx
            obtain ⟨m, hm0, hml, _, hmx⟩ := oneR_text (by rw [drop_cons hlt]; simp) hx
            rw [List.length_drop, size_list] at hml
            rw [hmx] at hnx htok
            rw [hM.out] at htok
            dsimp only at htok
            have hn1 := Lib.hid (show (scanA s).1 = pre ++ ⟨k, y, Ma, Mb⟩ :: (scanR s nx).1 by rw [hs1.out, htok, hnx])
            have hn2 := Lib.hid (show (scanA s).2 = (scanR s nx).2 by rw [hs2.out, htok, hnx])
            have hnxl : nx ≤ s.size := by omega
            have hnxk : k < nx := by omega
            have hsk2 := Lib.hid fun W => skip_any s nx W (by omega) hnxl
            have hi3 := skipE_le (s := s) (b := false) (a := nx) hnxl
            have hi4 := skipE_ge (s := s) (b := false) (a := nx)
            have hst3 : skipL false (s.data.toList.drop (skipE s false nx)) = 0 := by
              unfold skipE
              rw [← List.drop_drop]
              exact skip_stop0 _
            have hsc3 : scanR s nx = scanR s (skipE s false nx) := scanR_skip s nx
            obtain ⟨i3, hi3e⟩ : ∃ i3, skipE s false nx = i3 := ⟨_, rfl⟩
            rw [hi3e] at hsk2 hi3 hi4 hst3 hsc3
            have hst3 := Lib.hid hst3
            have hsc3 := Lib.hid hsc3
            have hpl := scan_len_at hs1.out
            have hcells : tpCells ⟨k, y, Ma, Mb⟩ = [.int .i64 yk, .string q, .int .u64 yu, .int .i64 Ma, .int .i64 Mb] := by unfold tpCells; rw [hq, hyk, hyu]
            have hcells := Lib.hid hcells
            obtain ⟨W, hW⟩ : ∃ W, (w2.alloc (.cells #[.int .i64 yk, .string q, .int .u64 yu, .int .i64 Ma, .int .i64 Mb] 48)).alloc (.cells #[.int .i64 yk, .string q, .int .u64 yu, .int .i64 Ma, .int .i64 Mb] 48) = W := ⟨_, rfl⟩
            have hBw := hG2.out.b.size
            have hbW : Below w2.heap.size w2 W := by rw [← hW]; exact ((Below.refl _ w2).alloc (Nat.le_refl _) _).alloc (by simp) _
            have hsW : W.heap.size = w2.heap.size + 2 := by rw [← hW]; simp
            have hGW := hG2.out.below hBw hbW
            have hnew : W.heap[w2.heap.size + 1]? = some (.cells #[.int .i64 yk, .string q, .int .u64 yu, .int .i64 Ma, .int .i64 Mb] 48 (0, 0)) := by rw [← hW]; exact step2
            have hnewc := Lib.hid (show ∀ (j : Nat) (u : Value), ([.int .i64 yk, .string q, .int .u64 yu, .int .i64 Ma, .int .i64 Mb] : List Value)[j]? = some u → W.cell? ((⟨w2.heap.size + 1, 0, none⟩ : Addr).add j) = some u from fun j u hu => by
              have e : ((⟨w2.heap.size + 1, 0, none⟩ : Addr).add j) = ⟨w2.heap.size + 1, j, none⟩ := by rw [Lib.add_plain, Nat.zero_add]
              rw [e, blk_cell hnew]
              simpa using hu)
            have honec := Lib.hid (show ∀ v ∈ ([.int .i64 yk, .string q, .int .u64 yu, .int .i64 Ma, .int .i64 Mb] : List Value), v.oneCell' = true by simp [Value.oneCell'])
            have honei := Lib.hid (show ∀ v ∈ ([.int .i64 (k : Int)] : List Value), v.oneCell' = true by simp [Value.oneCell'])
            have hnewi := Lib.hid fun (W4 : World) => cell_one_new W4 (.int .i64 (k : Int)) 3
            have hk1 := Lib.hid (show pre.length + 1 ≤ maxLen by unfold maxLen; omega)
            have hk2 := Lib.hid (show (pre.length + 1) * 48 ≤ 140737488355328 by omega)
            have hk3 := Lib.hid (show (pre.length + 1) * 8 ≤ 140737488355328 by omega)
            have hbs := Lib.hid (show w1.heap.size ≤ W.heap.size by omega)
            have hW' := Lib.hid hW
            have hGWh := Lib.hid hGW
            have hr5 := Lib.hid hGW.r5
            have hr6 := Lib.hid (show ∀ W4, W.grownBy W4 u5.ownBlock → (W4.alloc (.cells #[.int .i64 (k : Int)] 3)).ownsRow w1.heap.size 3 1 u6 pre.length (atCells pre) from fun W4 hg => own_keep hGW.r6 fun g hgo => by
              have hlt6 := (own_at hGW.r6 hgo).2
              rw [heap_alloc_old _ _ (Nat.lt_of_lt_of_le hlt6 hg.size)]
              exact hg.block g hlt6 (fun e => hGW.ne g e.symm hgo))
            obtain ⟨p1, p2, p3, p4⟩ := hi.out
            obtain ⟨q1, q2, q3, q4⟩ := hj.out
            clear hok hno hx hb2 htok hmx hml hi3e hW hbW hGW hnew hq hyk hyu hnx
            go_wp2_with (first | (at_builtin; rw [hW'.out]; refine wpList_append_lies _ rfl _ _ 31 rfl w1.heap.size 48 i0 _ 5 48 und31 p1 p2 p3 p4 rfl (by decide) u5 pre.length _ rfl hr5.out ⟨w2.heap.size + 1, 0, none⟩ 1 1 [.int .i64 yk, .string q, .int .u64 yu, .int .i64 Ma, .int .i64 Mb] rfl rfl hnewc.out honec.out (by decide) hk1.out hk2.out hbs.out _ rfl ?_; intro g5 c5 w4 hown4 hg4 hat4 hlt4; have hr6 := Lib.hid (hr6.out w4 hg4); have hown4 := Lib.hid hown4; have hg4 := Lib.hid hg4; have hat4 := Lib.hid hat4; have hlt4 := Lib.hid hlt4) | (at_builtin; refine wpList_append_lies _ rfl _ _ 36 rfl w1.heap.size 3 j0 _ 1 8 und36 q1 q2 q3 q4 rfl (by decide) u6 pre.length _ rfl hr6.out ⟨w4.heap.size, 0, none⟩ 1 1 [.int .i64 (k : Int)] rfl rfl (hnewi.out w4) honei.out (by decide) hk1.out hk3.out (by have := hg4.out.size; have := hbs.out; simp; omega) _ rfl ?_; intro g6 c6 w5 hown5 hg5 hat5 hlt5; have hown5 := Lib.hid hown5; have hg5 := Lib.hid hg5; have hat5 := Lib.hid hat5; have hlt5 := Lib.hid hlt5))
            refine (hsk2.out _).mono ?_
            rintro e w6 ⟨rfl, rfl⟩
            have hown4' := hown4.out
            rw [← hcells.out] at hown4'
            have hGn := Lib.hid (Gath.step (t := ⟨k, y, Ma, Mb⟩) hbs.out hGWh.out hown4' hg4.out hat4.out hlt4.out hown5.out hg5.out hat5.out)
            clear hown4'
            go_wp2
            go_roundg (s.size - i3)
            case measure => omega
            case rel =>
              refine ⟨i3, k, pre ++ [⟨k, y, Ma, Mb⟩], rfl, rfl, hi3, hst3.out, rfl, by omega, by rw [hM.out], by rw [hM.out], ?_, ?_, hGn.out⟩
              · rw [hn1.out, hsc3.out, List.append_assoc]; rfl
              · rw [hn2.out, hsc3.out]
    · have e1 : ¬ ((i : Nat) : Int) < (s.size : Int) := by omega
      have hend := scanR_end hge
      have ham := Lib.hid (show allM s = ((scanA s).1, 0, 0, 0) by unfold allM; rw [if_neg (by omega), hs2.out, hend])
      have hpre := Lib.hid (show (scanA s).1 = pre by rw [hs1.out, hend]; simp)
      obtain ⟨x0, x1, x2, xf⟩ := box3 ((hG.out.b.block w.heap.size (by omega)).trans hF0h.out)
      have hlt1 : w.heap.size < w1.heap.size := by omega
      go_wp2
      refine bodyPost_ret (v := .tuple #[u5, u6, .agg #[.int .i64 0, .int .i64 0, .int .i64 0]]) (by simp [results, Tryz.results17, go_sem, x0, x1, x2]) rfl ?_
      refine ⟨_, _, by rw [ham.out]; rfl, ?_, ?_, ?_⟩
      · rw [hpre.out]
        refine own_mono ?_ (Nat.le_of_lt hlt1)
        repeat refine own_set ?_ hlt1 _
        exact hG.out.r5
      · rw [hpre.out]
        refine own_mono ?_ (Nat.le_of_lt hlt1)
        repeat refine own_set ?_ hlt1 _
        exact hG.out.r6
      · repeat refine Below.setCell ?_ (by exact Nat.le_refl _) _
        exact Below.next hb0h.out hG.out.b
end Go.Proofs.YtmkfoknhjjgipaaGreatDoor
