/- Line; All. -/
import Derived.Test.YtmkfoknhjjgipaaDoorL
set_option linter.unusedSimpArgs false
set_option linter.unusedVariables false
namespace Go.Proofs.YtmkfoknhjjgipaaDoor
open Go.RowKit Go.Lib Go.Shelf

theorem box2 {W : World} {b : Nat} {v0 v1 : Value} {t : TypeId} (h : W.heap[b]? = some (.cells #[v0, v1] t (0, 0))) :
    W.cell? ⟨b, 0, none⟩ = some v0 ∧ W.cell? ⟨b, 1, none⟩ = some v1 ∧ ∀ k, W.frozen? ⟨b, k, none⟩ = false :=
  ⟨by rw [blk_cell h]; rfl, by rw [blk_cell h]; rfl, fun k => by simp [World.frozen?, h]⟩
theorem own_mono {w : World} {base base' : Nat} {e : TypeId} {size : Nat} {v : Value} {n : Nat} {xs : List Value} (h : w.ownsRow base e size v n xs) (hb : base' ≤ base) : w.ownsRow base' e size v n xs := by
  refine ⟨h.1, ?_⟩
  rcases h.2 with hn | ⟨g, cap, cur, hv, hbg, rest⟩
  · exact .inl hn
  · exact .inr ⟨g, cap, cur, hv, Nat.le_trans hb hbg, rest⟩
theorem as_nil (t : Value) (w : World) : Calls Tryd.prog 18 #[.nilIface, t] w fun e w' => e = .returned (.bool false) ∧ w' = w := by
  go_enter Tryd.func18, Tryd.ntmps18
  go_wp2
  go_ret
  exact ⟨rfl, rfl⟩
/-- line and column of a place -/
def placeN (s : ByteArray) (a : Nat) : Nat × Nat := lcF (1, 1) (s.data.toList.take a)
def LinePost (s : ByteArray) (a : Nat) (w : World) (e : Ending) (w' : World) : Prop := e = .returned (.tuple #[.int .i64 (placeN s a).1, .int .i64 (placeN s a).2]) ∧ Below w.heap.size w w'
set_option maxRecDepth 100000 in
set_option maxHeartbeats 4000000 in
theorem line_any (s : ByteArray) (t : Int) (a : Nat) (w : World) (hs : s.size ≤ 2000000) (hT : t = (a : Int) ∨ a = 0 ∧ t ≤ 0 ∨ a = s.size ∧ (s.size : Int) ≤ t) (ha : a ≤ s.size) : Calls Tryd.prog 6 #[.string s, .int .i64 t] w (LinePost s a w) := by
  obtain ⟨W, hW⟩ : ∃ W, w.alloc (lineB 0 1 1) = W := ⟨_, rfl⟩
  have hL : W.heap[w.heap.size]? = some (lineB 0 1 1) := by rw [← hW]; exact heap_alloc_new _ _
  have hB : Below w.heap.size w W := by rw [← hW]; exact (Below.refl _ w).alloc (Nat.le_refl _) _
  have hon := on_any s hs w.heap.size 0 a 1 1 (min t s.size) W (by omega) (by omega) (by omega) (by omega) hL
  rw [List.drop_zero, Nat.zero_add] at hon
  have hp : lcF (1, 1) (s.data.toList.take a) = placeN s a := rfl
  rw [hp] at hon
  unfold LinePost
  obtain ⟨L, hq⟩ : ∃ L, placeN s a = L := ⟨_, rfl⟩
  rw [hq] at hon ⊢
  obtain ⟨L1, L2⟩ := L
  have hon := Lib.hid hon
  have hBh := Lib.hid hB
  have hWh : Hid (w.alloc (.cells #[.int .i64 0, .int .i64 1, .int .i64 1] 45) = W) := Lib.hid hW
  clear hL hB hp hq hT hW
  go_enter Tryd.func6, Tryd.ntmps6
  go_wp2_with fail
  rw [hWh.out]
  refine hon.out.mono ?_
  rintro e w1 ⟨rfl, hO, hL1⟩
  obtain ⟨x0, x1, x2, xf⟩ := box3 hL1
  have hb := Lib.hid (hO.below hBh.out (Nat.le_refl _))
  clear hO hL1
  go_wp2_with fail
  go_region
  go_wp2
  go_ret2
  exact ⟨rfl, hb.out.drew⟩
/-- the faults that are told -/
theorem oneR_err {l : List UInt8} {e : Int} (h : oneR l = .error e) : e = 8 ∨ e = 15 := by
  unfold oneR at h
  dsimp only at h
  split at h
  · split at h
    · cases h
    · cases h; exact .inl rfl
  · split at h
    · split at h
      · cases h
      · cases h; exact .inr rfl
    · split at h
      · cases h; exact .inr rfl
      · cases h
theorem scanF_fault : ∀ (n : Nat) (r : List UInt8) (a : Nat) (p : Nat × Nat) (e : Int) (b : Nat), (scanF n r a p).2 = some (e, b) → (e = 8 ∨ e = 15) ∧ b < a + r.length
  | 0, _, _, _, _, _, h => by cases h
  | n + 1, r, a, p, e, b, h => by
    rw [scanF] at h
    split at h
    · cases h
    · rename_i hne
      have hk : skipL false r < r.length := by
        rcases Nat.lt_or_ge (skipL false r) r.length with h | h
        · exact h
        · exact absurd (List.drop_eq_nil_iff.2 h) hne
      split at h
      · rename_i e' he
        cases h
        exact ⟨oneR_err he, by omega⟩
      · rename_i x hx
        obtain ⟨k, hk0, hkl, _, hkx⟩ := oneR_text hne hx
        rw [List.length_drop] at hkl
        obtain ⟨h1, h2⟩ := scanF_fault n _ _ _ e b h
        rw [List.length_drop, List.length_drop] at h2
        exact ⟨h1, by omega⟩
theorem scanA_fault {s : ByteArray} {e : Int} {b : Nat} (h : (scanA s).2 = some (e, b)) : (e = 8 ∨ e = 15) ∧ b < s.size := by
  have := scanF_fault _ _ _ _ _ _ h
  rw [size_list] at this
  omega
def fltV (e : Int) (l c : Nat) : Value := .agg #[.int .i64 e, .int .i64 l, .int .i64 c]
/-- what All says -/
def allM (s : ByteArray) : List Tp × Int × Nat × Nat :=
  if 65536 < s.size then ([], 3, 0, 0) else
  match (scanA s).2 with
  | some (e, a) => ([], e, (placeN s a).1, (placeN s a).2)
  | none => ((scanA s).1, 0, 0, 0)
def TpsAt (base : Nat) (w : World) (v : Value) (l : List Tp) : Prop := w.ownsRow base 41 5 v l.length (tpsCells l)
def AllPost (s : ByteArray) (w : World) (e : Ending) (w' : World) : Prop :=
  ∃ v, e = .returned (.tuple #[v, fltV (allM s).2.1 (allM s).2.2.1 (allM s).2.2.2]) ∧ TpsAt w.heap.size w' v (allM s).1 ∧ Below w.heap.size w w'
theorem tps_nil (base : Nat) (w : World) : TpsAt base w (.slice none 0 0) [] := ⟨rfl, .inl ⟨rfl, rfl⟩⟩
set_option maxRecDepth 100000 in
set_option maxHeartbeats 8000000 in
theorem all_any (s : ByteArray) (w : World) (hE : Env w) (hs : s.size ≤ 2000000) : Calls Tryd.prog 8 #[.string s] w (AllPost s w) := by
  obtain ⟨w0, hw0⟩ : ∃ w0, w.alloc (.cells #[.int .i64 0, .int .i64 0, .int .i64 0] 30) = w0 := ⟨_, rfl⟩
  have hB0 : Below w.heap.size w w0 := by rw [← hw0]; exact (Below.refl _ w).alloc (Nat.le_refl _) _
  have hz0 : w0.heap.size = w.heap.size + 1 := by rw [← hw0]; simp
  have hF0 : w0.heap[w.heap.size]? = some (.cells #[.int .i64 0, .int .i64 0, .int .i64 0] 30 (0, 0)) := by rw [← hw0]; exact heap_alloc_new _ _
  have hE0 := hE.below hB0
  obtain ⟨W, hW⟩ : ∃ W, w0.alloc (.cells #[.slice none 0 0] 27) = W := ⟨_, rfl⟩
  have hB1 : Below w0.heap.size w0 W := by rw [← hW]; exact (Below.refl _ w0).alloc (Nat.le_refl _) _
  have hJ0 : AllJ w0 w0.heap.size (fun _ => False) [] W := by
    refine ⟨.slice none 0 0, by rw [← hW]; exact heap_alloc_new _ _, ⟨rfl, .inl ⟨rfl, rfl⟩⟩, id, Nat.le_refl _, fun g hg => (by cases hg), fun k hk => hk.elim, hB1⟩
  have hsc := callsIn_wide.1 (scan_fn 2 (by omega) w0.heap.size s hs (AllJ w0 w0.heap.size) (fun _ _ => False) (allJ_ok hE0) W
    (fun Z pre t rest W1 hJ hp => callsIn_wide.2 (tell_any w0 w0.heap.size Z pre t W1 (by have := scanA_len s; rw [← hp, List.length_append] at this; omega) hJ)) (fun _ => False) hJ0)
  rw [hz0] at hsc
  have hsc := Lib.hid hsc
  have hw0h := Lib.hid hw0
  have hWh := Lib.hid hW
  have hB0h := Lib.hid hB0
  have hF0h := Lib.hid hF0
  have hE0h := Lib.hid hE0
  clear hw0 hB0 hF0 hE0 hW hB1 hJ0 hE
  go_enter Tryd.func8, Tryd.ntmps8
  go_wp2_with fail
  rw [hw0h.out, hWh.out]
  refine hsc.out.mono ?_
  rintro e w1 (⟨h1, h2, rfl, Z, hJ⟩ | ⟨h1, er, a, p, Z, h2, rfl, hF, hZ, hJ⟩ | ⟨_, _, _, _, _, _, hf⟩ | ⟨h1, rfl, Z, hJ⟩)
  · obtain ⟨v, j1, j2, _, _, _, _, j7⟩ := hJ
    have ham : allM s = ((scanA s).1, 0, 0, 0) := by unfold allM; rw [if_neg (by omega), h2]
    obtain ⟨W2, hW2⟩ : ∃ W2, w1.alloc (.cells #[.pointer none] 51) = W2 := ⟨_, rfl⟩
    have k7 : Below w0.heap.size w0 W2 := by rw [← hW2]; exact j7.alloc j7.size _
    have k1 : W2.heap[w.heap.size + 1]? = some (.cells #[v] 27 (0, 0)) := by rw [← hW2]; exact (heap_alloc_old _ _ (blk_lt j1)).trans j1
    have k2 : W2.ownsRow w0.heap.size 41 5 v (scanA s).1.length (tpsCells (scanA s).1) := own_keep j2 fun g hg => by rw [← hW2]; exact heap_alloc_old _ _ (own_at j2 hg).2
    have k3 := (k7.block w.heap.size (by omega)).trans hF0h.out
    obtain ⟨x0, x1, x2, xf⟩ := box3 k3
    obtain ⟨y0, yf⟩ := box1 k1
    have hi := Lib.hid (is_nil W2)
    have ha := Lib.hid (as_nil (.iface 54 (.pointer (some ⟨w1.heap.size, 0, none⟩))) W2)
    have hamh := Lib.hid ham
    have k7h := Lib.hid k7
    have k2h := Lib.hid k2
    have hW2h := Lib.hid hW2
    clear h2 j1 j2 j7 k1 k3 ham k7 k2 hW2
    go_wp2_with fail
    rw [hW2h.out]
    refine hi.out.mono ?_
    rintro e w2 ⟨rfl, rfl⟩
    go_wp2_with fail
    refine ha.out.mono ?_
    rintro e w2 ⟨rfl, rfl⟩
    go_wp2
    refine bodyPost_ret (v := .tuple #[v, .agg #[.int .i64 0, .int .i64 0, .int .i64 0]]) (by simp [results, Tryd.results8, go_sem, x0, x1, x2]) rfl ?_
    refine ⟨v, by rw [hamh.out]; rfl, ?_, ?_⟩
    · rw [hamh.out]
      refine own_keep (own_mono k2h.out (by omega)) fun g hg => ?_
      have := (own_at k2h.out hg).1
      rw [Go.Deep.blk_setCell_other _ _ _ _ (by simp; omega), Go.Deep.blk_setCell_other _ _ _ _ (by simp; omega), Go.Deep.blk_setCell_other _ _ _ _ (by simp; omega)]
    · exact (((Below.next hB0h.out k7h.out).setCell (Nat.le_refl _) _).setCell (Nat.le_refl _) _).setCell (Nat.le_refl _) _
  · obtain ⟨v, j1, j2, _, _, _, j6, j7⟩ := hJ
    obtain ⟨her, has⟩ := scanA_fault h2
    have her3 : er ≠ 3 := by rcases her with rfl | rfl <;> decide
    have ham : allM s = ([], er, (placeN s a).1, (placeN s a).2) := by unfold allM; rw [if_neg (by omega), h2]
    have hpz := j6 p hZ
    obtain ⟨W2, hW2⟩ : ∃ W2, w1.alloc (.cells #[.pointer none] 51) = W2 := ⟨_, rfl⟩
    obtain ⟨tb, htb⟩ : ∃ tb, w1.heap.size = tb := ⟨_, rfl⟩
    have hz2 : W2.heap.size = tb + 1 := by rw [← hW2, ← htb]; simp
    have k7 : Below w0.heap.size w0 W2 := by rw [← hW2]; exact j7.alloc j7.size _
    have k1 : W2.heap[tb]? = some (.cells #[.pointer none] 51 (0, 0)) := by rw [← hW2, ← htb]; exact heap_alloc_new _ _
    have kF : FaultAt W2 p er a := by rw [← hW2]; exact (heap_alloc_old _ _ hpz.2).trans hF
    obtain ⟨y0, yf⟩ := box1 k1
    have hi := Lib.hid (is_fault p er a W2 kF her3)
    have ha := as_hit ⟨p, 0, none⟩ ⟨tb, 0, none⟩ _ W2 (hE0h.out.below k7).ety y0 (yf 0)
    obtain ⟨W3, hW3⟩ : ∃ W3, ((((W2.alloc (.cells #[.pointer (some ⟨tb, 0, none⟩)] 54)).alloc (.cells #[.pointer (some ⟨10, 54, none⟩), .pointer (some ⟨W2.heap.size, 0, none⟩), .int .u64 150] 74)).alloc (.cells #[.pointer (some ⟨10, 54, none⟩), .pointer (some ⟨W2.heap.size, 0, none⟩), .int .u64 150] 74)).alloc (.cells #[.pointer (some ⟨p, 0, none⟩)] 51)).setCell ⟨tb, 0, none⟩ (.pointer (some ⟨p, 0, none⟩)) = W3 := ⟨_, rfl⟩
    rw [hW3] at ha
    have hb23 : Below tb W2 W3 := by
      rw [← hW3]
      exact (((((Below.refl tb W2).alloc (by omega) _).alloc (by simp; omega) _).alloc (by simp; omega) _).alloc (by simp; omega) _).setCell (Nat.le_refl _) _
    have kt3 : W3.heap[tb]? = some (.cells #[.pointer (some ⟨p, 0, none⟩)] 51 (0, 0)) := by
      rw [← hW3]
      refine set1_0 (v0 := .pointer none) ?_
      rw [heap_alloc_old _ _ (by simp; omega), heap_alloc_old _ _ (by simp; omega), heap_alloc_old _ _ (by simp; omega), heap_alloc_old _ _ (by omega)]
      exact k1
    have hptb : p < tb := by omega
    have kF3 : FaultAt W3 p er a := (hb23.block p hptb).trans kF
    have k73 : Below w0.heap.size w0 W3 := k7.trans (hb23.mono (by rw [← htb]; exact j7.size))
    have hline := line_any s a a W3 hs (.inl rfl) (by omega)
    unfold LinePost at hline
    obtain ⟨L, hL⟩ : ∃ L, placeN s a = L := ⟨_, rfl⟩
    rw [hL] at hline ham
    obtain ⟨L1, L2⟩ := L
    have hs3 : tb < W3.heap.size := blk_lt kt3
    have hs0' : w.heap.size < W3.heap.size := by have := k73.size; omega
    have kz3 := (k73.block w.heap.size (by omega)).trans hF0h.out
    obtain ⟨p0, p1, pf⟩ := box2 kF3
    obtain ⟨q0, qf⟩ := box1 kt3
    have ha := Lib.hid ha
    have hlineh := Lib.hid hline
    have hamh := Lib.hid ham
    have k73h := Lib.hid k73
    have kt3h := Lib.hid kt3
    have kF3h := Lib.hid kF3
    have kz3h := Lib.hid kz3
    have hW2h := Lib.hid hW2
    have htbh := Lib.hid htb
    clear h2 j1 j2 j6 j7 k1 kF hF hZ hpz hW3 hb23 kt3 kF3 k73 hline hL kz3 k7 hW2 htb ham y0 yf her
    go_wp2_with fail
    rw [hW2h.out, htbh.out]
    refine hi.out.mono ?_
    rintro e w2 ⟨rfl, rfl⟩
    go_wp2_with fail
    refine ha.out.mono ?_
    rintro e w3 ⟨rfl, rfl⟩
    go_wp2_with fail
    refine hlineh.out.mono ?_
    rintro e w4 ⟨rfl, hb4⟩
    obtain ⟨p0', p1', pf'⟩ := box2 ((hb4.block p (blk_lt kF3h.out)).trans kF3h.out)
    obtain ⟨q0', qf'⟩ := box1 ((hb4.block tb hs3).trans kt3h.out)
    obtain ⟨z0, z1, z2, zf⟩ := box3 ((hb4.block w.heap.size hs0').trans kz3h.out)
    have k74 := Lib.hid (k73h.out.trans (hb4.mono k73h.out.size))
    clear hb4
    go_wp2_with fail
    go_region
    go_wp2
    refine bodyPost_ret (v := .tuple #[.slice none 0 0, .agg #[.int .i64 er, .int .i64 L1, .int .i64 L2]]) (by simp [results, Tryd.results8, go_sem, z0, z1, z2]) rfl ?_
    exact ⟨_, by rw [hamh.out]; rfl, by rw [hamh.out]; exact tps_nil _ _, ((((Below.next hB0h.out k74.out).setCell (Nat.le_refl _) _).setCell (Nat.le_refl _) _).setCell (Nat.le_refl _) _).drew⟩
  · exact hf.elim
  · have ham : allM s = ([], 3, 0, 0) := by unfold allM; rw [if_pos h1]
    obtain ⟨v, j1, j2, _, _, _, j6, j7⟩ := hJ
    obtain ⟨W2, hW2⟩ : ∃ W2, w1.alloc (.cells #[.pointer none] 51) = W2 := ⟨_, rfl⟩
    have k7 : Below w0.heap.size w0 W2 := by rw [← hW2]; exact j7.alloc j7.size _
    have k3 := (k7.block w.heap.size (by omega)).trans hF0h.out
    obtain ⟨x0, x1, x2, xf⟩ := box3 k3
    have hi := Lib.hid (is_same W2)
    have hamh := Lib.hid ham
    have k7h := Lib.hid k7
    have hW2h := Lib.hid hW2
    clear j1 j2 j6 j7 k3 k7 hW2 ham
    go_wp2_with fail
    rw [hW2h.out]
    refine hi.out.mono ?_
    rintro e w2 ⟨rfl, rfl⟩
    go_wp2
    refine bodyPost_ret (v := .tuple #[.slice none 0 0, .agg #[.int .i64 3, .int .i64 0, .int .i64 0]]) (by simp [results, Tryd.results8, go_sem, x0, x1, x2]) rfl ?_
    exact ⟨_, by rw [hamh.out]; rfl, by rw [hamh.out]; exact tps_nil _ _, (((Below.next hB0h.out k7h.out).setCell (Nat.le_refl _) _).setCell (Nat.le_refl _) _).setCell (Nat.le_refl _) _⟩
end Go.Proofs.YtmkfoknhjjgipaaDoor
