/- All: what tell keeps there. -/
import Derived.Test.YtmkfoknhjjgipaaDoorI
import Derived.Deep.AppendLies
set_option linter.unusedSimpArgs false
set_option linter.unusedVariables false
namespace Go.Proofs.YtmkfoknhjjgipaaDoor
open Go.RowKit Go.Lib Go.Shelf

theorem scanF_len : ∀ (n : Nat) (r : List UInt8) (a : Nat) (p : Nat × Nat), (scanF n r a p).1.length ≤ n
  | 0, _, _, _ => Nat.le_refl _
  | n + 1, r, a, p => by
    rw [scanF]
    split
    · exact Nat.zero_le _
    · split
      · exact Nat.zero_le _
      · rename_i x _
        have := scanF_len n ((r.drop (skipL false r)).drop x.t.length) (a + skipL false r + x.t.length) (lcF (lcF p (r.take (skipL false r))) x.t)
        simp only [List.length_cons]
        omega
theorem scanA_len (s : ByteArray) : (scanA s).1.length ≤ s.size := scanF_len _ _ _ _
theorem und31 : Tryd.prog.underlying 27 = some (.slice 41) := by kernel_rfl
theorem info48 : (Tryd.prog.info? 41).map (fun i => (i.zero, i.size, i.bytes)) = some (some (.agg #[.int .i64 0, .string ⟨#[]⟩, .int .u64 0, .int .i64 0, .int .i64 0]), 5, 48) := by kernel_rfl
theorem info_parts {o : Option TypeInfo} {z : Value} {sz bt : Nat} (h : o.map (fun i => (i.zero, i.size, i.bytes)) = some (some z, sz, bt)) : ∃ i, o = some i ∧ i.zero = some z ∧ i.size = sz ∧ i.bytes = bt := by
  cases o with
  | none => cases h
  | some i =>
    simp only [Option.map_some, Option.some.injEq, Prod.mk.injEq] at h
    exact ⟨i, rfl, h.1, h.2.1, h.2.2⟩
def tpCells (t : Tp) : List Value := [.int .i64 t.x.k, .string (mkB t.x.t), .int .u64 t.x.u, .int .i64 t.l, .int .i64 t.c]
def tpsCells (l : List Tp) : List Value := l.flatMap tpCells
theorem tps_snoc (l : List Tp) (t : Tp) : tpsCells (l ++ [t]) = tpsCells l ++ tpCells t := by simp [tpsCells]
theorem own_keep {W W' : World} {base : Nat} {e : TypeId} {size : Nat} {v : Value} {n : Nat} {xs : List Value} (h : W.ownsRow base e size v n xs) (hb : ∀ g, v.ownBlock = some g → W'.heap[g]? = W.heap[g]?) : W'.ownsRow base e size v n xs := by
  refine ⟨h.1, ?_⟩
  rcases h.2 with hn | ⟨g, cap, cur, hv, hbg, hg, rest⟩
  · exact .inl hn
  · exact .inr ⟨g, cap, cur, hv, hbg, (hb g (by rw [hv]; rfl)).trans hg, rest⟩
theorem own_at {W : World} {base : Nat} {e : TypeId} {size : Nat} {v : Value} {n : Nat} {xs : List Value} (h : W.ownsRow base e size v n xs) {g : Nat} (hb : v.ownBlock = some g) : base ≤ g ∧ g < W.heap.size := by
  rcases h.2 with ⟨rfl, _⟩ | ⟨g', cap, cur, hv, hbg, hg, rest⟩
  · cases hb
  · rw [hv] at hb
    cases hb
    exact ⟨hbg, blk_lt hg⟩
/-- what All's tell keeps: the list lies in its own memory -/
def AllJ (w0 : World) (L : Nat) (Z : Nat → Prop) (pre : List Tp) (W : World) : Prop :=
  ∃ v, W.heap[L]? = some (.cells #[v] 27 (0, 0)) ∧ W.ownsRow w0.heap.size 41 5 v pre.length (tpsCells pre) ∧ ¬ Z L ∧ w0.heap.size ≤ L ∧ (∀ g, v.ownBlock = some g → ¬ Z g ∧ g ≠ L) ∧ (∀ k, Z k → w0.heap.size ≤ k ∧ k < W.heap.size) ∧ Below w0.heap.size w0 W
theorem allJ_ok {w0 : World} {L : Nat} (hE : Env w0) : TellOk (AllJ w0 L) where
  env := fun ⟨_, _, _, _, _, _, _, hb⟩ => hE.below hb
  grow := by
    rintro Z pre W W' ⟨v, h1, h2, h3, h4, h5, h6, hb⟩ he
    refine ⟨v, (he.block L (blk_lt h1) h3).trans h1, own_keep h2 fun g hg => he.block g (own_at h2 hg).2 (h5 g hg).1, ?_, h4, fun g hg => ⟨?_, (h5 g hg).2⟩, ?_, ⟨he.os.trans hb.os, he.tape.trans hb.tape, he.output.trans hb.output, Nat.le_trans hb.size he.size, fun k hk => (he.block k (Nat.lt_of_lt_of_le hk hb.size) fun hz => absurd (h6 k hz).1 (by omega)).trans (hb.block k hk)⟩⟩
    · rintro (hz | hz)
      · exact h3 hz
      · have := blk_lt h1; omega
    · rintro (hz | hz)
      · exact (h5 g hg).1 hz
      · have := (own_at h2 hg).2; omega
    · rintro k (hz | hz)
      · have := h6 k hz
        have := he.size
        omega
      · have := hb.size; omega
theorem box1 {W : World} {b : Nat} {v0 : Value} {t : TypeId} (h : W.heap[b]? = some (.cells #[v0] t (0, 0))) :
    W.cell? ⟨b, 0, none⟩ = some v0 ∧ ∀ k, W.frozen? ⟨b, k, none⟩ = false :=
  ⟨by rw [blk_cell h]; rfl, fun k => by simp [World.frozen?, h]⟩
theorem set1_0 {W : World} {b : Nat} {v0 v : Value} {t : TypeId} (h : W.heap[b]? = some (.cells #[v0] t (0, 0))) : (W.setCell ⟨b, 0, none⟩ v).heap[b]? = some (.cells #[v] t (0, 0)) := by
  simp [World.setCell, Array.getElem?_modify, h]
theorem step2 {w : World} {a b : Obj} : ((w.alloc a).alloc b).heap[w.heap.size + 1]? = some b := heap_alloc_new' (by simp) _
set_option maxRecDepth 100000 in
set_option maxHeartbeats 4000000 in
theorem tell_any (w0 : World) (L : Nat) (Z : Nat → Prop) (pre : List Tp) (t : Tp) (w : World) (hl : pre.length ≤ 2000000) (hJ : AllJ w0 L Z pre w) :
    Calls Tryd.prog 16 #[.int .i64 t.a, tpV t, .pointer (some ⟨L, 0, none⟩)] w (TellPost (AllJ w0 L) (fun _ _ => False) Z (pre ++ [t]) w) := by
  obtain ⟨v, h1, h2, h3, h4, h5, h6, hb⟩ := hJ
  obtain ⟨i0, hi0, hz0, hz1, hz2⟩ := info_parts info48
  unfold tpV tkV
  obtain ⟨q, hq⟩ : ∃ q, mkB t.x.t = q := ⟨_, rfl⟩
  have hcells : tpCells t = [.int .i64 t.x.k, .string q, .int .u64 t.x.u, .int .i64 t.l, .int .i64 t.c] := by unfold tpCells; rw [hq]
  rw [hq]
  obtain ⟨W, hW⟩ : ∃ W, (w.alloc (.cells #[.int .i64 t.x.k, .string q, .int .u64 t.x.u, .int .i64 t.l, .int .i64 t.c] 41)).alloc (.cells #[.int .i64 t.x.k, .string q, .int .u64 t.x.u, .int .i64 t.l, .int .i64 t.c] 41) = W := ⟨_, rfl⟩
  have hbW : Below w.heap.size w W := by rw [← hW]; exact ((Below.refl _ w).alloc (Nat.le_refl _) _).alloc (by simp) _
  have hsW : W.heap.size = w.heap.size + 2 := by rw [← hW]; simp
  have hLw := blk_lt h1
  have h1W := (hbW.block L hLw).trans h1
  have h2W := own_keep (W' := W) h2 fun g hg => hbW.block g (own_at h2 hg).2
  have hnew : W.heap[w.heap.size + 1]? = some (.cells #[.int .i64 t.x.k, .string q, .int .u64 t.x.u, .int .i64 t.l, .int .i64 t.c] 41 (0, 0)) := by rw [← hW]; exact step2
  have hcl : w.cell? ⟨L, 0, none⟩ = some v := by rw [blk_cell h1]; rfl
  have hown := Lib.hid h2W
  have hnewc := Lib.hid (show ∀ (j : Nat) (u : Value), ([.int .i64 t.x.k, .string q, .int .u64 t.x.u, .int .i64 t.l, .int .i64 t.c] : List Value)[j]? = some u → W.cell? ((⟨w.heap.size + 1, 0, none⟩ : Addr).add j) = some u from fun j u hu => by
    have e : ((⟨w.heap.size + 1, 0, none⟩ : Addr).add j) = ⟨w.heap.size + 1, j, none⟩ := by rw [Lib.add_plain, Nat.zero_add]
    rw [e, blk_cell hnew]
    simpa using hu)
  have hone := Lib.hid (show ∀ v ∈ ([.int .i64 t.x.k, .string q, .int .u64 t.x.u, .int .i64 t.l, .int .i64 t.c] : List Value), v.oneCell' = true by simp [Value.oneCell'])
  have hi := Lib.hid (And.intro hi0 (And.intro hz0 (And.intro hz1 hz2)))
  have hW' := Lib.hid hW
  have h1W' := Lib.hid h1W
  have h5' := Lib.hid h5
  have h6' := Lib.hid h6
  have hb' := Lib.hid hb
  have hbW' := Lib.hid hbW
  have hk1 := Lib.hid (show pre.length + 1 ≤ maxLen by unfold maxLen; omega)
  have hk2 := Lib.hid (show (pre.length + 1) * 48 ≤ 140737488355328 by omega)
  have hbs := Lib.hid (show w0.heap.size ≤ W.heap.size by have := hb.size; omega)
  have h2' := Lib.hid h2
  obtain ⟨hj1, hj2, hj3, hj4⟩ := hi.out
  clear hi0 hz0 hz1 hz2 hW h1W h5 h6 hb hbW hq h2 hnew h2W
  go_enter Tryd.func16, Tryd.ntmps16
  go_wp2_with (at_builtin; rw [hW'.out]; refine wpList_append_lies _ rfl _ _ 27 rfl w0.heap.size 41 i0 _ 5 48 und31 hj1 hj2 hj3 hj4 rfl (by decide) v pre.length _ rfl hown.out ⟨w.heap.size + 1, 0, none⟩ 1 1 [.int .i64 t.x.k, .string q, .int .u64 t.x.u, .int .i64 t.l, .int .i64 t.c] rfl rfl hnewc.out hone.out (by decide) hk1.out hk2.out hbs.out _ rfl ?_; intro g cap w4 hown4 hg4 hat4 hlt4; have hL4 := (hg4.block L (by omega) (fun e => (h5'.out L e.symm).2 rfl)).trans h1W'.out; obtain ⟨y0, yf⟩ := box1 hL4; have hL4 := Lib.hid hL4; have hown4 := Lib.hid hown4; have hg4 := Lib.hid hg4; have hat4 := Lib.hid hat4; have hlt4 := Lib.hid hlt4)
  go_ret
  have hgL : g ≠ L := by
    rcases hat4.out with h | h
    · exact (h5'.out g h).2
    · omega
  refine .inl ⟨rfl, ⟨_, set1_0 hL4.out, ?_, h3, h4, ?_, ?_, ?_⟩, ?_⟩
  · rw [tps_snoc, hcells, List.length_append]
    exact own_keep hown4.out fun k hk => Go.Deep.blk_setCell_other _ _ _ _ (by cases hk; exact hgL)
  · intro k hk
    cases hk
    refine ⟨?_, hgL⟩
    rcases hat4.out with h | h
    · exact (h5'.out g h).1
    · intro hz
      have := (h6'.out g hz).2
      omega
  · intro k hz
    have h := h6'.out k hz
    have := hg4.out.size
    exact ⟨h.1, by rw [Go.Deep.nblk_setCell]; omega⟩
  · exact ((hb'.out.trans (hbW'.out.mono hb'.out.size)).grown hg4.out hbs.out (fun k hk => (own_at hown.out hk).1)).setCell (p := ⟨L, 0, none⟩) h4 _
  · intro k hz hk
    have hkL : k ≠ L := fun e => h3 (e ▸ hz)
    rw [Go.Deep.blk_setCell_other _ _ _ _ hkL, hg4.out.block k (by omega) (fun e => (h5'.out k e.symm).1 hz)]
    exact hbW'.out.block k hk
end Go.Proofs.YtmkfoknhjjgipaaDoor
