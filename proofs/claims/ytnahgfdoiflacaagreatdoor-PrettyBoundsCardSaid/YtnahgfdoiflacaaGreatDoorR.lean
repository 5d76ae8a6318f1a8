/- The text of an expression. -/
import Derived.Test.YtnahgfdoiflacaaGreatDoorQ
import Derived.Test.YtnahgfdoiflacaaGreatDoorO2
set_option linter.unusedSimpArgs false
set_option linter.unusedVariables false
namespace Go.Proofs.YtnahgfdoiflacaaGreatDoor
open Go.RowKit Go.Lib Go.Shelf

/-- a number's digits (a word's) -/
def digD (u : Nat) : List UInt8 := if u < 18446744073709551616 then decDigits u else []
theorem digD_len (u : Nat) : (digD u).length ≤ 20 := by
  unfold digD
  split
  · have := numT_len u (by assumption)
    exact this
  · exact Nat.zero_le _
/-- an expression's text -/
def txS (e : Ex) : ByteArray := ⟨(txtE digD e).toArray⟩
theorem txS_list (e : Ex) : (txS e).data.toList = txtE digD e := rfl
theorem txS_size (e : Ex) : (txS e).size + 2 ≤ 24 * cntE e := by
  have := txtE_len digD digD_len e
  rw [← txS_list, size_list] at this
  exact this
theorem txL_txS (es : List Ex) : txtL digD es = es.map fun x => (txS x).data.toList := by rw [txtL_map]; rfl
theorem ba_ext {a b : ByteArray} (h : a.data.toList = b.data.toList) : a = b := by
  obtain ⟨a⟩ := a
  obtain ⟨b⟩ := b
  congr 1
  exact Array.toList_inj.1 h
theorem ba_app (a b : ByteArray) : (a ++ b).data.toList = a.data.toList ++ b.data.toList := by simp
theorem mayE_node {op : Int} {u : Nat} {nm : ByteArray} {ars : List Ex} (h : mayE nameB (.node op u nm ars) = true) : mayN op nm = true ∧ mayU op u = true ∧ argsN op = ars.length ∧ ∀ x ∈ ars, mayE nameB x = true := by
  rw [mayE_eq, Bool.and_eq_true, Bool.and_eq_true, Bool.and_eq_true, decide_eq_true_iff, List.all_eq_true] at h
  exact ⟨h.1.1.1, h.1.1.2, h.1.2, h.2⟩
theorem argsN_0 : argsN 1 = 0 ∧ argsN 2 = 0 ∧ argsN 3 = 1 ∧ argsN 4 = 1 ∧ argsN 5 = 1 ∧ argsN 21 = 3 := by decide
theorem argsN_2 {op : Int} (h : 6 ≤ op) (h2 : op ≤ 20) : argsN op = 2 := by
  unfold argsN
  rw [if_neg (by omega), if_neg (by omega), if_pos ⟨h, h2⟩]
theorem argsN_none {op : Int} (h : op < 1 ∨ 21 < op) : argsN op = -1 := by
  unfold argsN
  rw [if_neg (by omega), if_neg (by omega), if_neg (by omega), if_neg (by omega)]
/-- an expression's kinds -/
theorem op_cases {op : Int} {ars : List Ex} (h : argsN op = ars.length) : (op = 1 ∧ ars = []) ∨ (op = 2 ∧ ars = []) ∨ (op = 3 ∧ ∃ x, ars = [x]) ∨ (op = 4 ∧ ∃ x, ars = [x]) ∨ (op = 5 ∧ ∃ x, ars = [x]) ∨ (op = 21 ∧ ∃ x y z, ars = [x, y, z]) ∨ (6 ≤ op ∧ op ≤ 20 ∧ ∃ x y, ars = [x, y]) := by
  obtain ⟨a1, a2, a3, a4, a5, a6⟩ := argsN_0
  have l1 : ars.length = 1 → ∃ x, ars = [x] := fun h => List.length_eq_one_iff.1 h
  have l2 : ars.length = 2 → ∃ x y, ars = [x, y] := fun h => by
    match ars, h with
    | [x, y], _ => exact ⟨x, y, rfl⟩
  have l3 : ars.length = 3 → ∃ x y z, ars = [x, y, z] := fun h => by
    match ars, h with
    | [x, y, z], _ => exact ⟨x, y, z, rfl⟩
  have l0 : ars.length = 0 → ars = [] := fun h => List.length_eq_zero_iff.1 h
  rcases args_cases op with h' | rfl | rfl | rfl | rfl | rfl | ⟨h1, h2⟩ | rfl | h'
  · rw [argsN_none (.inl h')] at h; omega
  · exact .inl ⟨rfl, l0 (by omega)⟩
  · exact .inr (.inl ⟨rfl, l0 (by omega)⟩)
  · exact .inr (.inr (.inl ⟨rfl, l1 (by omega)⟩))
  · exact .inr (.inr (.inr (.inl ⟨rfl, l1 (by omega)⟩)))
  · exact .inr (.inr (.inr (.inr (.inl ⟨rfl, l1 (by omega)⟩))))
  · rw [argsN_2 h1 h2] at h
    exact .inr (.inr (.inr (.inr (.inr (.inr ⟨h1, h2, l2 (by omega)⟩)))))
  · exact .inr (.inr (.inr (.inr (.inr (.inl ⟨rfl, l3 (by omega)⟩)))))
  · rw [argsN_none (.inr h')] at h; omega

set_option maxRecDepth 100000 in
set_option maxHeartbeats 8000000 in
theorem expr_any (w0 : World) (hE : Env w0) (e : Ex) (A : Option Addr) (h : ExAt w0 e A) (hq : cntE e ≤ 30000) (hm : mayE nameB e = true) (hu : e.u < 18446744073709551616) : ∀ (c : Nat) (W : World), Below w0.heap.size w0 W →
    Calls Tryz.prog 44 #[exV e A c] W (StrPost (txS e) W) := by
  refine ExAt.all (M := fun e A => cntE e ≤ 30000 → mayE nameB e = true → e.u < 18446744073709551616 → ∀ (c : Nat) (W : World), Below w0.heap.size w0 W → Calls Tryz.prog 44 #[exV e A c] W (StrPost (txS e) W)) ?_ e A h hq hm hu
  intro e A he ih hq hm hu c W hW
  obtain ⟨op, u, nm, ars⟩ := e
  have hs := Lib.hid (show ExsAt w0 ars A from he.args)
  have hq' := hq
  rw [cntE] at hq
  obtain ⟨hN, hU, hA, hall⟩ := mayE_node hm
  have ih' := Lib.hid (show ∀ (i : Nat) (x : Ex) (B : Option Addr), ars[i]? = some x → ExAt w0 x B → ∀ (C : Nat) (W' : World), Below w0.heap.size w0 W' → Calls Tryz.prog 44 #[exV x B C] W' (StrPost (txS x) W') from
    fun i x B hx hxe C W' hW' => ih i x B hx hxe (by have := cnt_mem (ars := ars) hx; omega) (hall x (List.mem_of_getElem? hx)) (he.args.u_lt hx) C W' hW')
  have hsz := txS_size (.node op u nm ars)
  have hEw := Lib.hid (hE.below hW)
  unfold exV
  dsimp only [Ex.op, Ex.u, Ex.nm, Ex.ars] at hu ⊢
  obtain ⟨n, hn⟩ : ∃ n, ars.length = n := ⟨_, rfl⟩
  rw [hn]
  obtain ⟨W1, hW1⟩ : ∃ W1, W.alloc (.cells #[.int .i64 op, .int .u64 u, .string nm, .slice A n c] 26) = W1 := ⟨_, rfl⟩
  have hb1 : Below W.heap.size W W1 := by rw [← hW1]; exact (Below.refl _ W).alloc (Nat.le_refl _) _
  have hx1 : W1.heap[W.heap.size]? = some (.cells #[.int .i64 op, .int .u64 u, .string nm, .slice A n c] 26 (0, 0)) := by rw [← hW1]; exact heap_alloc_new _ _
  have hW' := Lib.hid hW
  have hn' := Lib.hid hn
  have hb1 := Lib.hid hb1
  have hx1 := Lib.hid hx1
  have hW1' := Lib.hid hW1
  clear ih hW hW1 h he hall hN hU
  obtain ⟨g0, g1, g2, g3, gf⟩ := box4 hx1.out
  rcases op_cases hA with ⟨rfl, rfl⟩ | ⟨rfl, rfl⟩ | ⟨rfl, x, rfl⟩ | ⟨rfl, x, rfl⟩ | ⟨rfl, x, rfl⟩ | ⟨rfl, x, y, z, rfl⟩ | ⟨h1, h2, x, y, rfl⟩
  · have hf := Lib.hid (fmtU u hu W1 (hEw.out.tab.below hb1.out))
    have ht := Lib.hid (show txS (.node 1 u nm []) = numT u by
      unfold txS numT
      rw [txtE, if_pos rfl]
      unfold digD
      rw [if_pos hu])
    clear hA hn hsz hq hq' hm
    go_enter Tryz.func44, Tryz.ntmps44
    go_wp2_with fail
    rw [hW1'.out]
    go_wp2_with fail
    refine hf.out.mono ?_
    rintro e w2 ⟨rfl, hb2⟩
    go_wp2
    go_ret
    exact ⟨by rw [ht.out]; rfl, Below.next hb1.out hb2⟩
  · have ht := Lib.hid (show txS (.node 2 u nm []) = nm by
      unfold txS
      rw [txtE, if_neg (by decide), if_pos rfl])
    clear hA hn hsz hq hq' hm
    go_enter Tryz.func44, Tryz.ntmps44
    go_wp2_with fail
    rw [hW1'.out]
    go_wp2
    go_ret
    exact ⟨by rw [ht.out]; rfl, hb1.out⟩
  · have hc1 := cntE_pos x
    have hx := txS_size x
    rw [cntL, cntL] at hq
    have hz : nm.size + 1 + (txS x).size + 1 ≤ 1000000 := by omega
    have ht := Lib.hid (show nm ++ ⟨#[91]⟩ ++ txS x ++ ⟨#[93]⟩ = txS (.node 3 u nm [x]) by
      refine ba_ext ?_
      rw [txS_list, txtE, if_neg (by decide), if_neg (by decide), if_pos rfl, ba_app, ba_app, ba_app, txS_list]
      simp [txtL])
    have hbw := Lib.hid (hW'.out.trans (hb1.out.mono hW'.out.size))
    obtain ⟨blk, off, x', B, C, rfl, hx', v0, v1, v2, v3, hxe⟩ := (hs.out).at_ (k := 0) (by simp)
    cases hx'
    rw [show off + 0 * 4 = off by omega] at v0 v1 v2 v3
    have v0 := Sub.cell ((hbw.out.cell (p := ⟨blk, off, none⟩) (cell_some_lt v0)).trans v0)
    have v1 := Sub.cell ((hbw.out.cell (p := ⟨blk, off + 1, none⟩) (cell_some_lt v1)).trans v1)
    have v2 := Sub.cell ((hbw.out.cell (p := ⟨blk, off + 2, none⟩) (cell_some_lt v2)).trans v2)
    have v3 := Sub.cell ((hbw.out.cell (p := ⟨blk, off + 3, none⟩) (cell_some_lt v3)).trans v3)
    have hcl := fun s : Sub W1 => ih'.out 0 x B rfl hxe C s.val (hbw.out.trans (s.property.mono hbw.out.size))
    unfold exV at hcl
    have hcl := Lib.hid hcl
    have k0 := Sub.cell g0
    have k1 := Sub.cell g1
    have k2 := Sub.cell g2
    have k3 := Sub.cell g3
    simp only [List.length_cons, List.length_nil, Nat.zero_add] at hn
    subst hn
    clear hxe hA hm hsz hq hq' hc1 hx
    go_enter Tryz.func44, Tryz.ntmps44
    go_wp2_with fail
    rw [hW1'.out]
    go_wp2_with fail
    refine wp_region_below (by kernel_rfl) (by kernel_rfl) ?_
    repeat (go_big_quiet_step ((go_at_call 44; with_reducible exact Sub.call (hcl.out _))))
    refine wpQuiet_nil ?_
    rintro _ ⟨⟨w3, hb3⟩, rfl⟩
    rw [ht.out]
    have hfin := Lib.hid (Below.next hb1.out hb3)
    clear hb3
    go_wp2
    go_ret
    exact ⟨rfl, hfin.out⟩
  · have hc1 := cntE_pos x
    have hx := txS_size x
    rw [cntL, cntL] at hq
    have hz : 1 + (txS x).size ≤ 1000000 := by omega
    have ht := Lib.hid (show ⟨#[126]⟩ ++ txS x = txS (.node 4 u nm [x]) by
      refine ba_ext ?_
      rw [txS_list, txtE, if_neg (by decide), if_neg (by decide), if_neg (by decide), if_pos rfl, ba_app, txS_list]
      simp [txtL])
    have hbw := Lib.hid (hW'.out.trans (hb1.out.mono hW'.out.size))
    obtain ⟨blk, off, x', B, C, rfl, hx', v0, v1, v2, v3, hxe⟩ := (hs.out).at_ (k := 0) (by simp)
    cases hx'
    rw [show off + 0 * 4 = off by omega] at v0 v1 v2 v3
    have v0 := ((hbw.out.cell (p := ⟨blk, off, none⟩) (cell_some_lt v0)).trans v0)
    have v1 := ((hbw.out.cell (p := ⟨blk, off + 1, none⟩) (cell_some_lt v1)).trans v1)
    have v2 := ((hbw.out.cell (p := ⟨blk, off + 2, none⟩) (cell_some_lt v2)).trans v2)
    have v3 := ((hbw.out.cell (p := ⟨blk, off + 3, none⟩) (cell_some_lt v3)).trans v3)
    have hcl := ih'.out 0 x B rfl hxe C W1 hbw.out
    unfold exV at hcl
    have hcl := Lib.hid hcl
    simp only [List.length_cons, List.length_nil, Nat.zero_add] at hn
    subst hn
    clear hxe hA hm hsz hq hq' hc1 hx
    have hW2 := hW1'.out
    go_enter Tryz.func44, Tryz.ntmps44
    go_wp2_with fail
    refine hcl.out.mono ?_
    rintro e w2 ⟨rfl, hb2⟩
    go_wp2
    rw [ht.out]
    go_ret
    exact ⟨rfl, Below.next hb1.out hb2⟩
  · have hc1 := cntE_pos x
    have hx := txS_size x
    rw [cntL, cntL] at hq
    have hz : 1 + (txS x).size ≤ 1000000 := by omega
    have ht := Lib.hid (show ⟨#[45]⟩ ++ txS x = txS (.node 5 u nm [x]) by
      refine ba_ext ?_
      rw [txS_list, txtE, if_neg (by decide), if_neg (by decide), if_neg (by decide), if_neg (by decide), if_pos rfl, ba_app, txS_list]
      simp [txtL])
    have hbw := Lib.hid (hW'.out.trans (hb1.out.mono hW'.out.size))
    obtain ⟨blk, off, x', B, C, rfl, hx', v0, v1, v2, v3, hxe⟩ := (hs.out).at_ (k := 0) (by simp)
    cases hx'
    rw [show off + 0 * 4 = off by omega] at v0 v1 v2 v3
    have v0 := ((hbw.out.cell (p := ⟨blk, off, none⟩) (cell_some_lt v0)).trans v0)
    have v1 := ((hbw.out.cell (p := ⟨blk, off + 1, none⟩) (cell_some_lt v1)).trans v1)
    have v2 := ((hbw.out.cell (p := ⟨blk, off + 2, none⟩) (cell_some_lt v2)).trans v2)
    have v3 := ((hbw.out.cell (p := ⟨blk, off + 3, none⟩) (cell_some_lt v3)).trans v3)
    have hcl := ih'.out 0 x B rfl hxe C W1 hbw.out
    unfold exV at hcl
    have hcl := Lib.hid hcl
    simp only [List.length_cons, List.length_nil, Nat.zero_add] at hn
    subst hn
    clear hxe hA hm hsz hq hq' hc1 hx
    have hW2 := hW1'.out
    go_enter Tryz.func44, Tryz.ntmps44
    go_wp2_with fail
    refine hcl.out.mono ?_
    rintro e w2 ⟨rfl, hb2⟩
    go_wp2
    rw [ht.out]
    go_ret
    exact ⟨rfl, Below.next hb1.out hb2⟩
  · have hlc := commas_len (txtL digD [x, y, z])
    have htl := txtL_len digD digD_len [x, y, z]
    have hjl : (Lib.join ([x, y, z].map fun x => (txS x).data.toList) [44, 32]).length ≤ 24 * cntL [x, y, z] := by
      rw [commas_join, ← txL_txS]
      omega
    have hz : 5 + (listT ([x, y, z].map txS)).size + 1 ≤ 1000000 := by
      have e : (listT ([x, y, z].map txS)).size = (Lib.join ([x, y, z].map fun x => (txS x).data.toList) [44, 32]).length := by
        rw [← size_list]; unfold listT; rw [List.map_map]; rfl
      omega
    have ht := Lib.hid (show ⟨#[112, 105, 99, 107, 40]⟩ ++ listT ([x, y, z].map txS) ++ ⟨#[41]⟩ = txS (.node 21 u nm [x, y, z]) by
      refine ba_ext ?_
      rw [txS_list, txtE, if_neg (by decide), if_neg (by decide), if_neg (by decide), if_neg (by decide), if_neg (by decide), if_pos rfl, ba_app, ba_app]
      unfold listT
      rw [List.map_map, commas_join, txL_txS]
      simp
      first | done | rfl)
    have hbw := Lib.hid (hW'.out.trans (hb1.out.mono hW'.out.size))
    have hl := listE_any 44 (enters_of Tryz.func44 (by kernel_rfl) rfl) txS w0 [x, y, z] A hs.out c W1 hbw.out (by simp) (by omega) (fun i x B hx hxe C W' hW' => ih'.out i x B hx hxe C W' hW')
    simp only [List.length_cons, List.length_nil, Nat.zero_add, Nat.reduceAdd] at hn hl
    subst hn
    generalize listT ([x, y, z].map txS) = lt at hl hz ht
    have hl := Lib.hid hl
    clear hA hm hsz hq hq' hlc htl hjl
    go_enter Tryz.func44, Tryz.ntmps44
    go_wp2_with fail
    rw [hW1'.out]
    go_wp2_with fail
    refine hl.out.mono ?_
    rintro e w2 ⟨rfl, hb2⟩
    go_wp2
    rw [ht.out]
    go_ret
    exact ⟨rfl, Below.next hb1.out hb2⟩
  · have hx := txS_size x
    have hy := txS_size y
    rw [cntL, cntL, cntL] at hq
    have hsg : sgnT op = ⟨(signT op).toArray⟩ := by
      unfold sgnT sgnB
      rw [decide_eq_true h1, decide_eq_true h2]
      rfl
    have hsl : (sgnT op).size ≤ 4 := by
      rw [hsg, ← size_list]
      exact signT_len op
    have hz : 1 + (txS x).size + 1 + (sgnT op).size + 1 + (txS y).size + 1 ≤ 1000000 := by omega
    have ht := Lib.hid (show ⟨#[40]⟩ ++ txS x ++ ⟨#[32]⟩ ++ sgnT op ++ ⟨#[32]⟩ ++ txS y ++ ⟨#[41]⟩ = txS (.node op u nm [x, y]) by
      refine ba_ext ?_
      rw [txS_list, txtE, if_neg (by omega), if_neg (by omega), if_neg (by omega), if_neg (by omega), if_neg (by omega), if_neg (by omega), hsg]
      simp [txtL, txS_list, ba_app])
    have o1 := int_ne (show op ≠ 1 by omega)
    have o2 := int_ne (show op ≠ 2 by omega)
    have o3 := int_ne (show op ≠ 3 by omega)
    have o4 := int_ne (show op ≠ 4 by omega)
    have o5 := int_ne (show op ≠ 5 by omega)
    have o6 := int_ne (show op ≠ 21 by omega)
    have hbw := Lib.hid (hW'.out.trans (hb1.out.mono hW'.out.size))
    have hsn := Lib.hid (sign_any op W1 (hEw.out.below hb1.out))
    generalize sgnT op = st at hsn hz ht
    simp only [List.length_cons, List.length_nil, Nat.zero_add, Nat.reduceAdd] at hn
    subst hn
    clear hA hm hsz hq hq' hx hy h1 h2 hsg hsl
    go_enter Tryz.func44, Tryz.ntmps44
    go_wp2_with fail
    rw [hW1'.out]
    go_wp2_with fail
    refine hsn.out.mono ?_
    rintro e W2 ⟨rfl, hb2⟩
    go_wp2_with fail
    have hbw := Lib.hid (hbw.out.trans (hb2.mono hbw.out.size))
    have hxx := Lib.hid ((hb2.block W.heap.size (blk_lt hx1.out)).trans hx1.out)
    have hb1 := Lib.hid (Below.next hb1.out hb2)
    clear g0 g1 g2 g3 gf hb2
    obtain ⟨g0, g1, g2, g3, gf⟩ := box4 hxx.out
    obtain ⟨blk, off, x', B, C, rfl, hx', v0, v1, v2, v3, hxe⟩ := (hs.out).at_ (k := 0) (by simp)
    cases hx'
    rw [show off + 0 * 4 = off by omega] at v0 v1 v2 v3
    have v0 := Sub.cell ((hbw.out.cell (p := ⟨blk, off, none⟩) (cell_some_lt v0)).trans v0)
    have v1 := Sub.cell ((hbw.out.cell (p := ⟨blk, off + 1, none⟩) (cell_some_lt v1)).trans v1)
    have v2 := Sub.cell ((hbw.out.cell (p := ⟨blk, off + 2, none⟩) (cell_some_lt v2)).trans v2)
    have v3 := Sub.cell ((hbw.out.cell (p := ⟨blk, off + 3, none⟩) (cell_some_lt v3)).trans v3)
    have hcl := fun s : Sub W2 => ih'.out 0 x B rfl hxe C s.val (hbw.out.trans (s.property.mono hbw.out.size))
    unfold exV at hcl
    have hcl := Lib.hid hcl
    obtain ⟨blk', off', x', By, Cy, eAy, hx', v0y, v1y, v2y, v3y, hxey⟩ := (hs.out).at_ (k := 1) (by simp)
    cases hx'
    cases eAy
    rw [show off + 1 * 4 = off + 4 by omega] at v0y v1y v2y v3y
    rw [show off + 4 + 1 = off + 5 by omega] at v1y
    rw [show off + 4 + 2 = off + 6 by omega] at v2y
    rw [show off + 4 + 3 = off + 7 by omega] at v3y
    have v0y := Sub.cell ((hbw.out.cell (p := ⟨blk, off + 4, none⟩) (cell_some_lt v0y)).trans v0y)
    have v1y := Sub.cell ((hbw.out.cell (p := ⟨blk, off + 5, none⟩) (cell_some_lt v1y)).trans v1y)
    have v2y := Sub.cell ((hbw.out.cell (p := ⟨blk, off + 6, none⟩) (cell_some_lt v2y)).trans v2y)
    have v3y := Sub.cell ((hbw.out.cell (p := ⟨blk, off + 7, none⟩) (cell_some_lt v3y)).trans v3y)
    have hcly := fun s : Sub W2 => ih'.out 1 y By rfl hxey Cy s.val (hbw.out.trans (s.property.mono hbw.out.size))
    unfold exV at hcly
    have hcly := Lib.hid hcly
    have k0 := Sub.cell g0
    have k1 := Sub.cell g1
    have k2 := Sub.cell g2
    have k3 := Sub.cell g3
    clear hxe hxey
    refine wp_region_below (by kernel_rfl) (by kernel_rfl) ?_
    repeat (go_big_quiet_step ((first | (go_at_call 44; with_reducible exact Sub.call (hcl.out _)) | (go_at_call 44; with_reducible exact Sub.call (hcly.out _)))))
    refine wpQuiet_nil ?_
    rintro _ ⟨⟨w3, hb3⟩, rfl⟩
    rw [ht.out]
    have hfin := Lib.hid (Below.next hb1.out hb3)
    clear hb3
    go_wp2
    go_ret
    exact ⟨rfl, hfin.out⟩
set_option maxRecDepth 100000 in
set_option maxHeartbeats 8000000 in
theorem refExpr_any (w0 : World) (hE : Env w0) (e : Ex) (A : Option Addr) (h : ExAt w0 e A) (hq : cntE e ≤ 30000) (hm : mayE nameB e = true) (hu : e.u < 18446744073709551616) : ∀ (c : Nat) (W : World), Below w0.heap.size w0 W →
    Calls Tryz.prog 17 #[exV e A c] W (StrPost (txS e) W) := by
  refine ExAt.all (M := fun e A => cntE e ≤ 30000 → mayE nameB e = true → e.u < 18446744073709551616 → ∀ (c : Nat) (W : World), Below w0.heap.size w0 W → Calls Tryz.prog 17 #[exV e A c] W (StrPost (txS e) W)) ?_ e A h hq hm hu
  intro e A he ih hq hm hu c W hW
  obtain ⟨op, u, nm, ars⟩ := e
  have hs := Lib.hid (show ExsAt w0 ars A from he.args)
  have hq' := hq
  rw [cntE] at hq
  obtain ⟨hN, hU, hA, hall⟩ := mayE_node hm
  have ih' := Lib.hid (show ∀ (i : Nat) (x : Ex) (B : Option Addr), ars[i]? = some x → ExAt w0 x B → ∀ (C : Nat) (W' : World), Below w0.heap.size w0 W' → Calls Tryz.prog 17 #[exV x B C] W' (StrPost (txS x) W') from
    fun i x B hx hxe C W' hW' => ih i x B hx hxe (by have := cnt_mem (ars := ars) hx; omega) (hall x (List.mem_of_getElem? hx)) (he.args.u_lt hx) C W' hW')
  have hsz := txS_size (.node op u nm ars)
  have hEw := Lib.hid (hE.below hW)
  unfold exV
  dsimp only [Ex.op, Ex.u, Ex.nm, Ex.ars] at hu ⊢
  obtain ⟨n, hn⟩ : ∃ n, ars.length = n := ⟨_, rfl⟩
  rw [hn]
  obtain ⟨W1, hW1⟩ : ∃ W1, W.alloc (.cells #[.int .i64 op, .int .u64 u, .string nm, .slice A n c] 26) = W1 := ⟨_, rfl⟩
  have hb1 : Below W.heap.size W W1 := by rw [← hW1]; exact (Below.refl _ W).alloc (Nat.le_refl _) _
  have hx1 : W1.heap[W.heap.size]? = some (.cells #[.int .i64 op, .int .u64 u, .string nm, .slice A n c] 26 (0, 0)) := by rw [← hW1]; exact heap_alloc_new _ _
  have hW' := Lib.hid hW
  have hn' := Lib.hid hn
  have hb1 := Lib.hid hb1
  have hx1 := Lib.hid hx1
  have hW1' := Lib.hid hW1
  clear ih hW hW1 h he hall hN hU
  obtain ⟨g0, g1, g2, g3, gf⟩ := box4 hx1.out
  rcases op_cases hA with ⟨rfl, rfl⟩ | ⟨rfl, rfl⟩ | ⟨rfl, x, rfl⟩ | ⟨rfl, x, rfl⟩ | ⟨rfl, x, rfl⟩ | ⟨rfl, x, y, z, rfl⟩ | ⟨h1, h2, x, y, rfl⟩
  · have hf := Lib.hid (fmtU u hu W1 (hEw.out.tab.below hb1.out))
    have ht := Lib.hid (show txS (.node 1 u nm []) = numT u by
      unfold txS numT
      rw [txtE, if_pos rfl]
      unfold digD
      rw [if_pos hu])
    clear hA hn hsz hq hq' hm
    go_enter Tryz.func17, Tryz.ntmps17
    go_wp2_with fail
    rw [hW1'.out]
    go_wp2_with fail
    refine hf.out.mono ?_
    rintro e w2 ⟨rfl, hb2⟩
    go_wp2
    go_ret
    exact ⟨by rw [ht.out]; rfl, Below.next hb1.out hb2⟩
  · have ht := Lib.hid (show txS (.node 2 u nm []) = nm by
      unfold txS
      rw [txtE, if_neg (by decide), if_pos rfl])
    clear hA hn hsz hq hq' hm
    go_enter Tryz.func17, Tryz.ntmps17
    go_wp2_with fail
    rw [hW1'.out]
    go_wp2
    go_ret
    exact ⟨by rw [ht.out]; rfl, hb1.out⟩
  · have hc1 := cntE_pos x
    have hx := txS_size x
    rw [cntL, cntL] at hq
    have hz : nm.size + 1 + (txS x).size + 1 ≤ 1000000 := by omega
    have ht := Lib.hid (show nm ++ ⟨#[91]⟩ ++ txS x ++ ⟨#[93]⟩ = txS (.node 3 u nm [x]) by
      refine ba_ext ?_
      rw [txS_list, txtE, if_neg (by decide), if_neg (by decide), if_pos rfl, ba_app, ba_app, ba_app, txS_list]
      simp [txtL])
    have hbw := Lib.hid (hW'.out.trans (hb1.out.mono hW'.out.size))
    obtain ⟨blk, off, x', B, C, rfl, hx', v0, v1, v2, v3, hxe⟩ := (hs.out).at_ (k := 0) (by simp)
    cases hx'
    rw [show off + 0 * 4 = off by omega] at v0 v1 v2 v3
    have v0 := Sub.cell ((hbw.out.cell (p := ⟨blk, off, none⟩) (cell_some_lt v0)).trans v0)
    have v1 := Sub.cell ((hbw.out.cell (p := ⟨blk, off + 1, none⟩) (cell_some_lt v1)).trans v1)
    have v2 := Sub.cell ((hbw.out.cell (p := ⟨blk, off + 2, none⟩) (cell_some_lt v2)).trans v2)
    have v3 := Sub.cell ((hbw.out.cell (p := ⟨blk, off + 3, none⟩) (cell_some_lt v3)).trans v3)
    have hcl := fun s : Sub W1 => ih'.out 0 x B rfl hxe C s.val (hbw.out.trans (s.property.mono hbw.out.size))
    unfold exV at hcl
    have hcl := Lib.hid hcl
    have k0 := Sub.cell g0
    have k1 := Sub.cell g1
    have k2 := Sub.cell g2
    have k3 := Sub.cell g3
    simp only [List.length_cons, List.length_nil, Nat.zero_add] at hn
    subst hn
    clear hxe hA hm hsz hq hq' hc1 hx
    go_enter Tryz.func17, Tryz.ntmps17
    go_wp2_with fail
    rw [hW1'.out]
    go_wp2_with fail
    refine wp_region_below (by kernel_rfl) (by kernel_rfl) ?_
    repeat (go_big_quiet_step ((go_at_call 17; with_reducible exact Sub.call (hcl.out _))))
    refine wpQuiet_nil ?_
    rintro _ ⟨⟨w3, hb3⟩, rfl⟩
    rw [ht.out]
    have hfin := Lib.hid (Below.next hb1.out hb3)
    clear hb3
    go_wp2
    go_ret
    exact ⟨rfl, hfin.out⟩
  · have hc1 := cntE_pos x
    have hx := txS_size x
    rw [cntL, cntL] at hq
    have hz : 1 + (txS x).size ≤ 1000000 := by omega
    have ht := Lib.hid (show ⟨#[126]⟩ ++ txS x = txS (.node 4 u nm [x]) by
      refine ba_ext ?_
      rw [txS_list, txtE, if_neg (by decide), if_neg (by decide), if_neg (by decide), if_pos rfl, ba_app, txS_list]
      simp [txtL])
    have hbw := Lib.hid (hW'.out.trans (hb1.out.mono hW'.out.size))
    obtain ⟨blk, off, x', B, C, rfl, hx', v0, v1, v2, v3, hxe⟩ := (hs.out).at_ (k := 0) (by simp)
    cases hx'
    rw [show off + 0 * 4 = off by omega] at v0 v1 v2 v3
    have v0 := ((hbw.out.cell (p := ⟨blk, off, none⟩) (cell_some_lt v0)).trans v0)
    have v1 := ((hbw.out.cell (p := ⟨blk, off + 1, none⟩) (cell_some_lt v1)).trans v1)
    have v2 := ((hbw.out.cell (p := ⟨blk, off + 2, none⟩) (cell_some_lt v2)).trans v2)
    have v3 := ((hbw.out.cell (p := ⟨blk, off + 3, none⟩) (cell_some_lt v3)).trans v3)
    have hcl := ih'.out 0 x B rfl hxe C W1 hbw.out
    unfold exV at hcl
    have hcl := Lib.hid hcl
    simp only [List.length_cons, List.length_nil, Nat.zero_add] at hn
    subst hn
    clear hxe hA hm hsz hq hq' hc1 hx
    have hW2 := hW1'.out
    go_enter Tryz.func17, Tryz.ntmps17
    go_wp2_with fail
    refine hcl.out.mono ?_
    rintro e w2 ⟨rfl, hb2⟩
    go_wp2
    rw [ht.out]
    go_ret
    exact ⟨rfl, Below.next hb1.out hb2⟩
  · have hc1 := cntE_pos x
    have hx := txS_size x
    rw [cntL, cntL] at hq
    have hz : 1 + (txS x).size ≤ 1000000 := by omega
    have ht := Lib.hid (show ⟨#[45]⟩ ++ txS x = txS (.node 5 u nm [x]) by
      refine ba_ext ?_
      rw [txS_list, txtE, if_neg (by decide), if_neg (by decide), if_neg (by decide), if_neg (by decide), if_pos rfl, ba_app, txS_list]
      simp [txtL])
    have hbw := Lib.hid (hW'.out.trans (hb1.out.mono hW'.out.size))
    obtain ⟨blk, off, x', B, C, rfl, hx', v0, v1, v2, v3, hxe⟩ := (hs.out).at_ (k := 0) (by simp)
    cases hx'
    rw [show off + 0 * 4 = off by omega] at v0 v1 v2 v3
    have v0 := ((hbw.out.cell (p := ⟨blk, off, none⟩) (cell_some_lt v0)).trans v0)
    have v1 := ((hbw.out.cell (p := ⟨blk, off + 1, none⟩) (cell_some_lt v1)).trans v1)
    have v2 := ((hbw.out.cell (p := ⟨blk, off + 2, none⟩) (cell_some_lt v2)).trans v2)
    have v3 := ((hbw.out.cell (p := ⟨blk, off + 3, none⟩) (cell_some_lt v3)).trans v3)
    have hcl := ih'.out 0 x B rfl hxe C W1 hbw.out
    unfold exV at hcl
    have hcl := Lib.hid hcl
    simp only [List.length_cons, List.length_nil, Nat.zero_add] at hn
    subst hn
    clear hxe hA hm hsz hq hq' hc1 hx
    have hW2 := hW1'.out
    go_enter Tryz.func17, Tryz.ntmps17
    go_wp2_with fail
    refine hcl.out.mono ?_
    rintro e w2 ⟨rfl, hb2⟩
    go_wp2
    rw [ht.out]
    go_ret
    exact ⟨rfl, Below.next hb1.out hb2⟩
  · have hx := txS_size x
    have hy := txS_size y
    have hzz := txS_size z
    rw [cntL, cntL, cntL, cntL] at hq
    have hz : 5 + (txS x).size + 2 + (txS y).size + 2 + (txS z).size + 1 ≤ 1000000 := by omega
    have ht := Lib.hid (show ⟨#[112, 105, 99, 107, 40]⟩ ++ txS x ++ ⟨#[44, 32]⟩ ++ txS y ++ ⟨#[44, 32]⟩ ++ txS z ++ ⟨#[41]⟩ = txS (.node 21 u nm [x, y, z]) by
      refine ba_ext ?_
      rw [txS_list, txtE, if_neg (by decide), if_neg (by decide), if_neg (by decide), if_neg (by decide), if_neg (by decide), if_pos rfl]
      simp [txtL, commas, txS_list, ba_app])
    have hbw := Lib.hid (hW'.out.trans (hb1.out.mono hW'.out.size))
    obtain ⟨blk, off, x', B, C, rfl, hx', v0, v1, v2, v3, hxe⟩ := (hs.out).at_ (k := 0) (by simp)
    cases hx'
    rw [show off + 0 * 4 = off by omega] at v0 v1 v2 v3
    have v0 := Sub.cell ((hbw.out.cell (p := ⟨blk, off, none⟩) (cell_some_lt v0)).trans v0)
    have v1 := Sub.cell ((hbw.out.cell (p := ⟨blk, off + 1, none⟩) (cell_some_lt v1)).trans v1)
    have v2 := Sub.cell ((hbw.out.cell (p := ⟨blk, off + 2, none⟩) (cell_some_lt v2)).trans v2)
    have v3 := Sub.cell ((hbw.out.cell (p := ⟨blk, off + 3, none⟩) (cell_some_lt v3)).trans v3)
    have hcl := fun s : Sub W1 => ih'.out 0 x B rfl hxe C s.val (hbw.out.trans (s.property.mono hbw.out.size))
    unfold exV at hcl
    have hcl := Lib.hid hcl
    obtain ⟨blk', off', x', By, Cy, eAy, hx', v0y, v1y, v2y, v3y, hxey⟩ := (hs.out).at_ (k := 1) (by simp)
    cases hx'
    cases eAy
    rw [show off + 1 * 4 = off + 4 by omega] at v0y v1y v2y v3y
    rw [show off + 4 + 1 = off + 5 by omega] at v1y
    rw [show off + 4 + 2 = off + 6 by omega] at v2y
    rw [show off + 4 + 3 = off + 7 by omega] at v3y
    have v0y := Sub.cell ((hbw.out.cell (p := ⟨blk, off + 4, none⟩) (cell_some_lt v0y)).trans v0y)
    have v1y := Sub.cell ((hbw.out.cell (p := ⟨blk, off + 5, none⟩) (cell_some_lt v1y)).trans v1y)
    have v2y := Sub.cell ((hbw.out.cell (p := ⟨blk, off + 6, none⟩) (cell_some_lt v2y)).trans v2y)
    have v3y := Sub.cell ((hbw.out.cell (p := ⟨blk, off + 7, none⟩) (cell_some_lt v3y)).trans v3y)
    have hcly := fun s : Sub W1 => ih'.out 1 y By rfl hxey Cy s.val (hbw.out.trans (s.property.mono hbw.out.size))
    unfold exV at hcly
    have hcly := Lib.hid hcly
    obtain ⟨blk', off', x', Bz, Cz, eAz, hx', v0z, v1z, v2z, v3z, hxez⟩ := (hs.out).at_ (k := 2) (by simp)
    cases hx'
    cases eAz
    rw [show off + 2 * 4 = off + 8 by omega] at v0z v1z v2z v3z
    rw [show off + 8 + 1 = off + 9 by omega] at v1z
    rw [show off + 8 + 2 = off + 10 by omega] at v2z
    rw [show off + 8 + 3 = off + 11 by omega] at v3z
    have v0z := Sub.cell ((hbw.out.cell (p := ⟨blk, off + 8, none⟩) (cell_some_lt v0z)).trans v0z)
    have v1z := Sub.cell ((hbw.out.cell (p := ⟨blk, off + 9, none⟩) (cell_some_lt v1z)).trans v1z)
    have v2z := Sub.cell ((hbw.out.cell (p := ⟨blk, off + 10, none⟩) (cell_some_lt v2z)).trans v2z)
    have v3z := Sub.cell ((hbw.out.cell (p := ⟨blk, off + 11, none⟩) (cell_some_lt v3z)).trans v3z)
    have hclz := fun s : Sub W1 => ih'.out 2 z Bz rfl hxez Cz s.val (hbw.out.trans (s.property.mono hbw.out.size))
    unfold exV at hclz
    have hclz := Lib.hid hclz
    have k0 := Sub.cell g0
    have k1 := Sub.cell g1
    have k2 := Sub.cell g2
    have k3 := Sub.cell g3
    simp only [List.length_cons, List.length_nil, Nat.zero_add, Nat.reduceAdd] at hn
    subst hn
    clear hxe hxey hxez hA hm hsz hq hq' hx hy hzz
    go_enter Tryz.func17, Tryz.ntmps17
    go_wp2_with fail
    rw [hW1'.out]
    go_wp2_with fail
    refine wp_region_below (by kernel_rfl) (by kernel_rfl) ?_
    repeat (go_big_quiet_step ((first | (go_at_call 17; with_reducible exact Sub.call (hcl.out _)) | (go_at_call 17; with_reducible exact Sub.call (hcly.out _)) | (go_at_call 17; with_reducible exact Sub.call (hclz.out _)))))
    refine wpQuiet_nil ?_
    rintro _ ⟨⟨w3, hb3⟩, rfl⟩
    rw [ht.out]
    have hfin := Lib.hid (Below.next hb1.out hb3)
    clear hb3
    go_wp2
    go_ret
    exact ⟨rfl, hfin.out⟩
  · have hx := txS_size x
    have hy := txS_size y
    rw [cntL, cntL, cntL] at hq
    have hsg : sgnT op = ⟨(signT op).toArray⟩ := by
      unfold sgnT sgnB
      rw [decide_eq_true h1, decide_eq_true h2]
      rfl
    have hsl : (sgnT op).size ≤ 4 := by
      rw [hsg, ← size_list]
      exact signT_len op
    have hz : 1 + (txS x).size + 1 + (sgnT op).size + 1 + (txS y).size + 1 ≤ 1000000 := by omega
    have ht := Lib.hid (show ⟨#[40]⟩ ++ txS x ++ ⟨#[32]⟩ ++ sgnT op ++ ⟨#[32]⟩ ++ txS y ++ ⟨#[41]⟩ = txS (.node op u nm [x, y]) by
      refine ba_ext ?_
      rw [txS_list, txtE, if_neg (by omega), if_neg (by omega), if_neg (by omega), if_neg (by omega), if_neg (by omega), if_neg (by omega), hsg]
      simp [txtL, txS_list, ba_app])
    have o1 := int_ne (show op ≠ 1 by omega)
    have o2 := int_ne (show op ≠ 2 by omega)
    have o3 := int_ne (show op ≠ 3 by omega)
    have o4 := int_ne (show op ≠ 4 by omega)
    have o5 := int_ne (show op ≠ 5 by omega)
    have o6 := int_ne (show op ≠ 21 by omega)
    have hbw := Lib.hid (hW'.out.trans (hb1.out.mono hW'.out.size))
    have hsn := Lib.hid (fun s : Sub W1 => refSign_any op s.val)
    generalize sgnT op = st at hsn hz ht
    obtain ⟨blk, off, x', B, C, rfl, hx', v0, v1, v2, v3, hxe⟩ := (hs.out).at_ (k := 0) (by simp)
    cases hx'
    rw [show off + 0 * 4 = off by omega] at v0 v1 v2 v3
    have v0 := Sub.cell ((hbw.out.cell (p := ⟨blk, off, none⟩) (cell_some_lt v0)).trans v0)
    have v1 := Sub.cell ((hbw.out.cell (p := ⟨blk, off + 1, none⟩) (cell_some_lt v1)).trans v1)
    have v2 := Sub.cell ((hbw.out.cell (p := ⟨blk, off + 2, none⟩) (cell_some_lt v2)).trans v2)
    have v3 := Sub.cell ((hbw.out.cell (p := ⟨blk, off + 3, none⟩) (cell_some_lt v3)).trans v3)
    have hcl := fun s : Sub W1 => ih'.out 0 x B rfl hxe C s.val (hbw.out.trans (s.property.mono hbw.out.size))
    unfold exV at hcl
    have hcl := Lib.hid hcl
    obtain ⟨blk', off', x', By, Cy, eAy, hx', v0y, v1y, v2y, v3y, hxey⟩ := (hs.out).at_ (k := 1) (by simp)
    cases hx'
    cases eAy
    rw [show off + 1 * 4 = off + 4 by omega] at v0y v1y v2y v3y
    rw [show off + 4 + 1 = off + 5 by omega] at v1y
    rw [show off + 4 + 2 = off + 6 by omega] at v2y
    rw [show off + 4 + 3 = off + 7 by omega] at v3y
    have v0y := Sub.cell ((hbw.out.cell (p := ⟨blk, off + 4, none⟩) (cell_some_lt v0y)).trans v0y)
    have v1y := Sub.cell ((hbw.out.cell (p := ⟨blk, off + 5, none⟩) (cell_some_lt v1y)).trans v1y)
    have v2y := Sub.cell ((hbw.out.cell (p := ⟨blk, off + 6, none⟩) (cell_some_lt v2y)).trans v2y)
    have v3y := Sub.cell ((hbw.out.cell (p := ⟨blk, off + 7, none⟩) (cell_some_lt v3y)).trans v3y)
    have hcly := fun s : Sub W1 => ih'.out 1 y By rfl hxey Cy s.val (hbw.out.trans (s.property.mono hbw.out.size))
    unfold exV at hcly
    have hcly := Lib.hid hcly
    have k0 := Sub.cell g0
    have k1 := Sub.cell g1
    have k2 := Sub.cell g2
    have k3 := Sub.cell g3
    simp only [List.length_cons, List.length_nil, Nat.zero_add, Nat.reduceAdd] at hn
    subst hn
    clear hxe hxey hA hm hsz hq hq' hx hy h1 h2 hsg hsl
    go_enter Tryz.func17, Tryz.ntmps17
    go_wp2_with fail
    rw [hW1'.out]
    go_wp2_with fail
    refine wp_region_below (by kernel_rfl) (by kernel_rfl) ?_
    repeat (go_big_quiet_step ((first | (go_at_call 17; with_reducible exact Sub.call (hcl.out _)) | (go_at_call 17; with_reducible exact Sub.call (hcly.out _)) | (go_at_call 32; with_reducible exact Sub.call (hsn.out _)))))
    refine wpQuiet_nil ?_
    rintro _ ⟨⟨w3, hb3⟩, rfl⟩
    rw [ht.out]
    have hfin := Lib.hid (Below.next hb1.out hb3)
    clear hb3
    go_wp2
    go_ret
    exact ⟨rfl, hfin.out⟩
end Go.Proofs.YtnahgfdoiflacaaGreatDoor
