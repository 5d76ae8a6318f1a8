/- The walk of PrettyTabs. -/
import Derived.Test.YtnahgfdoiflacaaGreatDoorY
import Derived.Test.YtnahgfdoiflacaaGreatDoorCI
import Derived.Test.YtnahgfdoiflacaaGreatDoorEC
import Derived.Test.YtnahgfdoiflacaaGreatDoorFD
import Derived.Sort.CutIn
set_option linter.unusedSimpArgs false
set_option linter.unusedVariables false
namespace Go.Proofs.YtnahgfdoiflacaaGreatDoor
open Go.RowKit Go.Lib Go.Shelf

theorem iter_tabs {w : World} {L : List St} {A : Option Addr} (h : StsAt w L A) : okT (depSs L) 0 (iterL L) ∧ finT 0 (iterL L) = 0 := by
  unfold iterL
  split
  · rename_i hm
    unfold mayT at hm
    simp only [Bool.and_eq_true] at hm
    exact tabs_law _ L (Nat.le_refl _) hm.2 (uSs_at h) 0 _ (by omega)
  · exact ⟨trivial, rfl⟩
theorem longS_any (w0 : World) (L : List St) (A : Option Addr) (h : StsAt w0 L A) (c : Nat) (W : World) (hW : Below w0.heap.size w0 W) :
    Calls Tryz.prog 29 #[.slice A L.length c, .int .i64 5000] W (LongPost (cntSs L) 5000 W) := by
  have hk := Lib.hid (countS_any w0 L A h 5000 c W (by omega) hW)
  generalize L.length = n at hk ⊢
  generalize cntSs L = d at hk ⊢
  clear h hW
  unfold LongPost
  go_enter Tryz.func29, Tryz.ntmps29
  go_wp2_with fail
  refine hk.out.mono ?_
  rintro e w' ⟨r, rfl, hr1, hr2, hb⟩
  have hr2 := Lib.hid hr2
  go_wp2
  go_ret
  exact ⟨decide ((5000 : Int) < (r : Int)), rfl, fun h => by have h := of_decide_eq_false h; have := hr2.out (by omega); omega, hb⟩
attribute [local go_sem] Oper.semAt_some
def Box1 (W : World) (b : Nat) (t : TypeId) (v : Value) : Prop := W.heap[b]? = some (.cells #[v] t (0, 0))
theorem Box1.c {W : World} {b : Nat} {t : TypeId} {v : Value} (h : Box1 W b t v) : W.cell? ⟨b, 0, none⟩ = some v := by rw [blk_cell h]; rfl
theorem Box1.f {W : World} {b : Nat} {t : TypeId} {v : Value} (h : Box1 W b t v) : W.frozen? ⟨b, 0, none⟩ = false := by simp [World.frozen?, show W.heap[b]? = _ from h]
theorem Box1.set {W : World} {b : Nat} {t : TypeId} {v u : Value} (h : Box1 W b t v) : Box1 (W.setCell ⟨b, 0, none⟩ u) b t u := by
  unfold Box1 at *
  simp [World.setCell, Array.getElem?_modify, h]
theorem Box1.alloc {W : World} {b : Nat} {t : TypeId} {v : Value} (h : Box1 W b t v) (o : Obj) : Box1 (W.alloc o) b t v := (heap_alloc_old _ _ (blk_lt h)).trans h
theorem Box1.other {W : World} {b b' : Nat} {t : TypeId} {v : Value} (h : Box1 W b t v) (hne : b ≠ b') (u : Value) : Box1 (W.setCell ⟨b', 0, none⟩ u) b t v := (Go.Deep.blk_setCell_other _ _ _ _ (by simp <;> omega)).trans h
theorem Box1.go {W W' : World} {b B : Nat} {t : TypeId} {v : Value} (h : Box1 W b t v) (hb : Below B W W') (hB : b < B) : Box1 W' b t v := (hb.block _ hB).trans h
theorem Box1.put {W : World} {b l : Nat} {t : TypeId} {v : Value} {o : Obj} (h : Box1 W b t v) (hl : W.heap[l]? = some o) (ho : o.isCells = false) (o' : Obj) : Box1 (W.putObj l o') b t v := by
  refine (World.putObj_heap_other ?_).trans h
  rintro rfl
  unfold Box1 at h
  rw [hl] at h
  cases h
  cases ho
/-- the law's own cells, as they stand before a line: the answer, how deep, how many braces are open -/
structure TabI (w : World) (a d : Nat) (D : Nat) (o : Int) (V : World) : Prop where
  bel : Below w.heap.size w V
  ca : Box1 V a 4 (.bool false)
  cd : Box1 V d 3 (.int .i64 (D : Int))
  co : Box1 V (d + 1) 3 (.int .i64 o)
theorem TabI.go {w : World} {a d D : Nat} {o : Int} {V V' : World} (h : TabI w a d D o V) (hb : Below V.heap.size V V') : TabI w a d D o V' :=
  ⟨Below.next h.bel hb, h.ca.go hb (blk_lt h.ca), h.cd.go hb (blk_lt h.cd), h.co.go hb (blk_lt h.co)⟩
theorem TabI.put {w : World} {a d D : Nat} {n : Int} {V : World} (h : TabI w a d D n V) {l : Nat} {o : Obj} (hw : w.heap.size ≤ l) (hl : V.heap[l]? = some o) (ho : o.isCells = false) (o' : Obj) : TabI w a d D n (V.putObj l o') :=
  ⟨below_put h.bel hw o', h.ca.put hl ho o', h.cd.put hl ho o', h.co.put hl ho o'⟩
theorem TabI.step {w : World} {a d D : Nat} {o : Int} {V : World} (h : TabI w a d D o V) (had : a < d) (hwd : w.heap.size ≤ d) (u : Int) : TabI w a d D u (V.setCell ⟨d + 1, 0, none⟩ (.int .i64 u)) :=
  ⟨h.bel.setCell (p := ⟨d + 1, 0, none⟩) (Nat.le_succ_of_le hwd) _, h.ca.other (by omega) _, h.cd.other (by omega) _, h.co.set⟩
theorem set_size (w : World) (b o : Nat) (v : Value) : (w.setCell ⟨b, o, none⟩ v).heap.size = w.heap.size := by simp [World.setCell]
theorem u8_ne {b c : UInt8} (h : b ≠ c) : ((b.toNat : Int) == (c.toNat : Int)) = false := by
  rw [beq_eq_false_iff_ne]
  intro e
  exact h (UInt8.toNat_inj.1 (by omega))
theorem u8_eq {b c : UInt8} (h : ((b.toNat : Int) == (c.toNat : Int)) = true) : b = c := UInt8.toNat_inj.1 (by have := beq_iff_eq.1 h; omega)
theorem u8_neq {b c : UInt8} (h : ((b.toNat : Int) == (c.toNat : Int)) = false) : b ≠ c := fun e => by rw [e] at h; simp at h
theorem run_it_nil (p : Addr) (w : World) : (binOp BinOp.eql 63 (.func (.func 81) #[] #[.pointer (some p)]) .nilFunc).run Tryz.prog w = .ok (.bool false) w := by kernel_rfl
theorem w64 (n : Nat) (h : n ≤ 2000000) : wrap64 (n : Int) = (n : Int) := Go.IntWalk.wrap64_in _ ⟨by omega, by omega⟩
theorem w64s (n : Nat) (h : n ≤ 2000000) : wrap64 ((n : Int) + 1) = (n : Int) + 1 := Go.IntWalk.wrap64_in _ ⟨by omega, by omega⟩
theorem kp_set {B C b : Nat} {W : World} {v : Value} (hB : B ≤ b) (hC : b < C) : Kp B C W (W.setCell ⟨b, 0, none⟩ v) :=
  ⟨(Below.refl _ W).setCell (p := ⟨b, 0, none⟩) hB _, fun k o hk ho _ => (Go.Deep.blk_setCell_other _ _ _ _ (by simp <;> omega)).trans ho⟩

set_option maxRecDepth 100000 in
set_option maxHeartbeats 32000000 in
theorem prettyTabs_any (L : List St) (A : Option Addr) (c : Nat) (W : World) (hE : Env W) (hL : StsAt W L A) : Calls Tryz.prog 7 #[.slice A L.length c] W (BoolPost true W) := by
  have hk := Lib.hid (fun (W2 : World) (hb : Below W.heap.size W W2) => known_any W2 (hE.below hb))
  have hlong := fun (V : World) (hb : Below W.heap.size W V) => longS_any W L A hL c V hb
  have hdeep := fun (hc : cntSs L ≤ 30000) (V : World) (hb : Below W.heap.size W V) => deep28_any W L A hL c V hc hb
  have htab := iter_tabs hL
  have hlen := linesL_ok hL 0
  obtain ⟨n, hn⟩ : ∃ n, L.length = n := ⟨_, rfl⟩
  obtain ⟨D, hD⟩ : ∃ D, depSs L = D := ⟨_, rfl⟩
  rw [hn] at hlong hdeep ⊢
  rw [hD] at htab hdeep
  have hDz : D ≤ cntSs L := by rw [← hD]; exact depSs_le _ L (Nat.le_refl _)
  replace hlong := Lib.hid hlong
  have hn' := Lib.hid hn
  have hdeep0 := Lib.hid hdeep
  have htab0 := Lib.hid htab
  have hlen0 := Lib.hid hlen
  have hDz0 := Lib.hid hDz
  have hL0 := Lib.hid hL
  have hE0 := Lib.hid hE
  clear hdeep htab hlen hDz hL hE hn hD
  obtain ⟨W1, hW1⟩ : ∃ W1, W.alloc (.cells #[.bool false] 4) = W1 := ⟨_, rfl⟩
  have hb1 : Below W.heap.size W W1 := by rw [← hW1]; exact (Below.refl _ W).alloc (Nat.le_refl _) _
  have hX1 : W1.heap[W.heap.size]? = some (.cells #[.bool false] 4 (0, 0)) := by rw [← hW1]; exact heap_alloc_new _ _
  obtain ⟨a, ha⟩ : ∃ a, W.heap.size = a := ⟨_, rfl⟩
  rw [ha] at hX1
  have ox : W1.cell? ⟨a, 0, none⟩ = some (.bool false) := by rw [blk_cell hX1]; rfl
  have hb1 := Lib.hid hb1
  have hX1 := Lib.hid hX1
  refine (callsIn_wide (n := 8)).1 (callsIn_of_wp_marks Tryz.func7 rfl trivial ?_ rfl)
  simp only [Tryz.ntmps7, List.size_toArray, List.length_cons, List.length_nil, Nat.reduceAdd, Nat.reduceSub, Array.replicate_succ, Array.replicate_zero, List.push_toArray, List.append_toArray, List.nil_append, List.cons_append]
  refine wpIn_wide.2 ?_
  go_wp2_with fail
  refine (hlong.out _ hb1.out).mono ?_
  rintro e w3 ⟨b1, rfl, hq1, hb3⟩
  have hq1 := Lib.hid hq1
  have hX3 := Lib.hid (show Box1 w3 a 4 (.bool false) from (hb3.block _ (blk_lt hX1.out)).trans hX1.out)
  replace hb3 := Lib.hid (Below.next hb1.out hb3)
  clear ox
  have ox := hX3.out.c
  have alo := Lib.hid (show W.heap.size ≤ a by omega)
  clear ha hW1
  cases b1
  rotate_left
  · as_aux_lemma =>
      go_wp2_with fail
      refine (hk.out _ hb3.out).mono ?_
      rintro e w4 ⟨rfl, hb4⟩
      have hX4 : Box1 w4 a 4 (.bool false) := hX3.out.go hb4 (blk_lt hX3.out)
      have hb4 := Below.next hb3.out hb4
      clear ox
      have ox := hX4.c
      have of_ := hX4.f
      have ox5 := hX4.set (u := .bool true)
      have hb5 := hb4.setCell (p := ⟨a, 0, none⟩) alo.out (.bool true)
      have oy := ox5.c
      have hb5 := Lib.hid hb5
      clear hX4 ox5 hb4
      go_wp2_with fail
      exact ⟨_, by simp [results, Tryz.f7, go_sem, oy], rfl, hb5.out⟩
  have hc := Lib.hid (show cntSs L ≤ 5000 from hq1.out rfl)
  have h30 := Lib.hid (lines30_any A n c w3)
  clear hq1
  go_wp2_with fail
  refine h30.out.mono ?_
  rintro e w4 ⟨rfl, hw4⟩
  have hb4 : Below w3.heap.size w3 w4 := by rw [hw4]; exact (Below.refl _ w3).alloc (Nat.le_refl _) _
  obtain ⟨b, hb⟩ : ∃ b, w3.heap.size = b := ⟨_, rfl⟩
  have hbx : w4.heap[b]? = some (.cells #[.slice A L.length c] 48 (0, 0)) := by rw [hw4, ← hb, hn'.out]; exact heap_alloc_new _ _
  have hX4 : Box1 w4 a 4 (.bool false) := hX3.out.go hb4 (blk_lt hX3.out)
  have hb4 := Below.next hb3.out hb4
  clear ox
  have hX4 := Lib.hid hX4
  have hb4 := Lib.hid hb4
  have hbx := Lib.hid hbx
  have hrn := run_it_nil
  clear hw4 h30 hX3 hb3
  rw [hb]
  go_wp2_with fail
  refine (hdeep0.out (by have := hc.out; omega) _ hb4.out).mono ?_
  rintro e w5 ⟨rfl, hb5⟩
  have hbx5 := (hb5.block _ (blk_lt hbx.out)).trans hbx.out
  have hX5 := hX4.out.go hb5 (blk_lt hX4.out)
  have hb5 := Below.next hb4.out hb5
  obtain ⟨d, hd⟩ : ∃ d, w5.heap.size = d := ⟨_, rfl⟩
  obtain ⟨W6, hW6⟩ : ∃ W6, (w5.alloc (.cells #[.int .i64 0] 3)).alloc (.cells #[.int .i64 0] 3) = W6 := ⟨_, rfl⟩
  have s6 : W6.heap.size = d + 1 + 1 := by rw [← hW6, ← hd]; simp
  have y4 : Box1 W6 d 3 (.int .i64 0) := by rw [← hW6, ← hd]; exact Box1.alloc (heap_alloc_new _ _) _
  have y5 : Box1 W6 (d + 1) 3 (.int .i64 0) := by
    have h := heap_alloc_new (w5.alloc (.cells #[.int .i64 0] 3)) (.cells #[.int .i64 0] 3)
    have e : (w5.alloc (.cells #[.int .i64 0] 3)).heap.size = d + 1 := by rw [← hd]; simp
    rw [e, hW6] at h
    exact h
  have hb56 : Below w5.heap.size w5 W6 := by rw [← hW6]; exact ((Below.refl _ w5).alloc (Nat.le_refl _) _).alloc (by simp) _
  have hbx6 := (hb56.block _ (blk_lt hbx5)).trans hbx5
  have hX6 := hX5.go hb56 (blk_lt hX5)
  have hb6 := Below.next hb5 hb56
  have had : a < d := by rw [← hd]; exact blk_lt hX5
  have hbd : b < d := by rw [← hd]; exact blk_lt hbx5
  have hwd : W.heap.size ≤ d := by rw [← hd]; exact hb5.size
  obtain ⟨W7, hW7⟩ : ∃ W7, (W6.setCell ⟨d, 0, none⟩ (.int .i64 (D : Int))).setCell ⟨d + 1, 0, none⟩ (.int .i64 0) = W7 := ⟨_, rfl⟩
  have hI : TabI W a d D 0 W7 := by
    rw [← hW7]
    exact ⟨(hb6.setCell (p := ⟨d, 0, none⟩) hwd _).setCell (p := ⟨d + 1, 0, none⟩) (Nat.le_succ_of_le hwd) _, (hX6.other (by omega) _).other (by omega) _, (y4.set (u := .int .i64 (D : Int))).other (by omega) _, (y5.other (by omega) _).set⟩
  have hbx7 : W7.heap[b]? = some (.cells #[.slice A L.length c] 48 (0, 0)) := by
    rw [← hW7]
    exact (Go.Deep.blk_setCell_other _ _ _ _ (by simp <;> omega)).trans ((Go.Deep.blk_setCell_other _ _ _ _ (by simp <;> omega)).trans hbx6)
  have hs7 : W7.heap.size = d + 1 + 1 := by rw [← hW7, ← s6]; simp [World.setCell]
  have z4 := y4.f
  have z5 : (W6.setCell ⟨d, 0, none⟩ (.int .i64 (D : Int))).frozen? ⟨d + 1, 0, none⟩ = false := (y5.other (by omega) _).f
  have z4c := y4.c
  have z5c : (W6.setCell ⟨d, 0, none⟩ (.int .i64 (D : Int))).cell? ⟨d + 1, 0, none⟩ = some (.int .i64 0) := (y5.other (by omega) _).c
  have hI := Lib.hid hI
  have hbx7 := Lib.hid hbx7
  have hs7 := Lib.hid hs7
  have hW7' := Lib.hid hW7
  have had := Lib.hid had
  have hwd := Lib.hid hwd
  clear y4 y5 hb56 hbx6 hX6 hb6 hbd hbx5 hX5 hb5 s6 hbx hX4 hb4 hb
  go_wp2_with fail
  refine (wpIn_wide (n := 8)).1 (wpIn_range_lines W hE0.out L A c b hL0.out (by have := hc.out; omega) ?bel ?hbx rfl (fun pre V => TabI W a d D (finT 0 pre) V ∧ d + 1 + 1 ≤ V.heap.size) ?grow ?put ?i0 (fun y => #[.slice A n c, undef, .pointer (some ⟨a, 0, none⟩), .func (.func 81) #[] #[.pointer (some ⟨b, 0, none⟩)], .pointer (some ⟨d, 0, none⟩), .pointer (some ⟨d + 1, 0, none⟩), .int .i64 (y.1 : Int), .string y.2, .slice A n c, .bool false, undef, .slice A n c, .func (.func 81) #[] #[.pointer (some ⟨b, 0, none⟩)], .func (.func 81) #[] #[.pointer (some ⟨b, 0, none⟩)], .bool false, .slice A n c, .int .i64 (D : Int), .func (.func 81) #[] #[.pointer (some ⟨b, 0, none⟩)], .int .i64 (y.1 : Int), .string y.2, undef, undef, undef, undef, undef, undef, undef, undef, undef, undef, undef, undef, undef, undef, undef, undef, undef, undef, undef, undef, undef, undef, undef, undef, undef, undef, undef, undef, undef, undef, undef, undef, undef]) ?assign ?body ?done)

  case bel => exact hI.out.bel
  case hbx => exact hbx7.out
  case i0 => exact ⟨hI.out, by have := hs7.out; omega⟩
  case grow => exact fun xs V V' h _ hb => ⟨h.1.go hb, Nat.le_trans h.2 hb.size⟩
  case put => exact fun xs V l o o' h hl hlo ho => ⟨h.1.put (Nat.le_trans hI.out.bel.size hl) hlo ho o', by simpa [World.putObj] using h.2⟩
  case assign =>
    intro l x V K hK
    have hK' := Lib.hid hK
    clear hK
    gi_wp2
    exact hK'.out
  case body =>
    rintro l pre y rest V hl hV ⟨hJ, hJs⟩ hpre
    obtain ⟨t, s⟩ := y
    have hok := htab0.out.1
    rw [← hpre, okT_app] at hok
    obtain ⟨⟨s0, s1, s2⟩, _⟩ := hok.2
    dsimp only at s0 s1 s2
    have hco := hJ.co
    have hfin : finT 0 (pre ++ [(t, s)]) = nxtI (finT 0 pre) s := by rw [finT_app]; rfl
    generalize finT 0 pre = o at hJ hco s1 hfin
    have x4 := hJ.cd.c
    have x5 := hco.c
    have f5 := hco.f
    have e1 : ¬ ((t : Int) < 0) := by omega
    have e2 : ¬ ((D : Int) ≤ (t : Int)) := by omega
    have hJ' := Lib.hid hJ
    have hco' := Lib.hid hco
    replace s1 := Lib.hid s1
    replace hfin := Lib.hid hfin
    replace hpre := Lib.hid hpre
    clear hok hJ hco
    have hs0 : ((s.size : Int) == 0) = false := by
      rw [beq_eq_false_iff_ne]; omega
    have hs1 : 0 < s.size := by omega
    have hss : s.size ≤ 1000000 := by
      have hm : (t, s) ∈ iterL L := by rw [← hpre.out]; simp
      unfold iterL at hm
      split at hm
      · have h2 : s.size ≤ 24 * cntSs L + 100 := (hlen0.out.2 _ hm).2
        have := hc.out
        omega
      · cases hm
    have htb : t ≤ 5000 := by have := hDz0.out; have := hc.out; omega
    have ht2 : t ≤ 2000000 := by omega
    have hne : ((t : Int) != (t : Int)) = false := bne_self_eq_false _
    obtain ⟨m, hm⟩ : ∃ m, s.size = m + 1 := ⟨s.size - 1, by omega⟩
    have hs2 : m < s.size := by omega
    have hm2 : m ≤ 2000000 := by omega
    obtain ⟨b0, hb0⟩ : ∃ b0, s[0]'hs1 = b0 := ⟨_, rfl⟩
    obtain ⟨bz, hbz⟩ : ∃ bz, s[m]'hs2 = bz := ⟨_, rfl⟩
    have hh : s.data.toList.head? = some b0 := by
      rw [List.head?_eq_getElem?, Array.getElem?_toList, Array.getElem?_eq_getElem (show 0 < s.data.size from hs1), ← hb0]
      rfl
    have hl2 : s.data.toList.getLast? = some bz := by
      rw [List.getLast?_eq_getElem?, Array.getElem?_toList, Array.length_toList, show s.data.size - 1 = m by have e : s.data.size = m + 1 := hm; omega, Array.getElem?_eq_getElem (show m < s.data.size from hs2), ← hbz]
      rfl
    replace s1 := s1.out
    unfold fstI at s1
    rw [hh] at s1
    have hfz : nxtI o s = if bz = 123 then (t : Int) + 1 else t := by
      unfold nxtI fstI
      rw [hh, hl2, s1]
      simp only [Option.some.injEq]
    have hrd : ∀ (u : Int) (a' : Act) (V' : World), Kp W.heap.size W7.heap.size V V' → TabI W a d D u V' → nxtI o s = u → roundL W.heap.size W7.heap.size (fun pre V => TabI W a d D (finT 0 pre) V ∧ d + 1 + 1 ≤ V.heap.size) (pre ++ [(t, s)]) V .normal a' V' := fun u a' V' hk' hT hu =>
      ⟨hk', by rw [hfin.out, hu]; exact hT, by have := hk'.below.size; omega⟩
    have hks := fun (V' : World) (u : Value) => (kp_set (Nat.le_succ_of_le hwd.out) (by rw [hs7.out]; exact Nat.lt_succ_self (d + 1)) : Kp W.heap.size W7.heap.size V' (V'.setCell ⟨d + 1, 0, none⟩ u))
    by_cases hB : b0 = 125
    · have hb1 : ((b0.toNat : Int) == 125) = true := by rw [hB]; decide
      rw [if_pos (by rw [hB])] at s1
      obtain rfl : o = (t : Int) + 1 := by omega
      have hT1 := hJ'.out.step had.out hwd.out (t : Int)
      have hT2 := hT1.step had.out hwd.out ((t : Int) + 1)
      have en := Lib.hid (fun (h : ((bz.toNat : Int) == 123) = false) a' => hrd t a' _ (hks V _) hT1 (by rw [hfz, if_neg (u8_neq (c := 123) h)]))
      have ey := Lib.hid (fun (h : ((bz.toNat : Int) == 123) = true) a' => hrd ((t : Int) + 1) a' _ ((hks V _).trans (hks _ _)) hT2 (by rw [hfz, if_pos (u8_eq (c := 123) h)]))
      clear s0 hss htb s1 hh hl2 hB hrd hks hfz hT1 hT2
      subst hb0 hbz
      gi_wp2_with fail
      all_goals first | (have hq : (((s[m]'hs2).toNat : Int) == 123) = false := (by assumption); exact en.out hq _) | (have hq : (((s[m]'hs2).toNat : Int) == 123) = true := (by assumption); exact ey.out hq _)
    · have hb1 : ((b0.toNat : Int) == 125) = false := u8_ne (c := 125) hB
      rw [if_neg (fun e => hB (Option.some.inj e))] at s1
      obtain rfl : o = (t : Int) := s1
      have hT2 := hJ'.out.step had.out hwd.out ((t : Int) + 1)
      have en := Lib.hid (fun (h : ((bz.toNat : Int) == 123) = false) a' => hrd t a' _ (Kp.refl _ _ V) hJ'.out (by rw [hfz, if_neg (u8_neq (c := 123) h)]))
      have ey := Lib.hid (fun (h : ((bz.toNat : Int) == 123) = true) a' => hrd ((t : Int) + 1) a' _ (hks V _) hT2 (by rw [hfz, if_pos (u8_eq (c := 123) h)]))
      clear s0 hss htb hh hl2 hB hrd hks hfz hT2
      subst hb0 hbz
      gi_wp2_with fail
      all_goals first | (have hq : (((s[m]'hs2).toNat : Int) == 123) = false := (by assumption); exact en.out hq _) | (have hq : (((s[m]'hs2).toNat : Int) == 123) = true := (by assumption); exact ey.out hq _)
  case done =>
    rintro De V hDe ⟨hJ, hJs⟩ hK
    rw [htab0.out.2] at hJ
    have x5 := hJ.co.c
    have xa := hJ.ca
    have hkn := hk.out V hJ.bel
    have hJ := Lib.hid hJ
    have hK := Lib.hid hK
    go_wp2_with fail
    refine hkn.mono ?_
    rintro e V2 ⟨rfl, hb8⟩
    have xa2 := xa.go hb8 (blk_lt xa)
    have fa2 := xa2.f
    have ca2 := xa2.c
    have hD2 : (V2.setCell ⟨a, 0, none⟩ (.bool true)).heap[De]? = some (.deferred (some [])) := by
      have hne : De ≠ a := by rintro rfl; have h := xa; unfold Box1 at h; rw [hK.out] at h; cases h
      exact (Go.Deep.blk_setCell_other _ _ _ _ (by simp; exact hne)).trans ((hb8.block _ (blk_lt hK.out)).trans hK.out)
    have xa3 := xa2.set (u := .bool true)
    have oy := (xa3.put hD2 rfl (.deferred none)).c
    have hbl := Lib.hid ((Below.next hJ.out.bel hb8).setCell (p := ⟨a, 0, none⟩) alo.out (.bool true))
    have hD2 := Lib.hid hD2
    have hlo := Lib.hid (show W.heap.size ≤ De from Nat.le_trans hI.out.bel.size hDe)
    clear xa x5 hkn hb8 xa2 xa3
    go_wp2_with fail
    exact leaves_marks [De] _ (fun D' hD' => by rw [List.mem_singleton.1 hD']; exact hD2.out) (by simp) ⟨_, by simp [results, Tryz.f7, go_sem, shutAll, oy], rfl, shut_below [De] _ (fun D' hD' => by rw [List.mem_singleton.1 hD']; exact hlo.out) hbl.out⟩
end Go.Proofs.YtnahgfdoiflacaaGreatDoor
