/- The token at a place: one. -/
import Derived.Test.YtmkfoknhjjgipaaDoorE
set_option linter.unusedSimpArgs false
set_option linter.unusedVariables false
namespace Go.Proofs.YtmkfoknhjjgipaaDoor
open Go.RowKit Go.Lib Go.Shelf

def mkB (l : List UInt8) : ByteArray := ⟨l.toArray⟩
theorem mkB_list (l : List UInt8) : (mkB l).data.toList = l := List.toList_toArray
theorem ext_bytes {a b : ByteArray} (h : a.data.toList = b.data.toList) : a = b := by
  cases a; cases b
  simp at h
  rw [h]
theorem mkB_inj {a b : List UInt8} (h : mkB a = mkB b) : a = b := by rw [← mkB_list a, h, mkB_list]
theorem extract_list (s : ByteArray) (a b : Nat) : (s.extract a b).data.toList = (s.data.toList.take b).drop a := by
  rw [extract_data, List.drop_take]
theorem extract_mk (s : ByteArray) (a n : Nat) : s.extract a (a + n) = mkB ((s.data.toList.drop a).take n) := by
  apply ext_bytes
  rw [extract_list, mkB_list, List.drop_take, Nat.add_sub_cancel_left]
/-- the longest sign of at most n bytes -/
def sgDown : Nat → List UInt8 → Nat
  | 0, _ => 0
  | n + 1, l => if Lib.containsS signS (mkB (l.take (n + 1))) then n + 1 else sgDown n l
theorem sgDown_hit {n : Nat} {l : List UInt8} (h : Lib.containsS signS (mkB (l.take (n + 1))) = true) : sgDown (n + 1) l = n + 1 := by rw [sgDown, if_pos h]
theorem sgDown_miss {n : Nat} {l : List UInt8} (h : Lib.containsS signS (mkB (l.take (n + 1))) = false) : sgDown (n + 1) l = sgDown n l := by rw [sgDown, if_neg (by rw [h]; decide)]
def sgN (l : List UInt8) : Nat := sgDown (min 4 l.length) l
/-- a token: its kind, text, number -/
structure Tk where
  k : Int
  t : List UInt8
  u : Nat
deriving DecidableEq
/-- the token at the start of what is left -/
def oneR (l : List UInt8) : Except Int Tk :=
  let p := l.take (spanN partB l)
  if lowB (l.headD 0) then (if p.length ≤ 16 then .ok ⟨if ownB (mkB p) then 2 else 1, p, 0⟩ else .error 8)
  else if digB (l.headD 0) then (match numI (mkB p) with | some u => .ok ⟨3, p, u⟩ | none => .error 15)
  else if sgN l = 0 then .error 15 else .ok ⟨4, l.take (sgN l), 0⟩
def tkV (x : Tk) (line col : Int) : Value := .agg #[.int .i64 x.k, .string (mkB x.t), .int .u64 x.u, .int .i64 line, .int .i64 col]
def FaultAt (w : World) (p : Nat) (er : Int) (a : Nat) : Prop := w.heap[p]? = some (.cells #[.int .i64 er, .int .i64 a] 56 (0, 0))
def OnePost (l : List UInt8) (a : Nat) (w : World) (e : Ending) (w' : World) : Prop :=
  (∀ x, oneR l = .ok x → e = .returned (.tuple #[tkV x 0 0, .nilIface])) ∧
  (∀ er, oneR l = .error er → ∃ x p, e = .returned (.tuple #[tkV x 0 0, .iface 51 (.pointer (some ⟨p, 0, none⟩))]) ∧ w.heap.size ≤ p ∧ FaultAt w' p er a) ∧ Below w.heap.size w w'
theorem box5 {W : World} {b : Nat} {v0 v1 v2 v3 v4 : Value} {t : TypeId} (h : W.heap[b]? = some (.cells #[v0, v1, v2, v3, v4] t (0, 0))) :
    W.cell? ⟨b, 0, none⟩ = some v0 ∧ W.cell? ⟨b, 1, none⟩ = some v1 ∧ W.cell? ⟨b, 2, none⟩ = some v2 ∧ W.cell? ⟨b, 3, none⟩ = some v3 ∧ W.cell? ⟨b, 4, none⟩ = some v4 ∧ ∀ k, W.frozen? ⟨b, k, none⟩ = false :=
  ⟨by rw [blk_cell h]; rfl, by rw [blk_cell h]; rfl, by rw [blk_cell h]; rfl, by rw [blk_cell h]; rfl, by rw [blk_cell h]; rfl, fun k => by simp [World.frozen?, h]⟩

theorem field125 (v : Value) (W : World) : (Instr.field 87 (.agg #[v]) 0).run Tryd.prog W = .ok v W := by kernel_rfl
theorem heap_alloc_new' {w : World} {k : Nat} (h : w.heap.size = k) (o : Obj) : (w.alloc o).heap[k]? = some o := by subst h; exact heap_alloc_new w o
set_option maxRecDepth 100000 in
set_option maxHeartbeats 8000000 in
theorem one_name (s : ByteArray) (a : Nat) (b : Nat) (w : World) (hs : s.size ≤ 2000000) (ha : a < s.size) (h1 : lowB (s[a]'ha) = true) :
    Calls Tryd.prog 28 #[.string s, .int .i64 a, .map (some b)] w (OnePost (s.data.toList.drop a) a w) := by
  obtain ⟨l, hl⟩ : ∃ l, s.data.toList.drop a = l := ⟨_, rfl⟩
  have hlen : l.length = s.size - a := by rw [← hl, List.length_drop, size_list]
  have hhd : l.headD 0 = s[a]'ha := by
    have := get_list s a ha
    rw [← hl, List.headD_eq_head?_getD, List.head?_drop, this]
    rfl
  have hsp := while_any 24 partB part_pred s a (w.alloc (.cells #[.int .i64 0, .string ⟨#[]⟩, .int .u64 0, .int .i64 0, .int .i64 0] 41)) hs (by omega)
  rw [hl] at hsp
  obtain ⟨n, hn⟩ : ∃ n, spanN partB l = n := ⟨_, rfl⟩
  have hnl : n ≤ l.length := by rw [← hn]; exact span_le _ _
  rw [hn] at hsp
  have hsp := Lib.hid hsp
  have hex : s.extract a (a + n) = mkB (l.take n) := by rw [extract_mk, hl]
  have hsz : (mkB (l.take n)).size = n := by rw [← size_list, mkB_list, List.length_take]; omega
  rw [hl]
  clear hl
  obtain ⟨W, hW⟩ : ∃ W, (w.alloc (.cells #[.int .i64 0, .string ⟨#[]⟩, .int .u64 0, .int .i64 0, .int .i64 0] 41)).alloc (.cells #[.int .i64 1, .string (mkB (l.take n)), .int .u64 0, .int .i64 0, .int .i64 0] 41) = W := ⟨_, rfl⟩
  have hWz : W.heap.size = w.heap.size + 2 := by rw [← hW]; simp
  have hWb : Below w.heap.size w W := by rw [← hW]; exact ((Below.refl w.heap.size w).alloc (Nat.le_refl _) _).alloc (by simp) _
  have hW0 : W.heap[w.heap.size]? = some (.cells #[.int .i64 0, .string ⟨#[]⟩, .int .u64 0, .int .i64 0, .int .i64 0] 41 (0, 0)) := by
    rw [← hW, heap_alloc_old _ _ (by simp)]; exact heap_alloc_new _ _
  have hW1 : W.heap[w.heap.size + 1]? = some (.cells #[.int .i64 1, .string (mkB (l.take n)), .int .u64 0, .int .i64 0, .int .i64 0] 41 (0, 0)) := by
    rw [← hW]; exact heap_alloc_new' (by simp) _
  have how := own_any (mkB (l.take n)) W
  have hone : oneR l = if (l.take n).length ≤ 16 then .ok ⟨if ownB (mkB (l.take n)) then 2 else 1, l.take n, 0⟩ else .error 8 := by
    unfold oneR
    simp only []
    rw [hhd, h1, hn]
    rfl
  rw [List.length_take, Nat.min_eq_left hnl] at hone
  obtain ⟨p, hp⟩ : ∃ p, mkB (l.take n) = p := ⟨_, rfl⟩
  rw [hp] at hex hsz how hW hW1 hone
  obtain ⟨o, ho⟩ : ∃ o, ownB p = o := ⟨_, rfl⟩
  rw [ho] at how hone
  have hl1 := letter_any (s[a]'ha) (w.alloc (.cells #[.int .i64 0, .string ⟨#[]⟩, .int .u64 0, .int .i64 0, .int .i64 0] 41))
  rw [h1] at hl1
  have hl1 := Lib.hid hl1
  have how := Lib.hid how
  have hone := Lib.hid hone
  have hp := Lib.hid hp
  have hWb := Lib.hid hWb
  have hWW := Lib.hid hW
  clear hW
  have hW0 := Lib.hid hW0
  have hW1 := Lib.hid hW1
  have hw1 : IntKind.i64.wrap ((a : Int) + (n : Int)) = ((a + n : Nat) : Int) := by rw [IntKind.wrap_i64]; omega
  have hle : ((a + n : Nat) : Int) ≤ (s.size : Int) := by omega
  clear ho hn
  go_enter Tryd.func28, Tryd.ntmps28
  go_wp2_with (first | (go_at_call 23; refine hsp.out.mono ?_; rintro e w1 ⟨rfl, rfl⟩) | (go_at_call 22; refine hl1.out.mono ?_; rintro e w1 ⟨rfl, rfl⟩))
  rw [hWW.out]
  refine how.out.mono ?_
  rintro e w1 ⟨rfl, hb⟩
  have hbh := Lib.hid (Below.next hWb.out hb)
  obtain ⟨c00, c01, c02, c03, c04, f0⟩ := box5 ((hb.block w.heap.size (by omega)).trans hW0.out)
  obtain ⟨c10, c11, c12, c13, c14, f1⟩ := box5 ((hb.block (w.heap.size + 1) (by omega)).trans hW1.out)
  have hne : w.heap.size ≠ w.heap.size + 1 := by omega
  have hz1 : w.heap.size + 2 ≤ w1.heap.size := by have := hb.size; omega
  obtain ⟨d00, d01, d02, d03, d04, g0⟩ := box5 (((heap_alloc_old w1 (.cells #[.int .i64 8, .int .i64 a] 56) (by omega)).trans (hb.block w.heap.size (by omega))).trans hW0.out)
  have hnz : ¬ w1.heap.size = w.heap.size := by omega
  obtain ⟨q00, q01, q02, q03, q04, q0⟩ := box5 (((heap_alloc_old (w1.setCell ⟨w.heap.size + 1, 0, none⟩ (.int .i64 2)) (.cells #[.int .i64 8, .int .i64 a] 56) (by simp [World.setCell]; omega)).trans ((Go.Deep.blk_setCell_other w1 ⟨w.heap.size + 1, 0, none⟩ (.int .i64 2) w.heap.size hne).trans (hb.block w.heap.size (by omega)))).trans hW0.out)
  clear hb
  by_cases h16 : n ≤ 16
  · have e16 : ¬ (16 : Int) < (n : Int) := by omega
    cases o
    · have hfin := Lib.hid (show oneR l = .ok ⟨1, l.take n, 0⟩ by rw [hone.out, if_pos h16]; rfl)
      go_wp2
      refine bodyPost_ret (v := .tuple #[.agg #[.int .i64 1, .string p, .int .u64 0, .int .i64 0, .int .i64 0], .nilIface]) (by simp [results, Tryd.results28, go_sem, c00, c01, c02, c03, c04]) rfl ?_
      exact ⟨fun x hx => (by rw [hfin.out] at hx; cases hx; unfold tkV; rw [hp.out]; rfl), fun er he => (by rw [hfin.out] at he; cases he), ((((hbh.out.setCell (Nat.le_refl _) _).setCell (Nat.le_refl _) _).setCell (Nat.le_refl _) _).setCell (Nat.le_refl _) _).setCell (Nat.le_refl _) _⟩
    · have hfin := Lib.hid (show oneR l = .ok ⟨2, l.take n, 0⟩ by rw [hone.out, if_pos h16]; rfl)
      go_wp2
      refine bodyPost_ret (v := .tuple #[.agg #[.int .i64 2, .string p, .int .u64 0, .int .i64 0, .int .i64 0], .nilIface]) (by simp [results, Tryd.results28, go_sem, c00, c01, c02, c03, c04]) rfl ?_
      exact ⟨fun x hx => (by rw [hfin.out] at hx; cases hx; unfold tkV; rw [hp.out]; rfl), fun er he => (by rw [hfin.out] at he; cases he), (((((hbh.out.setCell (p := ⟨w.heap.size + 1, 0, none⟩) (Nat.le_succ _) _).setCell (Nat.le_refl _) _).setCell (Nat.le_refl _) _).setCell (Nat.le_refl _) _).setCell (Nat.le_refl _) _).setCell (Nat.le_refl _) _⟩
  · have e16 : (16 : Int) < (n : Int) := by omega
    have hfin := Lib.hid (show oneR l = .error 8 by rw [hone.out, if_neg h16])
    cases o
    · go_wp2
      refine bodyPost_ret (v := .tuple #[.agg #[.int .i64 1, .string p, .int .u64 0, .int .i64 0, .int .i64 0], .iface 51 (.pointer (some ⟨w1.heap.size, 0, none⟩))]) (by simp [results, Tryd.results28, go_sem, d00, d01, d02, d03, d04]) rfl ?_
      refine ⟨fun x hx => (by rw [hfin.out] at hx; cases hx), fun er he => ?_, (((((hbh.out.alloc (by omega) _).setCell (Nat.le_refl _) _).setCell (Nat.le_refl _) _).setCell (Nat.le_refl _) _).setCell (Nat.le_refl _) _).setCell (Nat.le_refl _) _⟩
      rw [hfin.out] at he
      cases he
      refine ⟨⟨1, l.take n, 0⟩, _, (by unfold tkV; rw [hp.out]; rfl), (by omega), ?_⟩
      unfold FaultAt
      simp only [Go.Deep.blk_setCell_other, ne_eq, hnz, not_false_eq_true]
      exact heap_alloc_new _ _
    · go_wp2
      refine bodyPost_ret (v := .tuple #[.agg #[.int .i64 2, .string p, .int .u64 0, .int .i64 0, .int .i64 0], .iface 51 (.pointer (some ⟨w1.heap.size, 0, none⟩))]) (by simp [results, Tryd.results28, go_sem, q00, q01, q02, q03, q04]) rfl ?_
      refine ⟨fun x hx => (by rw [hfin.out] at hx; cases hx), fun er he => ?_, ((((((hbh.out.setCell (p := ⟨w.heap.size + 1, 0, none⟩) (Nat.le_succ _) _).alloc (by simp [World.setCell]; omega) _).setCell (Nat.le_refl _) _).setCell (Nat.le_refl _) _).setCell (Nat.le_refl _) _).setCell (Nat.le_refl _) _).setCell (Nat.le_refl _) _⟩
      rw [hfin.out] at he
      cases he
      refine ⟨⟨2, l.take n, 0⟩, _, (by unfold tkV; rw [hp.out]; rfl), (by omega), ?_⟩
      unfold FaultAt
      simp only [Go.Deep.blk_setCell_other, ne_eq, hnz, not_false_eq_true]
      exact heap_alloc_new' (by simp [World.setCell]) _

set_option maxRecDepth 100000 in
set_option maxHeartbeats 8000000 in
theorem one_num (s : ByteArray) (a : Nat) (b : Nat) (w : World) (hE : Env w) (hs : s.size ≤ 2000000) (ha : a < s.size) (h1 : lowB (s[a]'ha) = false) (h2 : digB (s[a]'ha) = true) :
    Calls Tryd.prog 28 #[.string s, .int .i64 a, .map (some b)] w (OnePost (s.data.toList.drop a) a w) := by
  obtain ⟨l, hl⟩ : ∃ l, s.data.toList.drop a = l := ⟨_, rfl⟩
  have hlen : l.length = s.size - a := by rw [← hl, List.length_drop, size_list]
  have hhd : l.headD 0 = s[a]'ha := by
    have := get_list s a ha
    rw [← hl, List.headD_eq_head?_getD, List.head?_drop, this]
    rfl
  obtain ⟨W, hW⟩ : ∃ W, (w.alloc (.cells #[.int .i64 0, .string ⟨#[]⟩, .int .u64 0, .int .i64 0, .int .i64 0] 41)) = W := ⟨_, rfl⟩
  have hsp := while_any 24 partB part_pred s a W hs (by omega)
  rw [hl] at hsp
  obtain ⟨n, hn⟩ : ∃ n, spanN partB l = n := ⟨_, rfl⟩
  have hnl : n ≤ l.length := by rw [← hn]; exact span_le _ _
  rw [hn] at hsp
  have hsp := Lib.hid hsp
  have hex : s.extract a (a + n) = mkB (l.take n) := by rw [extract_mk, hl]
  have hsz : (mkB (l.take n)).size = n := by rw [← size_list, mkB_list, List.length_take]; omega
  rw [hl]
  clear hl
  have hWz : W.heap.size = w.heap.size + 1 := by rw [← hW]; simp
  have hWb : Below w.heap.size w W := by rw [← hW]; exact ((Below.refl w.heap.size w).alloc (Nat.le_refl _) _)
  have hW0 : W.heap[w.heap.size]? = some (.cells #[.int .i64 0, .string ⟨#[]⟩, .int .u64 0, .int .i64 0, .int .i64 0] 41 (0, 0)) := by
    rw [← hW]; exact heap_alloc_new _ _
  have hnu := number_any (mkB (l.take n)) W (hE.below hWb) (by omega)
  have hone : oneR l = (match numI (mkB (l.take n)) with | some u => .ok ⟨3, l.take n, u⟩ | none => .error 15) := by
    unfold oneR
    simp only []
    rw [hhd, h1, h2, hn]
    rfl
  obtain ⟨p, hp⟩ : ∃ p, mkB (l.take n) = p := ⟨_, rfl⟩
  rw [hp] at hex hsz hnu hone
  have hl1 := letter_any (s[a]'ha) W
  have hl2 := dig_any (s[a]'ha) W
  rw [h1] at hl1
  rw [h2] at hl2
  have hl1 := Lib.hid hl1
  have hl2 := Lib.hid hl2
  have hnu := Lib.hid hnu
  have hone := Lib.hid hone
  have hp := Lib.hid hp
  have hWb := Lib.hid hWb
  have hW0 := Lib.hid hW0
  have hWW := Lib.hid hW
  clear hW
  have hw1 : IntKind.i64.wrap ((a : Int) + (n : Int)) = ((a + n : Nat) : Int) := by rw [IntKind.wrap_i64]; omega
  have hle : ((a + n : Nat) : Int) ≤ (s.size : Int) := by omega
  clear hn
  go_enter Tryd.func28, Tryd.ntmps28
  go_wp2_with (first | (go_at_call 23; rw [hWW.out]; refine hsp.out.mono ?_; rintro e w1 ⟨rfl, rfl⟩) | (go_at_call 22; refine hl1.out.mono ?_; rintro e w1 ⟨rfl, rfl⟩) | (go_at_call 39; refine hl2.out.mono ?_; rintro e w1 ⟨rfl, rfl⟩))
  refine hnu.out.mono ?_
  rintro e w1 ⟨hno, hyes, hb⟩
  have hbh := Lib.hid (Below.next hWb.out hb)
  obtain ⟨c00, c01, c02, c03, c04, f0⟩ := box5 ((hb.block w.heap.size (by omega)).trans hW0.out)
  have hz1 : w.heap.size + 1 ≤ w1.heap.size := by have := hb.size; omega
  have hnz : ¬ w1.heap.size = w.heap.size := by omega
  obtain ⟨d00, d01, d02, d03, d04, g0⟩ := box5 (((heap_alloc_old w1 (.cells #[.int .i64 15, .int .i64 a] 56) (by omega)).trans (hb.block w.heap.size (by omega))).trans hW0.out)
  clear hb
  rcases hq : numI p with _ | u
  · have hfin := Lib.hid (show oneR l = .error 15 by rw [hone.out, hq])
    obtain rfl := hno hq
    clear hno hyes hq
    go_wp2
    refine bodyPost_ret (v := .tuple #[.agg #[.int .i64 0, .string ⟨#[]⟩, .int .u64 0, .int .i64 0, .int .i64 0], .iface 51 (.pointer (some ⟨w1.heap.size, 0, none⟩))]) (by simp [results, Tryd.results28, go_sem, d00, d01, d02, d03, d04]) rfl ?_
    refine ⟨fun x hx => (by rw [hfin.out] at hx; cases hx), fun er he => ?_, (((((hbh.out.alloc (by omega) _).setCell (Nat.le_refl _) _).setCell (Nat.le_refl _) _).setCell (Nat.le_refl _) _).setCell (Nat.le_refl _) _).setCell (Nat.le_refl _) _⟩
    rw [hfin.out] at he
    cases he
    refine ⟨⟨0, [], 0⟩, _, rfl, (by omega), ?_⟩
    unfold FaultAt
    simp only [Go.Deep.blk_setCell_other, ne_eq, hnz, not_false_eq_true]
    exact heap_alloc_new _ _
  · have hfin := Lib.hid (show oneR l = .ok ⟨3, l.take n, u⟩ by rw [hone.out, hq])
    obtain rfl := hyes u hq
    clear hno hyes hq
    go_wp2
    refine bodyPost_ret (v := .tuple #[.agg #[.int .i64 3, .string p, .int .u64 u, .int .i64 0, .int .i64 0], .nilIface]) (by simp [results, Tryd.results28, go_sem, c00, c01, c02, c03, c04]) rfl ?_
    exact ⟨fun x hx => (by rw [hfin.out] at hx; cases hx; unfold tkV; rw [hp.out]), fun er he => (by rw [hfin.out] at he; cases he), ((((hbh.out.setCell (Nat.le_refl _) _).setCell (Nat.le_refl _) _).setCell (Nat.le_refl _) _).setCell (Nat.le_refl _) _).setCell (Nat.le_refl _) _⟩

set_option maxRecDepth 100000 in
set_option maxHeartbeats 8000000 in
theorem one_sign (s : ByteArray) (a : Nat) (b : Nat) (w : World) (hE : Env w) (hs : s.size ≤ 2000000) (ha : a < s.size) (hB : SignAt w b) (h1 : lowB (s[a]'ha) = false) (h2 : digB (s[a]'ha) = false) :
    Calls Tryd.prog 28 #[.string s, .int .i64 a, .map (some b)] w (OnePost (s.data.toList.drop a) a w) := by
  obtain ⟨l, hl⟩ : ∃ l, s.data.toList.drop a = l := ⟨_, rfl⟩
  have hlen : l.length = s.size - a := by rw [← hl, List.length_drop, size_list]
  have hhd : l.headD 0 = s[a]'ha := by
    have := get_list s a ha
    rw [← hl, List.headD_eq_head?_getD, List.head?_drop, this]
    rfl
  have hsp := while_any 24 partB part_pred s a (w.alloc (.cells #[.int .i64 0, .string ⟨#[]⟩, .int .u64 0, .int .i64 0, .int .i64 0] 41)) hs (by omega)
  rw [hl] at hsp ⊢
  have hl' := hl
  have hmin : ((min 4 (s.size - a) : Nat) : Int) = min 4 ((s.size : Int) - a) := by omega
  have hB2 := Lib.hid (SignAt.below hB ((Below.refl w.heap.size w).alloc (Nat.le_refl _) (.cells #[.int .i64 0, .string ⟨#[]⟩, .int .u64 0, .int .i64 0, .int .i64 0] 41)))
  have hb1 := Lib.hid ((Below.refl w.heap.size w).alloc (Nat.le_refl _) (.cells #[.int .i64 0, .string ⟨#[]⟩, .int .u64 0, .int .i64 0, .int .i64 0] 41))
  obtain ⟨n, hn⟩ : ∃ n, spanN partB l = n := ⟨_, rfl⟩
  have hnl : n ≤ l.length := by rw [← hn]; exact span_le _ _
  rw [hn] at hsp
  have hsp := Lib.hid hsp
  have hl1 := letter_any (s[a]'ha) (w.alloc (.cells #[.int .i64 0, .string ⟨#[]⟩, .int .u64 0, .int .i64 0, .int .i64 0] 41))
  have hl2 := dig_any (s[a]'ha) (w.alloc (.cells #[.int .i64 0, .string ⟨#[]⟩, .int .u64 0, .int .i64 0, .int .i64 0] 41))
  rw [h1] at hl1
  rw [h2] at hl2
  have hl1 := Lib.hid hl1
  have hl2 := Lib.hid hl2
  have hone : oneR l = if sgN l = 0 then .error 15 else .ok ⟨4, l.take (sgN l), 0⟩ := by
    unfold oneR
    simp only []
    rw [hhd, h1, h2]
    rfl
  have hone := Lib.hid hone
  have hl' := Lib.hid hl'
  have hw1 : IntKind.i64.wrap ((a : Int) + (n : Int)) = ((a + n : Nat) : Int) := by rw [IntKind.wrap_i64]; omega
  have hle : ((a + n : Nat) : Int) ≤ (s.size : Int) := by omega
  have hlen := Lib.hid hlen
  have hfd := field125
  go_enter Tryd.func28, Tryd.ntmps28
  go_wp2_with (first | (go_at_call 23; refine hsp.out.mono ?_; rintro e w1 ⟨rfl, rfl⟩) | (go_at_call 22; refine hl1.out.mono ?_; rintro e w1 ⟨rfl, rfl⟩) | (go_at_call 39; refine hl2.out.mono ?_; rintro e w1 ⟨rfl, rfl⟩))
  go_loopg [13] (min 4 (s.size - a)) (fun g s13 wr => s13 = .int .i64 g ∧ g ≤ min 4 (s.size - a) ∧ sgDown g l = sgN l ∧ w.alloc (.cells #[.int .i64 0, .string ⟨#[]⟩, .int .u64 0, .int .i64 0, .int .i64 0] 41) = wr)
  case atStart => exact ⟨by rw [hmin], Nat.le_refl _, by unfold sgN; rw [hlen.out], rfl⟩
  case round =>
    obtain ⟨rfl, hg, hgs, rfl⟩ := hrel
    have hgs := Lib.hid hgs
    cases gk with
    | zero =>
      have hfin := Lib.hid (show oneR l = .error 15 by rw [hone.out, if_pos (by rw [← hgs.out]; rfl)])
      go_wp2
      refine bodyPost_ret (v := .tuple #[.agg #[.int .i64 0, .string ⟨#[]⟩, .int .u64 0, .int .i64 0, .int .i64 0], .iface 51 (.pointer (some ⟨w.heap.size + 1, 0, none⟩))]) (by simp [results, Tryd.results28, go_sem]) rfl ?_
      refine ⟨fun x hx => (by rw [hfin.out] at hx; cases hx), fun er he => ?_, hb1.out.alloc (by simp) _⟩
      rw [hfin.out] at he
      cases he
      exact ⟨⟨0, [], 0⟩, _, rfl, Nat.le_succ _, heap_alloc_new' (by simp) _⟩
    | succ g2 =>
      have hmk : s.extract a (a + (g2 + 1)) = mkB (l.take (g2 + 1)) := by rw [extract_mk, hl'.out]
      have hw2 : IntKind.i64.wrap ((a : Int) + ((g2 + 1 : Nat) : Int)) = ((a + (g2 + 1) : Nat) : Int) := by rw [IntKind.wrap_i64]; omega
      have hpos : (0 : Int) < ((g2 + 1 : Nat) : Int) := by omega
      obtain ⟨c, hc⟩ : ∃ c, Lib.containsS signS (mkB (l.take (g2 + 1))) = c := ⟨_, rfl⟩
      cases c
      · have hlk := lookup_no hB2.out (fun hm => by rw [(Lib.containsS_iff _ _).2 hm] at hc; cases hc)
        go_wp2
        go_roundg g2
        case measure => omega
        case rel =>
          refine ⟨by go_num, by omega, ?_, rfl⟩
          rw [← hgs.out, sgDown_miss hc]
      · have hfin := Lib.hid (show oneR l = .ok ⟨4, l.take (g2 + 1), 0⟩ by
          have e : sgN l = g2 + 1 := by rw [← hgs.out, sgDown_hit hc]
          rw [hone.out, if_neg (by omega), e])
        have hlk : _ = Result.ok (Value.agg #[.bool true]) _ := lookup_yes hB2.out ((Lib.containsS_iff _ _).1 hc)
        go_wp2
        refine bodyPost_ret (v := .tuple #[tkV ⟨4, l.take (g2 + 1), 0⟩ 0 0, .nilIface]) (by simp [results, Tryd.results28, go_sem, tkV]) rfl ?_
        exact ⟨fun x hx => (by rw [hfin.out] at hx; cases hx; rfl), fun er he => (by rw [hfin.out] at he; cases he), (Below.refl w.heap.size w).alloc (Nat.le_refl _) _⟩
theorem one_any (s : ByteArray) (a : Nat) (b : Nat) (w : World) (hE : Env w) (hs : s.size ≤ 2000000) (ha : a < s.size) (hB : SignAt w b) :
    Calls Tryd.prog 28 #[.string s, .int .i64 a, .map (some b)] w (OnePost (s.data.toList.drop a) a w) := by
  rcases h1 : lowB (s[a]'ha)
  · rcases h2 : digB (s[a]'ha)
    · exact one_sign s a b w hE hs ha hB h1 h2
    · exact one_num s a b w hE hs ha h1 h2
  · exact one_name s a b w hs ha h1
end Go.Proofs.YtmkfoknhjjgipaaDoor
