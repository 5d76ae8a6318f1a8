/- The reference's one (printed by genone.py). -/
import Derived.Test.YtmkfoknhjjgipaaGreatDoorZ
set_option linter.unusedSimpArgs false
set_option linter.unusedVariables false
namespace Go.Proofs.YtmkfoknhjjgipaaGreatDoor
open Go.RowKit Go.Lib Go.Shelf

theorem span_in (p : UInt8 → Bool) : ∀ (l : List UInt8) (c : Nat) (b : UInt8), l[c]? = some b → c < spanN p l → p b = true
  | [], c, b, h, _ => by cases h
  | x :: l, c, b, h, hc => by
    cases hx : p x
    · rw [span_cons_f hx] at hc; omega
    · cases c with
      | zero => cases h; exact hx
      | succ c =>
        rw [span_cons_t hx] at hc
        exact span_in p l c b h (by omega)
theorem span_out (p : UInt8 → Bool) : ∀ (l : List UInt8) (b : UInt8), l[spanN p l]? = some b → p b = false
  | [], b, h => by cases h
  | x :: l, b, h => by
    cases hx : p x
    · rw [span_cons_f hx] at h
      cases h
      exact hx
    · rw [span_cons_t hx] at h
      exact span_out p l b h
theorem set5_0 {W : World} {b : Nat} {v0 v1 v2 v3 v4 v : Value} {t : TypeId} (h : W.heap[b]? = some (.cells #[v0, v1, v2, v3, v4] t (0, 0))) : (W.setCell ⟨b, 0, none⟩ v).heap[b]? = some (.cells #[v, v1, v2, v3, v4] t (0, 0)) := by
  simp [World.setCell, Array.getElem?_modify, h]
/-- the token at a place, the place behind it, the error -/
def ROne (l : List UInt8) (a : Nat) (w : World) (e : Ending) (w' : World) : Prop :=
  ∃ (y : Tk) (nx : Nat) (er : Int), e = .returned (.tuple #[tkV y 0 0, .int .i64 nx, .int .i64 er]) ∧ (∀ x, oneR l = .ok x → y = x ∧ nx = a + x.t.length ∧ er = 0) ∧ (∀ e', oneR l = .error e' → er = e' ∧ er ≠ 0) ∧ Below w.heap.size w w'

set_option maxRecDepth 100000 in
set_option maxHeartbeats 8000000 in
theorem refOne_name (s : ByteArray) (a : Nat) (w : World) (hs : s.size ≤ 2000000) (ha : a < s.size) (h1 : lowB (s[a]'ha) = true) :
    Calls Tryz.prog 45 #[.string s, .int .i64 a] w (ROne (s.data.toList.drop a) a w) := by
  obtain ⟨l, hl⟩ : ∃ l, s.data.toList.drop a = l := ⟨_, rfl⟩
  have hlen : l.length = s.size - a := by rw [← hl, List.length_drop, size_list]
  have hhd : l.headD 0 = s[a]'ha := by
    have := get_list s a ha
    rw [← hl, List.headD_eq_head?_getD, List.head?_drop, this]
    rfl
  obtain ⟨n, hn⟩ : ∃ n, spanN partB l = n := ⟨_, rfl⟩
  have hnl : n ≤ l.length := by rw [← hn]; exact span_le _ _
  have hgl : ∀ c (h : a + c < s.size), l[c]? = some (s[a + c]'h) := fun c h => by rw [← hl, drop_get]; exact get_list s (a + c) h
  have hin := Lib.hid (show ∀ c (h : a + c < s.size), c < n → partB (s[a + c]'h) = true from fun c h hc => span_in partB l c _ (hgl c h) (by rw [hn]; exact hc))
  have hout := Lib.hid (show ∀ (h : a + n < s.size), partB (s[a + n]'h) = false from fun h => span_out partB l _ (by rw [hn]; exact hgl n h))
  have hex : s.extract a (a + n) = mkB (l.take n) := by rw [extract_mk, hl]
  have hsz : (mkB (l.take n)).size = n := by rw [← size_list, mkB_list, List.length_take]; omega
  have hxl := Lib.hid (show (l.take n).length = n by rw [List.length_take]; omega)
  obtain ⟨p, hp⟩ : ∃ p, mkB (l.take n) = p := ⟨_, rfl⟩
  rw [hp] at hex hsz
  obtain ⟨W, hW⟩ : ∃ W, (w.alloc (.cells #[.int .i64 0, .string ⟨#[]⟩, .int .u64 0, .int .i64 0, .int .i64 0] 48)).alloc (.cells #[.int .i64 1, .string p, .int .u64 0, .int .i64 0, .int .i64 0] 48) = W := ⟨_, rfl⟩
  rw [hl]
  clear hl
  have hWz : W.heap.size = w.heap.size + 2 := by rw [← hW]; simp
  have hWb : Below w.heap.size w W := by rw [← hW]; exact ((Below.refl w.heap.size w).alloc (Nat.le_refl _) _).alloc (by simp) _
  have hW0 : W.heap[w.heap.size]? = some (.cells #[.int .i64 0, .string ⟨#[]⟩, .int .u64 0, .int .i64 0, .int .i64 0] 48 (0, 0)) := by
    rw [← hW, heap_alloc_old _ _ (by simp)]; exact heap_alloc_new _ _
  have hW1 : W.heap[w.heap.size + 1]? = some (.cells #[.int .i64 1, .string p, .int .u64 0, .int .i64 0, .int .i64 0] 48 (0, 0)) := by
    rw [← hW]; exact heap_alloc_new' (by simp) _
  have how := refOwn_any p W
  have hone : oneR l = if (l.take n).length ≤ 16 then .ok ⟨if ownB (mkB (l.take n)) then 2 else 1, l.take n, 0⟩ else .error 8 := by
    unfold oneR
    simp only []
    rw [hhd, h1, hn]
    rfl
  rw [List.length_take, Nat.min_eq_left hnl, hp] at hone
  obtain ⟨o, ho⟩ : ∃ o, ownB p = o := ⟨_, rfl⟩
  rw [ho] at how hone
  have hl1 := refLetter_any (s[a]'ha) ((w.alloc (.cells #[.int .i64 0, .string ⟨#[]⟩, .int .u64 0, .int .i64 0, .int .i64 0] 48)).alloc (.cells #[.int .i64 0, .string p, .int .u64 0, .int .i64 0, .int .i64 0] 48))
  rw [h1] at hl1
  have hl1 := Lib.hid hl1
  have how := Lib.hid how
  have hone := Lib.hid hone
  have hp := Lib.hid hp
  have hWb := Lib.hid hWb
  have hWW := Lib.hid hW
  clear hW
  have hW0 := Lib.hid hW0
  have hW1 := Lib.hid hW1
  have hle : ((a + n : Nat) : Int) ≤ (s.size : Int) := by omega
  clear ho hn hgl
  go_enter Tryz.func45, Tryz.ntmps45
  go_wp2_with fail
  go_loopg [7] n (fun g s7 wr => ∃ c : Nat, c + g = n ∧ s7 = .int .i64 ((a + c : Nat) : Int) ∧ wr = w.alloc (.cells #[.int .i64 0, .string ⟨#[]⟩, .int .u64 0, .int .i64 0, .int .i64 0] 48))
  case atStart => exact ⟨0, by omega, rfl, rfl⟩
  case round =>
    obtain ⟨c, hcg, rfl, rfl⟩ := hrel
    cases gk with
    | succ g =>
      have hlt : a + c < s.size := by omega
      have e0 : ((a + c : Nat) : Int) < (s.size : Int) := by omega
      have hpe := refPart_any (s[a + c]'hlt) (w.alloc (.cells #[.int .i64 0, .string ⟨#[]⟩, .int .u64 0, .int .i64 0, .int .i64 0] 48))
      rw [hin.out c hlt (by omega)] at hpe
      have hpe := Lib.hid hpe
      go_wp2_with fail
      refine hpe.out.mono ?_
      rintro e w3 ⟨rfl, rfl⟩
      go_wp2
      go_roundg g
      case measure => omega
      case rel => exact ⟨c + 1, by omega, by go_num, rfl⟩
    | zero =>
      obtain rfl : c = n := by omega
      rcases Nat.lt_or_ge (a + c) s.size with hlt | hge
      · have e0 : ((a + c : Nat) : Int) < (s.size : Int) := by omega
        have hpe := refPart_any (s[a + c]'hlt) (w.alloc (.cells #[.int .i64 0, .string ⟨#[]⟩, .int .u64 0, .int .i64 0, .int .i64 0] 48))
        rw [hout.out hlt] at hpe
        have hpe := Lib.hid hpe
        go_wp2_with (first | (go_at_call 36; refine hpe.out.mono ?_; rintro e w3 ⟨rfl, rfl⟩) | (go_at_call 35; refine hl1.out.mono ?_; rintro e w3 ⟨rfl, rfl⟩))
        rw [hWW.out]
        refine how.out.mono ?_
        rintro e w1 ⟨rfl, hb⟩
        have hbh := Lib.hid (Below.next hWb.out hb)
        obtain ⟨c00, c01, c02, c03, c04, f0⟩ := box5 ((hb.block w.heap.size (by omega)).trans hW0.out)
        obtain ⟨c10, c11, c12, c13, c14, f1⟩ := box5 ((hb.block (w.heap.size + 1) (by omega)).trans hW1.out)
        have hne : w.heap.size ≠ w.heap.size + 1 := by omega
        clear hb
        by_cases h16 : c ≤ 16
        · have e16 : ¬ (16 : Int) < (c : Int) := by omega
          cases o
          · have hfin := Lib.hid (show oneR l = .ok ⟨1, l.take c, 0⟩ by rw [hone.out, if_pos h16]; rfl)
            go_wp2
            refine bodyPost_ret (v := .tuple #[.agg #[.int .i64 1, .string p, .int .u64 0, .int .i64 0, .int .i64 0], .int .i64 ((a + c : Nat) : Int), .int .i64 0]) (by simp [results, Tryz.results45, go_sem, c00, c01, c02, c03, c04]) rfl ?_
            exact ⟨⟨1, l.take c, 0⟩, a + c, 0, (by unfold tkV; rw [hp.out]; rfl), fun x hx => (by rw [hfin.out] at hx; cases hx; exact ⟨rfl, by rw [hxl.out], rfl⟩), fun e' he => (by rw [hfin.out] at he; cases he), (by (repeat refine Below.setCell ?_ (by first | exact Nat.le_refl _ | exact Nat.le_succ _) _); exact hbh.out)⟩
          · have hfin := Lib.hid (show oneR l = .ok ⟨2, l.take c, 0⟩ by rw [hone.out, if_pos h16]; rfl)
            go_wp2
            refine bodyPost_ret (v := .tuple #[.agg #[.int .i64 2, .string p, .int .u64 0, .int .i64 0, .int .i64 0], .int .i64 ((a + c : Nat) : Int), .int .i64 0]) (by simp [results, Tryz.results45, go_sem, c00, c01, c02, c03, c04]) rfl ?_
            exact ⟨⟨2, l.take c, 0⟩, a + c, 0, (by unfold tkV; rw [hp.out]; rfl), fun x hx => (by rw [hfin.out] at hx; cases hx; exact ⟨rfl, by rw [hxl.out], rfl⟩), fun e' he => (by rw [hfin.out] at he; cases he), (by (repeat refine Below.setCell ?_ (by first | exact Nat.le_refl _ | exact Nat.le_succ _) _); exact hbh.out)⟩
        · have e16 : (16 : Int) < (c : Int) := by omega
          have hfin := Lib.hid (show oneR l = .error 8 by rw [hone.out, if_neg h16])
          cases o
          · go_wp2
            refine bodyPost_ret (v := .tuple #[.agg #[.int .i64 1, .string p, .int .u64 0, .int .i64 0, .int .i64 0], .int .i64 (a : Int), .int .i64 8]) (by simp [results, Tryz.results45, go_sem, c00, c01, c02, c03, c04]) rfl ?_
            exact ⟨⟨1, l.take c, 0⟩, a, 8, (by unfold tkV; rw [hp.out]; rfl), fun x hx => (by rw [hfin.out] at hx; cases hx), fun e' he => (by rw [hfin.out] at he; cases he; exact ⟨rfl, by decide⟩), (by (repeat refine Below.setCell ?_ (by first | exact Nat.le_refl _ | exact Nat.le_succ _) _); exact hbh.out)⟩
          · go_wp2
            refine bodyPost_ret (v := .tuple #[.agg #[.int .i64 2, .string p, .int .u64 0, .int .i64 0, .int .i64 0], .int .i64 (a : Int), .int .i64 8]) (by simp [results, Tryz.results45, go_sem, c00, c01, c02, c03, c04]) rfl ?_
            exact ⟨⟨2, l.take c, 0⟩, a, 8, (by unfold tkV; rw [hp.out]; rfl), fun x hx => (by rw [hfin.out] at hx; cases hx), fun e' he => (by rw [hfin.out] at he; cases he; exact ⟨rfl, by decide⟩), (by (repeat refine Below.setCell ?_ (by first | exact Nat.le_refl _ | exact Nat.le_succ _) _); exact hbh.out)⟩
      · have e0 : ¬ ((a + c : Nat) : Int) < (s.size : Int) := by omega
        have hpe := hl1
        go_wp2_with (first | (go_at_call 36; refine hpe.out.mono ?_; rintro e w3 ⟨rfl, rfl⟩) | (go_at_call 35; refine hl1.out.mono ?_; rintro e w3 ⟨rfl, rfl⟩))
        rw [hWW.out]
        refine how.out.mono ?_
        rintro e w1 ⟨rfl, hb⟩
        have hbh := Lib.hid (Below.next hWb.out hb)
        obtain ⟨c00, c01, c02, c03, c04, f0⟩ := box5 ((hb.block w.heap.size (by omega)).trans hW0.out)
        obtain ⟨c10, c11, c12, c13, c14, f1⟩ := box5 ((hb.block (w.heap.size + 1) (by omega)).trans hW1.out)
        have hne : w.heap.size ≠ w.heap.size + 1 := by omega
        clear hb
        by_cases h16 : c ≤ 16
        · have e16 : ¬ (16 : Int) < (c : Int) := by omega
          cases o
          · have hfin := Lib.hid (show oneR l = .ok ⟨1, l.take c, 0⟩ by rw [hone.out, if_pos h16]; rfl)
            go_wp2
            refine bodyPost_ret (v := .tuple #[.agg #[.int .i64 1, .string p, .int .u64 0, .int .i64 0, .int .i64 0], .int .i64 ((a + c : Nat) : Int), .int .i64 0]) (by simp [results, Tryz.results45, go_sem, c00, c01, c02, c03, c04]) rfl ?_
            exact ⟨⟨1, l.take c, 0⟩, a + c, 0, (by unfold tkV; rw [hp.out]; rfl), fun x hx => (by rw [hfin.out] at hx; cases hx; exact ⟨rfl, by rw [hxl.out], rfl⟩), fun e' he => (by rw [hfin.out] at he; cases he), (by (repeat refine Below.setCell ?_ (by first | exact Nat.le_refl _ | exact Nat.le_succ _) _); exact hbh.out)⟩
          · have hfin := Lib.hid (show oneR l = .ok ⟨2, l.take c, 0⟩ by rw [hone.out, if_pos h16]; rfl)
            go_wp2
            refine bodyPost_ret (v := .tuple #[.agg #[.int .i64 2, .string p, .int .u64 0, .int .i64 0, .int .i64 0], .int .i64 ((a + c : Nat) : Int), .int .i64 0]) (by simp [results, Tryz.results45, go_sem, c00, c01, c02, c03, c04]) rfl ?_
            exact ⟨⟨2, l.take c, 0⟩, a + c, 0, (by unfold tkV; rw [hp.out]; rfl), fun x hx => (by rw [hfin.out] at hx; cases hx; exact ⟨rfl, by rw [hxl.out], rfl⟩), fun e' he => (by rw [hfin.out] at he; cases he), (by (repeat refine Below.setCell ?_ (by first | exact Nat.le_refl _ | exact Nat.le_succ _) _); exact hbh.out)⟩
        · have e16 : (16 : Int) < (c : Int) := by omega
          have hfin := Lib.hid (show oneR l = .error 8 by rw [hone.out, if_neg h16])
          cases o
          · go_wp2
            refine bodyPost_ret (v := .tuple #[.agg #[.int .i64 1, .string p, .int .u64 0, .int .i64 0, .int .i64 0], .int .i64 (a : Int), .int .i64 8]) (by simp [results, Tryz.results45, go_sem, c00, c01, c02, c03, c04]) rfl ?_
            exact ⟨⟨1, l.take c, 0⟩, a, 8, (by unfold tkV; rw [hp.out]; rfl), fun x hx => (by rw [hfin.out] at hx; cases hx), fun e' he => (by rw [hfin.out] at he; cases he; exact ⟨rfl, by decide⟩), (by (repeat refine Below.setCell ?_ (by first | exact Nat.le_refl _ | exact Nat.le_succ _) _); exact hbh.out)⟩
          · go_wp2
            refine bodyPost_ret (v := .tuple #[.agg #[.int .i64 2, .string p, .int .u64 0, .int .i64 0, .int .i64 0], .int .i64 (a : Int), .int .i64 8]) (by simp [results, Tryz.results45, go_sem, c00, c01, c02, c03, c04]) rfl ?_
            exact ⟨⟨2, l.take c, 0⟩, a, 8, (by unfold tkV; rw [hp.out]; rfl), fun x hx => (by rw [hfin.out] at hx; cases hx), fun e' he => (by rw [hfin.out] at he; cases he; exact ⟨rfl, by decide⟩), (by (repeat refine Below.setCell ?_ (by first | exact Nat.le_refl _ | exact Nat.le_succ _) _); exact hbh.out)⟩

set_option maxRecDepth 100000 in
set_option maxHeartbeats 8000000 in
theorem refOne_num (s : ByteArray) (a : Nat) (w : World) (hs : s.size ≤ 2000000) (ha : a < s.size) (h1 : lowB (s[a]'ha) = false) (h2 : digB (s[a]'ha) = true) :
    Calls Tryz.prog 45 #[.string s, .int .i64 a] w (ROne (s.data.toList.drop a) a w) := by
  obtain ⟨l, hl⟩ : ∃ l, s.data.toList.drop a = l := ⟨_, rfl⟩
  have hlen : l.length = s.size - a := by rw [← hl, List.length_drop, size_list]
  have hhd : l.headD 0 = s[a]'ha := by
    have := get_list s a ha
    rw [← hl, List.headD_eq_head?_getD, List.head?_drop, this]
    rfl
  obtain ⟨n, hn⟩ : ∃ n, spanN partB l = n := ⟨_, rfl⟩
  have hnl : n ≤ l.length := by rw [← hn]; exact span_le _ _
  have hgl : ∀ c (h : a + c < s.size), l[c]? = some (s[a + c]'h) := fun c h => by rw [← hl, drop_get]; exact get_list s (a + c) h
  have hin := Lib.hid (show ∀ c (h : a + c < s.size), c < n → partB (s[a + c]'h) = true from fun c h hc => span_in partB l c _ (hgl c h) (by rw [hn]; exact hc))
  have hout := Lib.hid (show ∀ (h : a + n < s.size), partB (s[a + n]'h) = false from fun h => span_out partB l _ (by rw [hn]; exact hgl n h))
  have hex : s.extract a (a + n) = mkB (l.take n) := by rw [extract_mk, hl]
  have hsz : (mkB (l.take n)).size = n := by rw [← size_list, mkB_list, List.length_take]; omega
  have hxl := Lib.hid (show (l.take n).length = n by rw [List.length_take]; omega)
  obtain ⟨p, hp⟩ : ∃ p, mkB (l.take n) = p := ⟨_, rfl⟩
  rw [hp] at hex hsz
  obtain ⟨W, hW⟩ : ∃ W, (w.alloc (.cells #[.int .i64 0, .string ⟨#[]⟩, .int .u64 0, .int .i64 0, .int .i64 0] 48)).alloc (.cells #[.int .i64 0, .string p, .int .u64 0, .int .i64 0, .int .i64 0] 48) = W := ⟨_, rfl⟩
  rw [hl]
  clear hl
  have hWz : W.heap.size = w.heap.size + 2 := by rw [← hW]; simp
  have hWb : Below w.heap.size w W := by rw [← hW]; exact ((Below.refl w.heap.size w).alloc (Nat.le_refl _) _).alloc (by simp) _
  have hW0 : W.heap[w.heap.size]? = some (.cells #[.int .i64 0, .string ⟨#[]⟩, .int .u64 0, .int .i64 0, .int .i64 0] 48 (0, 0)) := by
    rw [← hW, heap_alloc_old _ _ (by simp)]; exact heap_alloc_new _ _
  have hW1 : W.heap[w.heap.size + 1]? = some (.cells #[.int .i64 0, .string p, .int .u64 0, .int .i64 0, .int .i64 0] 48 (0, 0)) := by
    rw [← hW]; exact heap_alloc_new' (by simp) _
  have hnu := refNumber_any p W (by omega)
  have hone : oneR l = (match numI (mkB (l.take n)) with | some u => .ok ⟨3, l.take n, u⟩ | none => .error 15) := by
    unfold oneR
    simp only []
    rw [hhd, h1, h2, hn]
    rfl
  rw [hp] at hone
  have hl1 := refLetter_any (s[a]'ha) ((w.alloc (.cells #[.int .i64 0, .string ⟨#[]⟩, .int .u64 0, .int .i64 0, .int .i64 0] 48)).alloc (.cells #[.int .i64 0, .string p, .int .u64 0, .int .i64 0, .int .i64 0] 48))
  rw [h1] at hl1
  have hl2 := digit_any (s[a]'ha) ((w.alloc (.cells #[.int .i64 0, .string ⟨#[]⟩, .int .u64 0, .int .i64 0, .int .i64 0] 48)).alloc (.cells #[.int .i64 0, .string p, .int .u64 0, .int .i64 0, .int .i64 0] 48))
  rw [h2] at hl2
  have hl1 := Lib.hid hl1
  have hl2 := Lib.hid hl2
  have hnu := Lib.hid hnu
  have hone := Lib.hid hone
  have hp := Lib.hid hp
  have hWb := Lib.hid hWb
  have hWW := Lib.hid hW
  clear hW
  have hW0 := Lib.hid hW0
  have hW1 := Lib.hid hW1
  have hle : ((a + n : Nat) : Int) ≤ (s.size : Int) := by omega
  clear hn hgl
  go_enter Tryz.func45, Tryz.ntmps45
  go_wp2_with fail
  go_loopg [7] n (fun g s7 wr => ∃ c : Nat, c + g = n ∧ s7 = .int .i64 ((a + c : Nat) : Int) ∧ wr = w.alloc (.cells #[.int .i64 0, .string ⟨#[]⟩, .int .u64 0, .int .i64 0, .int .i64 0] 48))
  case atStart => exact ⟨0, by omega, rfl, rfl⟩
  case round =>
    obtain ⟨c, hcg, rfl, rfl⟩ := hrel
    cases gk with
    | succ g =>
      have hlt : a + c < s.size := by omega
      have e0 : ((a + c : Nat) : Int) < (s.size : Int) := by omega
      have hpe := refPart_any (s[a + c]'hlt) (w.alloc (.cells #[.int .i64 0, .string ⟨#[]⟩, .int .u64 0, .int .i64 0, .int .i64 0] 48))
      rw [hin.out c hlt (by omega)] at hpe
      have hpe := Lib.hid hpe
      go_wp2_with fail
      refine hpe.out.mono ?_
      rintro e w3 ⟨rfl, rfl⟩
      go_wp2
      go_roundg g
      case measure => omega
      case rel => exact ⟨c + 1, by omega, by go_num, rfl⟩
    | zero =>
      obtain rfl : c = n := by omega
      rcases Nat.lt_or_ge (a + c) s.size with hlt | hge
      · have e0 : ((a + c : Nat) : Int) < (s.size : Int) := by omega
        have hpe := refPart_any (s[a + c]'hlt) (w.alloc (.cells #[.int .i64 0, .string ⟨#[]⟩, .int .u64 0, .int .i64 0, .int .i64 0] 48))
        rw [hout.out hlt] at hpe
        have hpe := Lib.hid hpe
        go_wp2_with (first | (go_at_call 36; refine hpe.out.mono ?_; rintro e w3 ⟨rfl, rfl⟩) | (go_at_call 35; refine hl1.out.mono ?_; rintro e w3 ⟨rfl, rfl⟩) | (go_at_call 31; refine hl2.out.mono ?_; rintro e w3 ⟨rfl, rfl⟩))
        rw [hWW.out]
        refine hnu.out.mono ?_
        rintro e w1 ⟨v, er, rfl, hno, hyes, rfl⟩
        obtain ⟨c00, c01, c02, c03, c04, f0⟩ := box5 hW0.out
        obtain ⟨c10, c11, c12, c13, c14, f1⟩ := box5 hW1.out
        have hne : w.heap.size ≠ w.heap.size + 1 := by omega
        have hbh := hWb
        rcases hq : numI p with _ | u
        · have hfin := Lib.hid (show oneR l = .error 15 by rw [hone.out, hq])
          obtain ⟨rfl, rfl⟩ := hno hq
          clear hno hyes hq
          go_wp2
          refine bodyPost_ret (v := .tuple #[.agg #[.int .i64 3, .string p, .int .u64 0, .int .i64 0, .int .i64 0], .int .i64 ((a + c : Nat) : Int), .int .i64 15]) (by simp [results, Tryz.results45, go_sem, c00, c01, c02, c03, c04]) rfl ?_
          exact ⟨⟨3, l.take c, 0⟩, a + c, 15, (by unfold tkV; rw [hp.out]; rfl), fun x hx => (by rw [hfin.out] at hx; cases hx), fun e' he => (by rw [hfin.out] at he; cases he; exact ⟨rfl, by decide⟩), (by (repeat refine Below.setCell ?_ (by first | exact Nat.le_refl _ | exact Nat.le_succ _) _); exact hbh.out)⟩
        · have hfin := Lib.hid (show oneR l = .ok ⟨3, l.take c, u⟩ by rw [hone.out, hq])
          obtain ⟨rfl, rfl⟩ := hyes u hq
          clear hno hyes hq
          go_wp2
          refine bodyPost_ret (v := .tuple #[.agg #[.int .i64 3, .string p, .int .u64 u, .int .i64 0, .int .i64 0], .int .i64 ((a + c : Nat) : Int), .int .i64 0]) (by simp [results, Tryz.results45, go_sem, c00, c01, c02, c03, c04]) rfl ?_
          exact ⟨⟨3, l.take c, u⟩, a + c, 0, (by unfold tkV; rw [hp.out]), fun x hx => (by rw [hfin.out] at hx; cases hx; exact ⟨rfl, by rw [hxl.out], rfl⟩), fun e' he => (by rw [hfin.out] at he; cases he), (by (repeat refine Below.setCell ?_ (by first | exact Nat.le_refl _ | exact Nat.le_succ _) _); exact hbh.out)⟩
      · have e0 : ¬ ((a + c : Nat) : Int) < (s.size : Int) := by omega
        have hpe := hl1
        go_wp2_with (first | (go_at_call 36; refine hpe.out.mono ?_; rintro e w3 ⟨rfl, rfl⟩) | (go_at_call 35; refine hl1.out.mono ?_; rintro e w3 ⟨rfl, rfl⟩) | (go_at_call 31; refine hl2.out.mono ?_; rintro e w3 ⟨rfl, rfl⟩))
        rw [hWW.out]
        refine hnu.out.mono ?_
        rintro e w1 ⟨v, er, rfl, hno, hyes, rfl⟩
        obtain ⟨c00, c01, c02, c03, c04, f0⟩ := box5 hW0.out
        obtain ⟨c10, c11, c12, c13, c14, f1⟩ := box5 hW1.out
        have hne : w.heap.size ≠ w.heap.size + 1 := by omega
        have hbh := hWb
        rcases hq : numI p with _ | u
        · have hfin := Lib.hid (show oneR l = .error 15 by rw [hone.out, hq])
          obtain ⟨rfl, rfl⟩ := hno hq
          clear hno hyes hq
          go_wp2
          refine bodyPost_ret (v := .tuple #[.agg #[.int .i64 3, .string p, .int .u64 0, .int .i64 0, .int .i64 0], .int .i64 ((a + c : Nat) : Int), .int .i64 15]) (by simp [results, Tryz.results45, go_sem, c00, c01, c02, c03, c04]) rfl ?_
          exact ⟨⟨3, l.take c, 0⟩, a + c, 15, (by unfold tkV; rw [hp.out]; rfl), fun x hx => (by rw [hfin.out] at hx; cases hx), fun e' he => (by rw [hfin.out] at he; cases he; exact ⟨rfl, by decide⟩), (by (repeat refine Below.setCell ?_ (by first | exact Nat.le_refl _ | exact Nat.le_succ _) _); exact hbh.out)⟩
        · have hfin := Lib.hid (show oneR l = .ok ⟨3, l.take c, u⟩ by rw [hone.out, hq])
          obtain ⟨rfl, rfl⟩ := hyes u hq
          clear hno hyes hq
          go_wp2
          refine bodyPost_ret (v := .tuple #[.agg #[.int .i64 3, .string p, .int .u64 u, .int .i64 0, .int .i64 0], .int .i64 ((a + c : Nat) : Int), .int .i64 0]) (by simp [results, Tryz.results45, go_sem, c00, c01, c02, c03, c04]) rfl ?_
          exact ⟨⟨3, l.take c, u⟩, a + c, 0, (by unfold tkV; rw [hp.out]), fun x hx => (by rw [hfin.out] at hx; cases hx; exact ⟨rfl, by rw [hxl.out], rfl⟩), fun e' he => (by rw [hfin.out] at he; cases he), (by (repeat refine Below.setCell ?_ (by first | exact Nat.le_refl _ | exact Nat.le_succ _) _); exact hbh.out)⟩

set_option maxRecDepth 100000 in
set_option maxHeartbeats 8000000 in
theorem refOne_sign (s : ByteArray) (a : Nat) (w : World) (hs : s.size ≤ 2000000) (ha : a < s.size) (h1 : lowB (s[a]'ha) = false) (h2 : digB (s[a]'ha) = false) :
    Calls Tryz.prog 45 #[.string s, .int .i64 a] w (ROne (s.data.toList.drop a) a w) := by
  obtain ⟨l, hl⟩ : ∃ l, s.data.toList.drop a = l := ⟨_, rfl⟩
  have hlen : l.length = s.size - a := by rw [← hl, List.length_drop, size_list]
  have hhd : l.headD 0 = s[a]'ha := by
    have := get_list s a ha
    rw [← hl, List.headD_eq_head?_getD, List.head?_drop, this]
    rfl
  obtain ⟨n, hn⟩ : ∃ n, spanN partB l = n := ⟨_, rfl⟩
  have hnl : n ≤ l.length := by rw [← hn]; exact span_le _ _
  have hgl : ∀ c (h : a + c < s.size), l[c]? = some (s[a + c]'h) := fun c h => by rw [← hl, drop_get]; exact get_list s (a + c) h
  have hin := Lib.hid (show ∀ c (h : a + c < s.size), c < n → partB (s[a + c]'h) = true from fun c h hc => span_in partB l c _ (hgl c h) (by rw [hn]; exact hc))
  have hout := Lib.hid (show ∀ (h : a + n < s.size), partB (s[a + n]'h) = false from fun h => span_out partB l _ (by rw [hn]; exact hgl n h))
  have hex : s.extract a (a + n) = mkB (l.take n) := by rw [extract_mk, hl]
  have hsz : (mkB (l.take n)).size = n := by rw [← size_list, mkB_list, List.length_take]; omega
  have hxl := Lib.hid (show (l.take n).length = n by rw [List.length_take]; omega)
  obtain ⟨p, hp⟩ : ∃ p, mkB (l.take n) = p := ⟨_, rfl⟩
  rw [hp] at hex hsz
  obtain ⟨W, hW⟩ : ∃ W, (w.alloc (.cells #[.int .i64 0, .string ⟨#[]⟩, .int .u64 0, .int .i64 0, .int .i64 0] 48)).alloc (.cells #[.int .i64 0, .string p, .int .u64 0, .int .i64 0, .int .i64 0] 48) = W := ⟨_, rfl⟩
  have hsg := sg_any s a W hs (by omega)
  rw [hl] at hsg
  have hsl := sgN_le l
  obtain ⟨k, hk⟩ : ∃ k, sgN l = k := ⟨_, rfl⟩
  rw [hk] at hsg hsl
  have hexk : s.extract a (a + k) = mkB (l.take k) := by rw [extract_mk, hl]
  have hkl := Lib.hid (show (l.take k).length = k by rw [List.length_take]; omega)
  rw [hl]
  clear hl
  have hWz : W.heap.size = w.heap.size + 2 := by rw [← hW]; simp
  have hWb : Below w.heap.size w W := by rw [← hW]; exact ((Below.refl w.heap.size w).alloc (Nat.le_refl _) _).alloc (by simp) _
  have hW0 : W.heap[w.heap.size]? = some (.cells #[.int .i64 0, .string ⟨#[]⟩, .int .u64 0, .int .i64 0, .int .i64 0] 48 (0, 0)) := by
    rw [← hW, heap_alloc_old _ _ (by simp)]; exact heap_alloc_new _ _
  have hW1 : W.heap[w.heap.size + 1]? = some (.cells #[.int .i64 0, .string p, .int .u64 0, .int .i64 0, .int .i64 0] 48 (0, 0)) := by
    rw [← hW]; exact heap_alloc_new' (by simp) _
  have hone : oneR l = if sgN l = 0 then .error 15 else .ok ⟨4, l.take (sgN l), 0⟩ := by
    unfold oneR
    simp only []
    rw [hhd, h1, h2]
    rfl
  rw [hk] at hone
  obtain ⟨q, hq⟩ : ∃ q, mkB (l.take k) = q := ⟨_, rfl⟩
  rw [hq] at hexk
  have hl1 := refLetter_any (s[a]'ha) ((w.alloc (.cells #[.int .i64 0, .string ⟨#[]⟩, .int .u64 0, .int .i64 0, .int .i64 0] 48)).alloc (.cells #[.int .i64 0, .string p, .int .u64 0, .int .i64 0, .int .i64 0] 48))
  rw [h1] at hl1
  have hl2 := digit_any (s[a]'ha) ((w.alloc (.cells #[.int .i64 0, .string ⟨#[]⟩, .int .u64 0, .int .i64 0, .int .i64 0] 48)).alloc (.cells #[.int .i64 0, .string p, .int .u64 0, .int .i64 0, .int .i64 0] 48))
  rw [h2] at hl2
  have hl1 := Lib.hid hl1
  have hl2 := Lib.hid hl2
  have hsg := Lib.hid hsg
  have hone := Lib.hid hone
  have hp := Lib.hid hp
  have hq := Lib.hid hq
  have hWb := Lib.hid hWb
  have hWW := Lib.hid hW
  clear hW
  have hW0 := Lib.hid hW0
  have hW1 := Lib.hid hW1
  have hle : ((a + n : Nat) : Int) ≤ (s.size : Int) := by omega
  have hle2 : ((a + k : Nat) : Int) ≤ (s.size : Int) := by omega
  have hle3 : (a : Int) + (k : Int) ≤ (s.size : Int) := by omega
  have hw2 : IntKind.i64.wrap ((a : Int) + (k : Int)) = ((a + k : Nat) : Int) := by rw [IntKind.wrap_i64]; omega
  clear hn hgl hk
  go_enter Tryz.func45, Tryz.ntmps45
  go_wp2_with fail
  go_loopg [7] n (fun g s7 wr => ∃ c : Nat, c + g = n ∧ s7 = .int .i64 ((a + c : Nat) : Int) ∧ wr = w.alloc (.cells #[.int .i64 0, .string ⟨#[]⟩, .int .u64 0, .int .i64 0, .int .i64 0] 48))
  case atStart => exact ⟨0, by omega, rfl, rfl⟩
  case round =>
    obtain ⟨c, hcg, rfl, rfl⟩ := hrel
    cases gk with
    | succ g =>
      have hlt : a + c < s.size := by omega
      have e0 : ((a + c : Nat) : Int) < (s.size : Int) := by omega
      have hpe := refPart_any (s[a + c]'hlt) (w.alloc (.cells #[.int .i64 0, .string ⟨#[]⟩, .int .u64 0, .int .i64 0, .int .i64 0] 48))
      rw [hin.out c hlt (by omega)] at hpe
      have hpe := Lib.hid hpe
      go_wp2_with fail
      refine hpe.out.mono ?_
      rintro e w3 ⟨rfl, rfl⟩
      go_wp2
      go_roundg g
      case measure => omega
      case rel => exact ⟨c + 1, by omega, by go_num, rfl⟩
    | zero =>
      obtain rfl : c = n := by omega
      rcases Nat.lt_or_ge (a + c) s.size with hlt | hge
      · have e0 : ((a + c : Nat) : Int) < (s.size : Int) := by omega
        have hpe := refPart_any (s[a + c]'hlt) (w.alloc (.cells #[.int .i64 0, .string ⟨#[]⟩, .int .u64 0, .int .i64 0, .int .i64 0] 48))
        rw [hout.out hlt] at hpe
        have hpe := Lib.hid hpe
        go_wp2_with (first | (go_at_call 36; refine hpe.out.mono ?_; rintro e w3 ⟨rfl, rfl⟩) | (go_at_call 35; refine hl1.out.mono ?_; rintro e w3 ⟨rfl, rfl⟩) | (go_at_call 31; refine hl2.out.mono ?_; rintro e w3 ⟨rfl, rfl⟩))
        rw [hWW.out]
        refine hsg.out.mono ?_
        rintro e w1 ⟨rfl, hb⟩
        have hbh := Lib.hid (Below.next hWb.out hb)
        obtain ⟨c00, c01, c02, c03, c04, f0⟩ := box5 ((hb.block w.heap.size (by omega)).trans hW0.out)
        obtain ⟨c10, c11, c12, c13, c14, f1⟩ := box5 ((hb.block (w.heap.size + 1) (by omega)).trans hW1.out)
        have hne : w.heap.size ≠ w.heap.size + 1 := by omega
        clear hb
        by_cases hk0 : k = 0
        · subst hk0
          have hfin := Lib.hid (show oneR l = .error 15 by rw [hone.out, if_pos rfl])
          go_wp2
          refine bodyPost_ret (v := .tuple #[.agg #[.int .i64 4, .string ByteArray.empty, .int .u64 0, .int .i64 0, .int .i64 0], .int .i64 (a : Int), .int .i64 15]) (by simp [results, Tryz.results45, go_sem, c00, c01, c02, c03, c04]) rfl ?_
          exact ⟨⟨4, l.take 0, 0⟩, a, 15, (by unfold tkV; rfl), fun x hx => (by rw [hfin.out] at hx; cases hx), fun e' he => (by rw [hfin.out] at he; cases he; exact ⟨rfl, by decide⟩), (by (repeat refine Below.setCell ?_ (by first | exact Nat.le_refl _ | exact Nat.le_succ _) _); exact hbh.out)⟩
        · have hfin := Lib.hid (show oneR l = .ok ⟨4, l.take k, 0⟩ by rw [hone.out, if_neg hk0])
          have ek : ((k : Int) == 0) = false := by simp; omega
          have ek2 : ¬ (k : Int) = 0 := by omega
          go_wp2
          refine bodyPost_ret (v := .tuple #[.agg #[.int .i64 4, .string q, .int .u64 0, .int .i64 0, .int .i64 0], .int .i64 ((a + k : Nat) : Int), .int .i64 0]) (by simp [results, Tryz.results45, go_sem, c00, c01, c02, c03, c04]) rfl ?_
          exact ⟨⟨4, l.take k, 0⟩, a + k, 0, (by unfold tkV; rw [hq.out]; rfl), fun x hx => (by rw [hfin.out] at hx; cases hx; exact ⟨rfl, by rw [hkl.out], rfl⟩), fun e' he => (by rw [hfin.out] at he; cases he), (by (repeat refine Below.setCell ?_ (by first | exact Nat.le_refl _ | exact Nat.le_succ _) _); exact hbh.out)⟩
      · have e0 : ¬ ((a + c : Nat) : Int) < (s.size : Int) := by omega
        have hpe := hl1
        go_wp2_with (first | (go_at_call 36; refine hpe.out.mono ?_; rintro e w3 ⟨rfl, rfl⟩) | (go_at_call 35; refine hl1.out.mono ?_; rintro e w3 ⟨rfl, rfl⟩) | (go_at_call 31; refine hl2.out.mono ?_; rintro e w3 ⟨rfl, rfl⟩))
        rw [hWW.out]
        refine hsg.out.mono ?_
        rintro e w1 ⟨rfl, hb⟩
        have hbh := Lib.hid (Below.next hWb.out hb)
        obtain ⟨c00, c01, c02, c03, c04, f0⟩ := box5 ((hb.block w.heap.size (by omega)).trans hW0.out)
        obtain ⟨c10, c11, c12, c13, c14, f1⟩ := box5 ((hb.block (w.heap.size + 1) (by omega)).trans hW1.out)
        have hne : w.heap.size ≠ w.heap.size + 1 := by omega
        clear hb
        by_cases hk0 : k = 0
        · subst hk0
          have hfin := Lib.hid (show oneR l = .error 15 by rw [hone.out, if_pos rfl])
          go_wp2
          refine bodyPost_ret (v := .tuple #[.agg #[.int .i64 4, .string ByteArray.empty, .int .u64 0, .int .i64 0, .int .i64 0], .int .i64 (a : Int), .int .i64 15]) (by simp [results, Tryz.results45, go_sem, c00, c01, c02, c03, c04]) rfl ?_
          exact ⟨⟨4, l.take 0, 0⟩, a, 15, (by unfold tkV; rfl), fun x hx => (by rw [hfin.out] at hx; cases hx), fun e' he => (by rw [hfin.out] at he; cases he; exact ⟨rfl, by decide⟩), (by (repeat refine Below.setCell ?_ (by first | exact Nat.le_refl _ | exact Nat.le_succ _) _); exact hbh.out)⟩
        · have hfin := Lib.hid (show oneR l = .ok ⟨4, l.take k, 0⟩ by rw [hone.out, if_neg hk0])
          have ek : ((k : Int) == 0) = false := by simp; omega
          have ek2 : ¬ (k : Int) = 0 := by omega
          go_wp2
          refine bodyPost_ret (v := .tuple #[.agg #[.int .i64 4, .string q, .int .u64 0, .int .i64 0, .int .i64 0], .int .i64 ((a + k : Nat) : Int), .int .i64 0]) (by simp [results, Tryz.results45, go_sem, c00, c01, c02, c03, c04]) rfl ?_
          exact ⟨⟨4, l.take k, 0⟩, a + k, 0, (by unfold tkV; rw [hq.out]; rfl), fun x hx => (by rw [hfin.out] at hx; cases hx; exact ⟨rfl, by rw [hkl.out], rfl⟩), fun e' he => (by rw [hfin.out] at he; cases he), (by (repeat refine Below.setCell ?_ (by first | exact Nat.le_refl _ | exact Nat.le_succ _) _); exact hbh.out)⟩

theorem refOne_any (s : ByteArray) (a : Nat) (w : World) (hs : s.size ≤ 2000000) (ha : a < s.size) : Calls Tryz.prog 45 #[.string s, .int .i64 a] w (ROne (s.data.toList.drop a) a w) := by
  rcases h1 : lowB (s[a]'ha)
  · rcases h2 : digB (s[a]'ha)
    · exact refOne_sign s a w hs ha h1 h2
    · exact refOne_num s a w hs ha h1 h2
  · exact refOne_name s a w hs ha h1
end Go.Proofs.YtmkfoknhjjgipaaGreatDoor
