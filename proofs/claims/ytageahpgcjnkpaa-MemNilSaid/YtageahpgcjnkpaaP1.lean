/- A memory's words, told as lists of lists: Words, and the reference's. -/
import Derived.Test.YtageahpgcjnkpaaZ
set_option linter.unusedSimpArgs false
set_option linter.unusedVariables false
namespace Go.Proofs.Ytageahpgcjnkpaa
open Go.RowKit

def wCells (ws : List Int) : List Value := ws.map fun x => .int .u64 x
/-- a slice in blocks of its own that reads as words -/
def WOwn (w : World) (B : Nat) (A : Option Addr) (ws : List Int) : Prop :=
  (∀ x ∈ ws, 0 ≤ x ∧ x ≤ 18446744073709551615) ∧ (0 < ws.length → ∃ blk cur, A = some ⟨blk, 0, none⟩ ∧ B ≤ blk ∧ w.heap[blk]? = some (.cells cur 30 (0, 0)) ∧ ∀ (i : Nat) x, ws[i]? = some x → cur[i]? = some (Value.int .u64 x))
/-- the slices of an outer row, each with its words -/
def Rows_ (w : World) (B : Nat) (Vs : List Value) (W : List (List Int)) : Prop :=
  Vs.length = W.length ∧ ∀ (i : Nat) ws, W[i]? = some ws → ∃ A c, Vs[i]? = some (Value.slice A ws.length c) ∧ ws.length ≤ c ∧ c ≤ 9223372036854775807 ∧ WOwn w B A ws
/-- a slice of slices in blocks of its own -/
def WsOwn (w : World) (B : Nat) (A : Option Addr) (W : List (List Int)) : Prop :=
  0 < W.length → ∃ blk cur, A = some ⟨blk, 0, none⟩ ∧ B ≤ blk ∧ w.heap[blk]? = some (.cells cur 80 (0, 0)) ∧ ∀ (i : Nat) ws, W[i]? = some ws → ∃ A' c, cur[i]? = some (Value.slice A' ws.length c) ∧ ws.length ≤ c ∧ c ≤ 9223372036854775807 ∧ WOwn w B A' ws

theorem WOwn.wAt {w : World} {B : Nat} {A : Option Addr} {ws : List Int} (h : WOwn w B A ws) : WAt w A ws := by
  refine ⟨h.1, fun hn => ?_⟩
  obtain ⟨blk, cur, e, _, hb, hc⟩ := h.2 hn
  exact ⟨blk, 0, e, fun i x hx => by rw [blk_cell hb, Nat.zero_add]; exact hc i x hx⟩
theorem WsOwn.wsAt {w : World} {B : Nat} {A : Option Addr} {W : List (List Int)} (h : WsOwn w B A W) : WsAt w A W := by
  intro hn
  obtain ⟨blk, cur, e, _, hb, hc⟩ := h hn
  refine ⟨blk, 0, e, fun i ws hws => ?_⟩
  obtain ⟨A', c, h1, h2, h3, h4⟩ := hc i ws hws
  exact ⟨A', c, by rw [blk_cell hb, Nat.zero_add]; exact h1, h2, h3, h4.wAt⟩
theorem WOwn.keep {w w' : World} {B : Nat} {A : Option Addr} {ws : List Int} (h : WOwn w B A ws) (hk : ∀ blk cur, B ≤ blk → w.heap[blk]? = some (.cells cur 30 (0, 0)) → w'.heap[blk]? = some (.cells cur 30 (0, 0))) : WOwn w' B A ws := by
  refine ⟨h.1, fun hn => ?_⟩
  obtain ⟨blk, cur, e, hB, hb, hc⟩ := h.2 hn
  exact ⟨blk, cur, e, hB, hk _ _ hB hb, hc⟩
theorem WOwn.less {w : World} {B B' : Nat} {A : Option Addr} {ws : List Int} (h : WOwn w B A ws) (hB : B' ≤ B) : WOwn w B' A ws := by
  refine ⟨h.1, fun hn => ?_⟩
  obtain ⟨blk, cur, e, hb, h2, hc⟩ := h.2 hn
  exact ⟨blk, cur, e, Nat.le_trans hB hb, h2, hc⟩
theorem Rows_.keep {w w' : World} {B : Nat} {Vs : List Value} {W : List (List Int)} (h : Rows_ w B Vs W) (hk : ∀ blk cur, B ≤ blk → w.heap[blk]? = some (.cells cur 30 (0, 0)) → w'.heap[blk]? = some (.cells cur 30 (0, 0))) : Rows_ w' B Vs W := by
  refine ⟨h.1, fun i ws hws => ?_⟩
  obtain ⟨A, c, h1, h2, h3, h4⟩ := h.2 i ws hws
  exact ⟨A, c, h1, h2, h3, h4.keep hk⟩
theorem Rows_.below {w w' : World} {B : Nat} {Vs : List Value} {W : List (List Int)} (h : Rows_ w B Vs W) (hb : Below w.heap.size w w') : Rows_ w' B Vs W := h.keep fun blk cur _ hc => (hb.block blk (blk_lt hc)).trans hc
theorem WsOwn.below {w w' : World} {B : Nat} {A : Option Addr} {W : List (List Int)} (h : WsOwn w B A W) (hb : Below w.heap.size w w') : WsOwn w' B A W := by
  intro hn
  obtain ⟨blk, cur, e, hB, h2, hc⟩ := h hn
  refine ⟨blk, cur, e, hB, (hb.block blk (blk_lt h2)).trans h2, fun i ws hws => ?_⟩
  obtain ⟨A', c, k1, k2, k3, k4⟩ := hc i ws hws
  exact ⟨A', c, k1, k2, k3, k4.keep fun blk cur _ hc => (hb.block blk (blk_lt hc)).trans hc⟩
theorem Rows_.snoc {w : World} {B : Nat} {Vs : List Value} {W : List (List Int)} {A : Option Addr} {c : Nat} {ws : List Int} (h : Rows_ w B Vs W) (h2 : ws.length ≤ c) (h3 : c ≤ 9223372036854775807) (h4 : WOwn w B A ws) : Rows_ w B (Vs ++ [.slice A ws.length c]) (W ++ [ws]) := by
  refine ⟨by simp [h.1], fun i ws' hws => ?_⟩
  rcases Nat.lt_or_ge i W.length with hi | hi
  · rw [List.getElem?_append_left hi] at hws
    obtain ⟨A', c', k1, k2⟩ := h.2 i ws' hws
    exact ⟨A', c', by rw [List.getElem?_append_left (by rw [h.1]; exact hi)]; exact k1, k2⟩
  · rw [List.getElem?_append_right hi] at hws
    have hi0 : i - W.length = 0 := by
      have := (List.getElem?_eq_some_iff.1 hws).1
      simp at this
      omega
    rw [hi0] at hws
    simp at hws
    subst hws
    exact ⟨A, c, by rw [List.getElem?_append_right (by rw [h.1]; exact hi), h.1, hi0]; rfl, h2, h3, h4⟩
/-- a row of the call's own that holds words -/
theorem row_own {w : World} {base n : Nat} {v : Value} {ws : List Int} (h : w.ownsRow base 30 1 v n (wCells ws)) (hb : ∀ x ∈ ws, 0 ≤ x ∧ x ≤ 18446744073709551615) :
    ∃ A c, v = .slice A ws.length c ∧ ws.length ≤ c ∧ c ≤ 9223372036854775807 ∧ WOwn w base A ws ∧ n = ws.length := by
  obtain ⟨hl, h⟩ := h
  have hl' : ws.length = n := by simpa [wCells] using hl
  rcases h with ⟨rfl, rfl⟩ | ⟨g, cap, cur, rfl, hg, hh, hcap, hm, hs, ht⟩
  · obtain rfl : ws = [] := List.eq_nil_of_length_eq_zero hl'
    exact ⟨none, 0, rfl, Nat.le_refl _, by omega, ⟨hb, fun h => absurd h (by simp)⟩, rfl⟩
  · refine ⟨some ⟨g, 0, none⟩, cap, by rw [hl'], by omega, hm, ⟨hb, fun _ => ⟨g, cur, rfl, hg, hh, fun i x hx => ?_⟩⟩, hl'.symm⟩
    have hi : i < ws.length := (List.getElem?_eq_some_iff.1 hx).1
    have h1 : (cur.toList.take (n * 1))[i]? = (wCells ws)[i]? := by rw [ht]
    rw [List.getElem?_take, if_pos (by omega), wCells, List.getElem?_map, hx] at h1
    simpa using h1
theorem rows_own {w : World} {base B n : Nat} {v : Value} {Vs : List Value} {W : List (List Int)} (h : w.ownsRow base 80 1 v n Vs) (hr : Rows_ w B Vs W) (hB : B ≤ base) :
    ∃ A c, v = .slice A n c ∧ n ≤ c ∧ c ≤ 9223372036854775807 ∧ WsOwn w B A W ∧ W.length = n := by
  obtain ⟨hl, h⟩ := h
  have hl' : W.length = n := by have := hr.1; omega
  rcases h with ⟨rfl, rfl⟩ | ⟨g, cap, cur, rfl, hg, hh, hcap, hm, hs, ht⟩
  · exact ⟨none, 0, rfl, Nat.le_refl _, by omega, fun h => absurd h (by omega), hl'⟩
  · refine ⟨some ⟨g, 0, none⟩, cap, rfl, hcap, hm, fun _ => ⟨g, cur, rfl, Nat.le_trans hB hg, hh, fun i ws hws => ?_⟩, hl'⟩
    obtain ⟨A', c, k1, k2, k3, k4⟩ := hr.2 i ws hws
    have hi : i < W.length := (List.getElem?_eq_some_iff.1 hws).1
    have h1 : (cur.toList.take (n * 1))[i]? = Vs[i]? := by rw [ht]
    rw [List.getElem?_take, if_pos (by omega), k1] at h1
    exact ⟨A', c, by simpa using h1, k2, k3, k4⟩
theorem ownsRow_below {w w' : World} {base size n : Nat} {e : TypeId} {v : Value} {xs : List Value} (h : w.ownsRow base e size v n xs) (hb : Below w.heap.size w w') : w'.ownsRow base e size v n xs :=
  h.kept (grown_of_below hb none) (by cases hv : v.ownBlock with | none => exact .inl rfl | some k => exact .inr (by simp))
/-- the blocks of words are kept where an outer row has turned -/
theorem keep30 {w w' : World} {base n : Nat} {v : Value} {Vs : List Value} (h : w.ownsRow base 80 1 v n Vs) (hg : w.grownBy w' v.ownBlock) : ∀ (B blk : Nat) (cur : Array Value), B ≤ blk → w.heap[blk]? = some (.cells cur 30 (0, 0)) → w'.heap[blk]? = some (.cells cur 30 (0, 0)) := by
  intro B blk cur _ hc
  refine (hg.block blk (blk_lt hc) ?_).trans hc
  obtain ⟨_, h⟩ := h
  rcases h with ⟨rfl, rfl⟩ | ⟨g, cap, cur', rfl, _, hh, _⟩
  · simp [Value.ownBlock]
  · simp only [Value.ownBlock]
    intro e
    injection e with e
    subst e
    rw [hc] at hh
    injection hh with hh
    injection hh with _ ht
    exact absurd ht (by decide)

/-- the words of a memory -/
def rowW (f : Nat → Int) (r : Reg) (k : Nat) : List Int := (List.range k).map fun j => get8 f (r.addr.toNat + 8 * j)
def wordsL (f : Nat → Int) (L : List Reg) : List (List Int) := L.map fun r => rowW f r r.size.toNat
theorem rowW_succ (f : Nat → Int) (r : Reg) (k : Nat) : rowW f r (k + 1) = rowW f r k ++ [get8 f (r.addr.toNat + 8 * k)] := by
  unfold rowW
  rw [List.range_succ, List.map_append]
  rfl
theorem rowW_len (f : Nat → Int) (r : Reg) (k : Nat) : (rowW f r k).length = k := by simp [rowW]
theorem get8_bd {f : Nat → Int} (hf : ByteFn f) (a : Nat) : 0 ≤ get8 f a ∧ get8 f a ≤ 18446744073709551615 := by
  have h := getN_bd f a hf 8
  exact ⟨h.1, by have : get8 f a < 256 ^ 8 := h.2; omega⟩
theorem rowW_bd {f : Nat → Int} (hf : ByteFn f) (r : Reg) (k : Nat) : ∀ x ∈ rowW f r k, 0 ≤ x ∧ x ≤ 18446744073709551615 := by
  intro x hx
  obtain ⟨j, _, rfl⟩ := List.mem_map.1 hx
  exact get8_bd hf _
theorem wordsL_take {f : Nat → Int} {L : List Reg} {k : Nat} {r : Reg} (h : L[k]? = some r) : wordsL f (L.take (k + 1)) = wordsL f (L.take k) ++ [rowW f r r.size.toNat] := by
  unfold wordsL
  rw [List.take_add_one, h, List.map_append]
  rfl

theorem blk_lt_of_box {w : World} {b : Nat} {r : Reg} (h : Box4 w b r) : b < w.heap.size := cell_some_lt h.1
theorem info30 : (Try.prog.info? 30).map (fun i => (i.zero, i.size, i.bytes)) = some (some (.int .u64 0), 1, 8) := by kernel_rfl
theorem info80 : (Try.prog.info? 80).map (fun i => (i.zero, i.size, i.bytes)) = some (some (.slice none 0 0), 1, 24) := by kernel_rfl
theorem und48 : Try.prog.underlying 48 = some (.slice 80) := by kernel_rfl
theorem und80 : Try.prog.underlying 80 = some (.slice 30) := by kernel_rfl

/-- how Words ends -/
def WordsPost (W : List (List Int)) (n : Nat) (w : World) (e : Ending) (w' : World) : Prop :=
  ∃ A cap, e = .returned (.slice A n cap) ∧ n ≤ cap ∧ cap ≤ 9223372036854775807 ∧ WsOwn w' w.heap.size A W ∧ W.length = n ∧ Below w.heap.size w w'

theorem get_int {p q : Nat} {A : Option Addr} {n cap : Nat} {L : List Reg} {f : Nat → Int} (a : Int) (w : World) (h : Mem_ w p q A n cap L f) (ha0 : 0 ≤ a) (hat : a + 8 ≤ 65536) :
    Calls Try.prog 46 #[.pointer (some ⟨p, 0, none⟩), .int .i64 a] w fun e w' => e = .returned (.int .u64 (get8 f a.toNat)) ∧ w = w' := by
  obtain ⟨m, rfl⟩ := Int.eq_ofNat_of_zero_le ha0
  exact get_any m w h (by omega)
theorem refGet_int {p q : Nat} {A : Option Addr} {n cap : Nat} {L : List Reg} {f : Nat → Int} (a : Int) (w : World) (h : RMem_ w p q A n cap L f) (ha0 : 0 ≤ a) (hat : a + 8 ≤ 65536) :
    Calls Try.prog 51 #[.pointer (some ⟨p, 0, none⟩), .int .i64 a] w fun e w' => e = .returned (.int .u64 (get8 f a.toNat)) ∧ w = w' := by
  obtain ⟨m, rfl⟩ := Int.eq_ofNat_of_zero_le ha0
  exact refGet_any m w h (by omega)

set_option maxRecDepth 100000 in
set_option maxHeartbeats 2000000 in
theorem words_any {p q : Nat} {A : Option Addr} {n cap : Nat} {L : List Reg} {f : Nat → Int} (w : World) (h : Mem_ w p q A n cap L f) (hc : n ≤ cap) (hm : ∀ r ∈ L, mayB r = true) :
    Calls Try.prog 27 #[.pointer (some ⟨p, 0, none⟩)] w (WordsPost (wordsL f L) n w) := by
  obtain ⟨i0, hi, hz0, hz1, hz2⟩ := info_parts info30
  obtain ⟨j0, hj, hy0, hy1, hy2⟩ := info_parts info80
  have hi' := Lib.hid (And.intro hi (And.intro hz0 (And.intro hz1 hz2)))
  have hj' := Lib.hid (And.intro hj (And.intro hy0 (And.intro hy1 hy2)))
  have H := Lib.hid h
  have hm' := Lib.hid hm
  have hn := h.hn
  clear h hm hi hz0 hz1 hz2 hj hy0 hy1 hy2
  go_enter Try.func27, Try.ntmps27
  go_wp2_with fail
  refine (layout_any _ H.out hc).mono ?_
  rintro e w2 ⟨A2, cap2, rfl, z1, z2, hR, hb⟩
  have hR' := Lib.hid hR
  have hb' := Lib.hid hb
  clear hR hb
  go_wp2_with fail
  go_loopg [3, 11] n (fun g s3 s11 wr => ∃ (k : Nat) (Vs : List Value), k + g = n ∧ s11 = .int .i64 k ∧ wr.ownsRow w2.heap.size 80 1 s3 k Vs ∧ Rows_ wr w.heap.size Vs (wordsL f (L.take k)) ∧ Below w2.heap.size w2 wr)
  case atStart => exact ⟨0, [], by omega, rfl, World.ownsRow_nil _ _ _ _, ⟨rfl, by simp [wordsL]⟩, Below.refl _ _⟩
  case round =>
    obtain ⟨k, Vs, hkg, rfl, ho, hV, hbr⟩ := hrel
    have ho' := Lib.hid ho
    have hV' := Lib.hid hV
    have hbr' := Lib.hid hbr
    clear ho hV hbr
    cases gk with
    | zero =>
      have e0 : ¬ ((k : Int) < (n : Int)) := by omega
      have hkn : k = n := by omega
      obtain ⟨A3, c3, hv3, q1, q2, q3, q4⟩ := rows_own ho'.out hV'.out hb'.out.size
      have htk : L.take k = L := List.take_of_length_le (by rw [hR'.out.1]; omega)
      rw [htk] at q3 q4
      have q3' := Lib.hid q3
      clear q3
      subst hkn
      subst hv3
      go_wp2
      go_ret
      exact ⟨A3, c3, rfl, q1, q2, q3'.out, q4, Below.next hb'.out hbr'.out⟩
    | succ g =>
      have e0 : (k : Int) < (n : Int) := by omega
      obtain ⟨blk, off, r, rfl, hB, hL, hRr, hWf⟩ := (hR'.out.below hbr'.out).at_ (k := k) (by omega)
      obtain ⟨m1, m2, m3, m4, m5, m6, m7⟩ := (mayB_iff r).1 (hm'.out r (List.mem_of_getElem? hL))
      obtain ⟨r0, r1, r2, r3⟩ := hRr
      have hL' := Lib.hid hL
      have hbo := Lib.hid ((Below.refl wr.heap.size wr).alloc (Nat.le_refl _) (.cells #[.string r.name, .int .i64 r.addr, .int .i64 r.size, .bool r.sec] 67))
      have hbx := Lib.hid (box4_new wr r 67)
      have hro := Lib.hid (ho'.out.alloc (.cells #[.string r.name, .int .i64 r.addr, .int .i64 r.size, .bool r.sec] 67))
      have hVo := Lib.hid (hV'.out.below hbo.out)
      have hHo := Lib.hid (H.out.below (Below.next hb'.out (Below.next hbr'.out hbo.out)))
      have hall := Lib.hid (Below.next hbr'.out hbo.out)
      have hsz := Below.next hb'.out hall.out |>.size
      obtain ⟨sz, hsz2⟩ : ∃ sz : Nat, (sz : Int) = r.size := ⟨r.size.toNat, by omega⟩
      have hszn : r.size.toNat = sz := by omega
      clear hL hWf
      go_wp2_with fail
      obtain ⟨wo, hwo⟩ : ∃ wo : World, wo = wr.alloc (.cells #[.string r.name, .int .i64 r.addr, .int .i64 r.size, .bool r.sec] 67) := ⟨_, rfl⟩
      obtain ⟨bx, hbxe⟩ : ∃ bx, bx = wr.heap.size := ⟨_, rfl⟩
      rw [← hwo] at hbx hro hVo hHo hall hsz ⊢
      rw [← hbxe] at hbx ⊢
      have hblt := blk_lt_of_box hbx.out
      clear r0 r1 r2 r3 hbo ho' hV' hbr' hwo hbxe
      go_loopg [6, 17] sz (fun g2 s6 s17 wy => ∃ j : Nat, j + g2 = sz ∧ s17 = .int .i64 j ∧ wy.ownsRow wo.heap.size 30 1 s6 j (wCells (rowW f r j)) ∧ Below wo.heap.size wo wy)
      case atStart => exact ⟨0, by omega, rfl, World.ownsRow_nil _ _ _ _, Below.refl _ _⟩
      case round =>
        obtain ⟨j, hjg, rfl, ho2, hb2⟩ := hrel
        have ho2' := Lib.hid ho2
        have hb2' := Lib.hid hb2
        obtain ⟨b0, b1, b2, b3⟩ := hbx.out.below hb2 hblt
        have Hy := Lib.hid (hHo.out.below hb2)
        have hout := Lib.hid (ownsRow_below hro.out hb2)
        have hVy := Lib.hid (hVo.out.below hb2)
        have hly := hb2.size
        clear ho2 hb2
        cases gk with
        | zero =>
          have e1 : ¬ ((j : Int) < r.size) := by omega
          have hjs := Lib.hid (show j = sz by omega)
          obtain ⟨A6, c6, hv6, q1, q2, q3, q4⟩ := row_own ho2'.out (rowW_bd Hy.out.hf r j)
          rw [rowW_len] at hv6 q1
          have q3' := Lib.hid q3
          clear q3 ho2' b0 b1 b2 b3 hjg q4
          subst hv6
          have hown := Lib.hid (hout.out.alloc (.cells #[.slice A6 j c6] 80))
          have hnew := Lib.hid (cell_one_new wr (.slice A6 j c6) 80)
          have hbA := Lib.hid ((Below.refl wr.heap.size wr).alloc (Nat.le_refl _) (.cells #[.slice A6 j c6] 80))
          have hone := Lib.hid (show ∀ u ∈ [Value.slice A6 j c6], u.oneCell' = true by simp [Value.oneCell'])
          have hbs := Lib.hid (show w2.heap.size ≤ (wr.alloc (.cells #[.slice A6 j c6] 80)).heap.size by simp; have := hall.out.size; omega)
          have hk1 := Lib.hid (show k + 1 ≤ maxLen by unfold maxLen; omega)
          have hk2 := Lib.hid (show (k + 1) * 24 ≤ 140737488355328 by omega)
          obtain ⟨hj1, hj2, hj3, hj4⟩ := hj'.out
          go_wp2_with ((at_builtin; refine wpList_append_own_at _ rfl _ _ 48 rfl w2.heap.size 80 j0 _ 1 24 und48 hj1 hj2 hj3 hj4 rfl (by decide) u3 k Vs rfl hown.out ⟨wr.heap.size, 0, none⟩ 1 1 [.slice A6 j c6] rfl rfl hnew.out hone.out hk1.out hk2.out hbs.out ?_; intro v' w4 hown4 hg4 hnil4 hat4))
          have hVn : Rows_ w4 w.heap.size (Vs ++ [.slice A6 j c6]) (wordsL f (L.take (k + 1))) := by
            rw [wordsL_take hL'.out, hszn, ← hjs.out]
            have h5 := ((hVy.out.below hbA.out).keep (keep30 hown.out hg4 w.heap.size)).snoc (A := A6) (c := c6) (ws := rowW f r j) (by rw [rowW_len]; exact q1) q2
              (((q3'.out.less (by omega : w.heap.size ≤ wo.heap.size)).keep fun blk cur _ hc => (hbA.out.block blk (blk_lt hc)).trans hc).keep (keep30 hown.out hg4 w.heap.size))
            rw [rowW_len] at h5
            exact h5
          have hB4 : Below w2.heap.size w2 w4 := (Below.next hall.out (Below.next hb2'.out hbA.out)).grown hg4 (by simp; have := hall.out.size; omega) (fun g' e => (hown.out.lt g' e).1)
          have hVn' := Lib.hid hVn
          have hB4' := Lib.hid hB4
          have hown4' := Lib.hid hown4
          clear hVn hB4 hown4 hg4 hnil4 hat4
          go_wp2
          go_roundg g
          case measure => omega
          case rel => exact ⟨k + 1, _, by omega, by go_num, hown4'.out, hVn'.out, hB4'.out⟩
        | succ g2 =>
          have e1 : (j : Int) < r.size := by omega
          have e2 : (j : Int) < 512 := by omega
          have hget := Lib.hid (get_int (r.addr + 8 * j) wr Hy.out (by omega) (by omega))
          have e8 : (r.addr + 8 * (j : Int)).toNat = r.addr.toNat + 8 * j := by omega
          rw [e8] at hget
          have e8' := Lib.hid e8
          have hrw := Lib.hid (rowW_succ f r j)
          clear e8
          generalize get8 f (r.addr.toNat + 8 * j) = x at hget hrw
          have hown := Lib.hid (ho2'.out.alloc (.cells #[.int .u64 x] 30))
          have hnew := Lib.hid (cell_one_new wr (.int .u64 x) 30)
          have hbA := Lib.hid ((Below.refl wr.heap.size wr).alloc (Nat.le_refl _) (.cells #[.int .u64 x] 30))
          have hone := Lib.hid (show ∀ u ∈ [Value.int .u64 x], u.oneCell' = true by simp [Value.oneCell'])
          have hbs := Lib.hid (show wo.heap.size ≤ (wr.alloc (.cells #[.int .u64 x] 30)).heap.size by simp; omega)
          have hk1 := Lib.hid (show j + 1 ≤ maxLen by unfold maxLen; omega)
          have hk2 := Lib.hid (show (j + 1) * 8 ≤ 140737488355328 by omega)
          obtain ⟨hj1, hj2, hj3, hj4⟩ := hi'.out
          go_wp2_with fail
          refine hget.out.mono ?_
          rintro e w5 ⟨rfl, rfl⟩
          go_wp2_with ((at_builtin; refine wpList_append_own_at _ rfl _ _ 80 rfl wo.heap.size 30 i0 _ 1 8 und80 hj1 hj2 hj3 hj4 rfl (by decide) u6 j (wCells (rowW f r j)) rfl hown.out ⟨wr.heap.size, 0, none⟩ 1 1 [.int .u64 x] rfl rfl hnew.out hone.out hk1.out hk2.out hbs.out ?_; intro v' w4 hown4 hg4 hnil4 hat4))
          have hB4 : Below wo.heap.size wo w4 := (Below.next hb2'.out hbA.out).grown hg4 (by simp; omega) (fun g' e => (hown.out.lt g' e).1)
          have hB4' := Lib.hid hB4
          have hown4' := Lib.hid hown4
          clear hB4 hown4 hg4 hnil4 hat4
          go_wp2
          go_roundg g2
          case measure => omega
          case rel => exact ⟨j + 1, by omega, by go_num, by rw [hrw.out]; simpa [wCells] using hown4'.out, hB4'.out⟩
end Go.Proofs.Ytageahpgcjnkpaa
