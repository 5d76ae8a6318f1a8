/- Lists of words put into a memory: the reference's Fill, Of. -/
import Derived.Test.YtageahpgcjnkpaaT
import Derived.Test.YtageahpgcjnkpaaS2
set_option linter.unusedSimpArgs false
set_option linter.unusedVariables false
namespace Go.Proofs.Ytageahpgcjnkpaa
open Go.RowKit

def fillR (f : Nat → Int) (a : Nat) (ws : List Int) : Nat → Nat → Int
  | 0 => f
  | k + 1 => put8 (fillR f a ws k) (a + 8 * k) (ws.getD k 0)
def fillA (f : Nat → Int) (L : List Reg) (W : List (List Int)) : Nat → Nat → Int
  | 0 => f
  | k + 1 => fillR (fillA f L W k) (L.getD k default).addr.toNat (W.getD k []) (W.getD k []).length
theorem fillR_byte {f : Nat → Int} (hf : ByteFn f) (a : Nat) (ws : List Int) : ∀ k, ByteFn (fillR f a ws k)
  | 0 => hf
  | k + 1 => putN_byte (fillR_byte hf a ws k) _ _ _
theorem fillA_byte {f : Nat → Int} (hf : ByteFn f) (L : List Reg) (W : List (List Int)) : ∀ k, ByteFn (fillA f L W k)
  | 0 => hf
  | k + 1 => fillR_byte (fillA_byte hf L W k) _ _ _
theorem fillA_succ {f : Nat → Int} {L : List Reg} {W : List (List Int)} {k : Nat} {r : Reg} {ws : List Int} (h1 : L[k]? = some r) (h2 : W[k]? = some ws) : fillA f L W (k + 1) = fillR (fillA f L W k) r.addr.toNat ws ws.length := by
  show fillR _ _ _ _ = _
  rw [List.getD_eq_getElem?_getD, List.getD_eq_getElem?_getD, h1, h2]
  rfl
theorem fillR_succ {f : Nat → Int} {a k : Nat} {ws : List Int} {x : Int} (h : ws[k]? = some x) : fillR f a ws (k + 1) = put8 (fillR f a ws k) (a + 8 * k) x := by
  show put8 _ _ _ = _
  rw [List.getD_eq_getElem?_getD, h]
  rfl

theorem refPut_int {p q : Nat} {A : Option Addr} {n cap : Nat} {L : List Reg} {f : Nat → Int} (a x : Int) (w : World) (h : RMem_ w p q A n cap L f) (ha0 : 0 ≤ a) (hat : a + 8 ≤ 65536) (hx0 : 0 ≤ x) (hx1 : x < 18446744073709551616) :
    Calls Try.prog 63 #[.pointer (some ⟨p, 0, none⟩), .int .i64 a, .int .u64 x] w (RPutPost w q (put8 f a.toNat x)) := by
  obtain ⟨m, rfl⟩ := Int.eq_ofNat_of_zero_le ha0
  exact refPut_any m x w h (by omega) hx0 hx1
theorem put_int {p q : Nat} {A : Option Addr} {n cap : Nat} {L : List Reg} {f : Nat → Int} (a x : Int) (w : World) (h : Mem_ w p q A n cap L f) (ha0 : 0 ≤ a) (hat : a + 8 ≤ 65536) (hx0 : 0 ≤ x) (hx1 : x < 18446744073709551616) :
    Calls Try.prog 47 #[.pointer (some ⟨p, 0, none⟩), .int .i64 a, .int .u64 x] w (PutPost w q (put8 f a.toNat x)) := by
  obtain ⟨m, rfl⟩ := Int.eq_ofNat_of_zero_le ha0
  exact put_any m x w h (by omega) hx0 hx1

set_option maxRecDepth 100000 in
set_option maxHeartbeats 2000000 in
theorem refFill_any {p q : Nat} {A A' : Option Addr} {n cap n' c' : Nat} {L : List Reg} {W : List (List Int)} {f : Nat → Int} (w : World) (h : RMem_ w p q A n cap L f) (hm : ∀ r ∈ L, mayB r = true) (hfit : fitsB L W = true) (hW : W.length = n') (hw : WsAt w A' W) (hn' : n' ≤ 9223372036854775807) :
    Calls Try.prog 54 #[.pointer (some ⟨p, 0, none⟩), .slice A' n' c'] w (RPutPost w q (fillA f L W n')) := by
  have H := Lib.hid h
  have hm' := Lib.hid hm
  have hfit' := Lib.hid hfit
  have hW' := Lib.hid hW
  have hw' := Lib.hid hw
  have hLn : n = n' := by rw [← h.hr.1, fits_len hfit, hW]
  have hlt := blk_lt h.hp
  have hne := h.ne
  subst hLn
  clear h hm hfit hW hw
  go_enter Try.func54, Try.ntmps54
  go_wp2_with fail
  go_loopg [4] n (fun g s4 wr => ∃ k : Nat, k + g = n ∧ s4 = .int .i64 k ∧ wr.heap[q]? = some (.cells (bytes (fillA f L W k)) 5 (0, 0)) ∧ w.grownBy wr (some q))
  case atStart => exact ⟨0, by omega, rfl, H.out.hq, World.grownBy.refl w _⟩
  case round =>
    obtain ⟨k, hkg, rfl, hq, hg⟩ := hrel
    have hq' := Lib.hid hq
    have hg' := Lib.hid hg
    clear hq hg
    cases gk with
    | zero =>
      have e0 : ¬ ((k : Int) < (n : Int)) := by omega
      have hkn := Lib.hid (show k = n by omega)
      go_wp2
      go_end0
      exact ⟨rfl, by rw [← hkn.out]; exact hq'.out, hg'.out⟩
    | succ g =>
      have e0 : (k : Int) < (n : Int) := by omega
      obtain ⟨blk, off, r, rfl, hB, hL, hR, hWf⟩ := H.out.hr.at_ (k := k) (by omega)
      obtain ⟨blk', off', ws, Ai', ci', rfl, hws, w1, w2, w3, w4⟩ := hw'.out.at_ (k := k) (by rw [hW'.out]; omega)
      obtain ⟨m1, m2, m3, m4, m5, m6, m7⟩ := (mayB_iff r).1 (hm'.out r (List.mem_of_getElem? hL))
      have hsz := fits_at hfit'.out hL hws
      have hL' := Lib.hid hL
      have hws' := Lib.hid hws
      have w1' := Lib.hid w1
      have w4' := Lib.hid w4
      have hR' := Lib.hid hR
      clear hL hws w1 w4 hWf hR
      go_wp2_with fail
      go_loopg [5] ws.length (fun g2 s5 wy => ∃ j : Nat, j + g2 = ws.length ∧ s5 = .int .i64 j ∧ wy.heap[q]? = some (.cells (bytes (fillR (fillA f L W k) r.addr.toNat ws j)) 5 (0, 0)) ∧ w.grownBy wy (some q))
      case atStart => exact ⟨0, by omega, rfl, hq'.out, hg'.out⟩
      case round =>
        obtain ⟨j, hjg, rfl, hq2, hg2⟩ := hrel
        have hq2' := Lib.hid hq2
        have hg2' := Lib.hid hg2
        have v1 := keep_turn H.out.hq hg2 (v := .slice Ai' ws.length ci') (fun y e => by cases e) w1'.out
        have Hy := H.out.turn hg2 hq2 (fillR_byte (fillA_byte H.out.hf _ _ _) _ _ _)
        have c0 := Hy.c0
        clear hq2 hg2
        cases gk with
        | zero =>
          have e1 : ¬ ((j : Int) < (ws.length : Int)) := by omega
          have hjn := Lib.hid (show j = ws.length by omega)
          clear Hy
          go_wp2
          go_roundg g
          case measure => omega
          case rel =>
            refine ⟨k + 1, by omega, by go_num, ?_, hg2'.out⟩
            rw [fillA_succ hL'.out hws'.out, ← hjn.out]
            exact hq2'.out
        | succ g2 =>
          have e1 : (j : Int) < (ws.length : Int) := by omega
          obtain ⟨b2, o2, x, rfl, hx, x1, x2, x3⟩ := (w4'.out.turn H.out.hq hg2'.out).at_ (k := j) (by omega)
          have r1 := keep_turn H.out.hq hg2'.out (fun y e => by cases e) hR'.out.2.1
          have e2 : (j : Int) < 512 := by omega
          have hx' := Lib.hid hx
          have Hy' := Lib.hid Hy
          have hput := Lib.hid (fun wz (hz : Below wr.heap.size wr wz) => refPut_int (r.addr + 8 * j) x wz (Hy.below hz) (by omega) (by omega) x2 (by omega))
          clear Hy hx
          go_wp2
          go_still_tail 19, (by kernel_rfl)
          go_wp2_with fail
          refine (hput.out _ (Below.refl _ _).drew).mono ?_
          rintro e w3 ⟨rfl, hq3, hg3⟩
          have hq3' := Lib.hid hq3
          have hg3' := Lib.hid (grown_trans (grown_drew hg2'.out) hg3)
          clear hq3 hg3
          go_wp2
          go_roundg g2
          case measure => omega
          case rel =>
            refine ⟨j + 1, by omega, by go_num, ?_, hg3'.out⟩
            rw [fillR_succ hx'.out, show r.addr.toNat + 8 * j = (r.addr + 8 * (j : Int)).toNat by omega]
            exact hq3'.out

/-- how Of ends -/
def OfPost (t : Bool) (f : Nat → Int) (L : List Reg) (n : Nat) (w : World) (e : Ending) (w' : World) : Prop :=
  match t with
  | true => ∃ p q A cap, e = .returned (.tuple #[.pointer (some ⟨p, 0, none⟩), .int .i64 0]) ∧ Mem_ w' p q A n cap L f ∧ n ≤ cap ∧ cap ≤ 9223372036854775807 ∧ w.heap.size ≤ p ∧ w.heap.size ≤ q ∧ Below w.heap.size w w'
  | false => e = .returned (.tuple #[.pointer none, .int .i64 2]) ∧ Below w.heap.size w w'

set_option maxRecDepth 100000 in
set_option maxHeartbeats 2000000 in
theorem of_no (A A' : Option Addr) (n cap n' c' : Nat) (L : List Reg) (w : World) (hr : RegsAt w w.heap.size A n L) (hc : n ≤ cap) (hcm : cap ≤ 9223372036854775807) (hL : mayL L = false) :
    Calls Try.prog 38 #[.slice A n cap, .slice A' n' c'] w fun e w' => e = .returned (.tuple #[.pointer none, .int .i64 2]) ∧ Below w.heap.size w w' := by
  have hk := Lib.hid (new_no A n cap L w hr hc hcm hL)
  clear hL hr
  go_enter Try.func38, Try.ntmps38
  go_wp2_with fail
  refine hk.out.mono ?_
  rintro e w1 ⟨rfl, hb⟩
  have hb' := Lib.hid hb
  clear hb
  go_wp2
  go_ret2
  exact ⟨rfl, hb'.out⟩

set_option maxRecDepth 100000 in
set_option maxHeartbeats 2000000 in
theorem of_any (A A' : Option Addr) (n cap n' c' : Nat) (L : List Reg) (W : List (List Int)) (w : World) (hr : RegsAt w w.heap.size A n L) (hc : n ≤ cap) (hcm : cap ≤ 9223372036854775807) (hL : mayL L = true)
    (hW : W.length = n') (hw : WsAt w A' W) (hn' : n' ≤ 9223372036854775807) :
    Calls Try.prog 38 #[.slice A n cap, .slice A' n' c'] w (OfPost (fitsB L W) (fillA (fun _ => 0) L W n) L n w) := by
  have hk := Lib.hid (new_yes A n cap L w hr hc hcm hL)
  have hm' := Lib.hid (mayL_mem hL)
  have hn16 : n ≤ 16 := by rw [← hr.1]; exact mayL_len hL
  have hr' := Lib.hid hr
  have hW' := Lib.hid hW
  have hw' := Lib.hid hw
  obtain ⟨t, ht⟩ : ∃ t, fitsB L W = t := ⟨_, rfl⟩
  rw [ht]
  have ht' := Lib.hid ht
  clear hr hL hW hw ht
  go_enter Try.func38, Try.ntmps38
  go_wp2_with fail
  refine hk.out.mono ?_
  rintro e w1 ⟨p, q, A1, cap1, rfl, hM, z1, z2, z3, z4, hb⟩
  have hM' := Lib.hid hM
  have hb' := Lib.hid hb
  clear hM hb
  by_cases hnn : n = n'
  · subst hnn
    go_wp2_with fail
    go_loopg [28] n (fun g s4 wr => ∃ k : Nat, k + g = n ∧ s4 = .int .i64 k ∧ wr.heap[q]? = some (.cells (bytes (fillA (fun _ => 0) L W k)) 83 (0, 0)) ∧ w1.grownBy wr (some q) ∧ ∀ i r ws, i < k → L[i]? = some r → W[i]? = some ws → (ws.length : Int) = r.size)
    case atStart => exact ⟨0, by omega, rfl, hM'.out.hq, World.grownBy.refl w1 _, fun i _ _ h => absurd h (by omega)⟩
    case round =>
      obtain ⟨k, hkg, rfl, hq, hg, hall⟩ := hrel
      have hq' := Lib.hid hq
      have hg' := Lib.hid hg
      have hall' := Lib.hid hall
      have hbg := Lib.hid (hb'.out.grown hg hb'.out.size (fun k e => by cases e; exact z4))
      clear hq hg hall
      cases gk with
      | zero =>
        have e0 : ¬ ((k : Int) < (n : Int)) := by omega
        have hkn : k = n := by omega
        have hfin := ht'.out
        rw [fits_yes hr'.out.1 hW'.out (fun i r ws hi => hall'.out i r ws (by omega))] at hfin
        subst hfin
        rw [hkn] at hq'
        clear hkn
        go_wp2
        go_ret2
        exact ⟨p, q, A1, cap1, rfl, hM'.out.turn hg'.out hq'.out (fillA_byte hM'.out.hf _ _ _), z1, z2, z3, z4, hbg.out⟩
      | succ g =>
        have e0 : (k : Int) < (n : Int) := by omega
        obtain ⟨blk, off, r, rfl, hB, hL, hR, hWf⟩ := (hr'.out.below hb'.out).at_ (k := k) (by omega)
        obtain ⟨blk', off', ws, Ai', ci', rfl, hws, w1', w2, w3, w4⟩ := (hw'.out.below hb'.out).at_ (k := k) (by rw [hW'.out]; omega)
        obtain ⟨m1, m2, m3, m4, m5, m6, m7⟩ := (mayB_iff r).1 (hm'.out r (List.mem_of_getElem? hL))
        have v1 := keep_turn hM'.out.hq hg'.out (v := .slice Ai' ws.length ci') (fun y e => by cases e) w1'
        have r2 := keep_turn hM'.out.hq hg'.out (v := .int .i64 r.size) (fun y e => by cases e) hR.2.2.1
        have hL' := Lib.hid hL
        have hws' := Lib.hid hws
        have w4' := Lib.hid w4
        have hR' := Lib.hid hR
        clear hL hws w1' w4 hWf hR
        by_cases hsz : (ws.length : Int) = r.size
        · have hd : ((ws.length : Int) != r.size) = false := by simp [hsz]
          go_wp2_with fail
          clear v1 r2
          go_loopg [43] ws.length (fun g2 s5 wy => ∃ j : Nat, j + g2 = ws.length ∧ s5 = .int .i64 j ∧ wy.heap[q]? = some (.cells (bytes (fillR (fillA (fun _ => 0) L W k) r.addr.toNat ws j)) 83 (0, 0)) ∧ w1.grownBy wy (some q))
          case atStart => exact ⟨0, by omega, rfl, hq'.out, hg'.out⟩
          case round =>
            obtain ⟨j, hjg, rfl, hq2, hg2⟩ := hrel
            have hq2' := Lib.hid hq2
            have hg2' := Lib.hid hg2
            have Hy := hM'.out.turn hg2 hq2 (fillR_byte (fillA_byte hM'.out.hf _ _ _) _ _ _)
            clear hq2 hg2
            cases gk with
            | zero =>
              have e1 : ¬ ((j : Int) < (ws.length : Int)) := by omega
              have hjn := Lib.hid (show j = ws.length by omega)
              clear Hy
              go_wp2
              go_roundg g
              case measure => omega
              case rel =>
                refine ⟨k + 1, by omega, by go_num, ?_, hg2'.out, fun i r' ws' hi hr2 hws2 => ?_⟩
                · rw [fillA_succ hL'.out hws'.out, ← hjn.out]
                  exact hq2'.out
                · rcases Nat.lt_or_ge i k with h | h
                  · exact hall'.out i r' ws' h hr2 hws2
                  · obtain rfl : i = k := by omega
                    rw [hL'.out] at hr2
                    rw [hws'.out] at hws2
                    cases hr2
                    cases hws2
                    exact hsz
            | succ g2 =>
              have e1 : (j : Int) < (ws.length : Int) := by omega
              obtain ⟨b2, o2, x, rfl, hx, x1, x2, x3⟩ := (w4'.out.turn hM'.out.hq hg2'.out).at_ (k := j) (by omega)
              have r1 := keep_turn hM'.out.hq hg2'.out (v := .int .i64 r.addr) (fun y e => by cases e) hR'.out.2.1
              have e2 : (j : Int) < 512 := by omega
              have hx' := Lib.hid hx
              have hput := Lib.hid (put_int (r.addr + 8 * j) x wr Hy (by omega) (by omega) x2 (by omega))
              clear Hy hx
              go_wp2_with fail
              refine hput.out.mono ?_
              rintro e w3 ⟨rfl, hq3, hg3⟩
              have hq3' := Lib.hid hq3
              have hg3' := Lib.hid (grown_trans hg2'.out hg3)
              clear hq3 hg3
              go_wp2
              go_roundg g2
              case measure => omega
              case rel =>
                refine ⟨j + 1, by omega, by go_num, ?_, hg3'.out⟩
                rw [fillR_succ hx'.out, show r.addr.toNat + 8 * j = (r.addr + 8 * (j : Int)).toNat by omega]
                exact hq3'.out
        · have hd : ((ws.length : Int) != r.size) = true := by simp [hsz]
          have hfin := ht'.out
          rw [fits_no hL'.out hws'.out hsz] at hfin
          subst hfin
          go_wp2
          go_ret2
          exact ⟨rfl, hbg.out⟩
  · have hd : ((n' : Int) != (n : Int)) = true := by simp; omega
    have hfin : t = false := by
      rw [← ht'.out, ← Bool.not_eq_true]
      intro h
      exact hnn (by rw [← hr'.out.1, ← hW'.out, fits_len h])
    subst hfin
    clear hnn
    go_wp2
    go_ret2
    exact ⟨rfl, hb'.out⟩
end Go.Proofs.Ytageahpgcjnkpaa
