/- A play: a memory, and the document's, of lists of words, and steps. -/
import Derived.Test.YtageahpgcjnkpaaX
set_option linter.unusedSimpArgs false
set_option linter.unusedVariables false
namespace Go.Proofs.Ytageahpgcjnkpaa
open Go.RowKit

/-- a slice that reads as steps -/
def StepsAt (w : World) (A : Option Addr) (m : Nat) (S : List Stp) : Prop :=
  S.length = m ∧ (∀ s ∈ S, s.Wf) ∧ (0 < m → ∃ blk off, A = some ⟨blk, off, none⟩ ∧ ∀ i s, S[i]? = some s → w.cell? ⟨blk, off + i * 3, none⟩ = some (.int .i64 s.kind) ∧ w.cell? ⟨blk, off + i * 3 + 1, none⟩ = some (.int .u64 s.addr) ∧ w.cell? ⟨blk, off + i * 3 + 2, none⟩ = some (.int .u64 s.x))
theorem StepsAt.below {w w' : World} {A : Option Addr} {m : Nat} {S : List Stp} (h : StepsAt w A m S) (hb : Below w.heap.size w w') : StepsAt w' A m S := by
  refine ⟨h.1, h.2.1, fun hm => ?_⟩
  obtain ⟨blk, off, e, hc⟩ := h.2.2 hm
  refine ⟨blk, off, e, fun i s hs => ?_⟩
  obtain ⟨a, b, c⟩ := hc i s hs
  exact ⟨(hb.cell (p := ⟨blk, _, none⟩) (cell_some_lt a)).trans a, (hb.cell (p := ⟨blk, _, none⟩) (cell_some_lt b)).trans b, (hb.cell (p := ⟨blk, _, none⟩) (cell_some_lt c)).trans c⟩
theorem StepsAt.at_ {w : World} {A : Option Addr} {m k : Nat} {S : List Stp} (h : StepsAt w A m S) (hk : k < m) :
    ∃ blk off s, A = some ⟨blk, off, none⟩ ∧ S[k]? = some s ∧ w.cell? ⟨blk, off + k * 3, none⟩ = some (.int .i64 s.kind) ∧ w.cell? ⟨blk, off + k * 3 + 1, none⟩ = some (.int .u64 s.addr) ∧ w.cell? ⟨blk, off + k * 3 + 2, none⟩ = some (.int .u64 s.x) ∧ s.Wf := by
  obtain ⟨h1, h2, h3⟩ := h
  obtain ⟨blk, off, e, hc⟩ := h3 (by omega)
  have e1 : S[k]? = some (S[k]'(by omega)) := List.getElem?_eq_getElem (by omega)
  obtain ⟨a, b, c⟩ := hc k _ e1
  exact ⟨blk, off, _, e, e1, a, b, c, h2 _ (List.mem_of_getElem? e1)⟩

/-- the bytes behind k steps -/
def playN (L : List Reg) (W : List (List Int)) (n : Nat) (S : List Stp) : Nat → Nat → Int
  | 0 => fillA (fun _ => 0) L W n
  | k + 1 => stepF L (playN L W n S k) (S.getD k default)
theorem zero_byte : ByteFn (fun _ => 0) := fun i => ⟨Int.le_refl 0, (by decide : (0 : Int) < 256)⟩
theorem playN_byte (L : List Reg) (W : List (List Int)) (n : Nat) (S : List Stp) : ∀ k, ByteFn (playN L W n S k)
  | 0 => fillA_byte zero_byte L W n
  | k + 1 => stepF_byte (playN_byte L W n S k) _ _
theorem playN_succ {L : List Reg} {W : List (List Int)} {n k : Nat} {S : List Stp} {s : Stp} (h : S[k]? = some s) : playN L W n S (k + 1) = stepF L (playN L W n S k) s := by
  show stepF _ _ _ = _
  rw [List.getD_eq_getElem?_getD, h]
  rfl

/-- how a play ends -/
def PlayPost (n : Nat) (L : List Reg) (g : Nat → Int) (w : World) (e : Ending) (w' : World) : Prop :=
  ∃ p q p' q' A cap A' cap', e = .returned (.tuple #[.pointer (some ⟨p, 0, none⟩), .pointer (some ⟨p', 0, none⟩), .bool true]) ∧ Mem_ w' p q A n cap L g ∧ RMem_ w' p' q' A' n cap' L g ∧ n ≤ cap ∧ cap ≤ 9223372036854775807 ∧
    (w.heap.size ≤ p ∧ w.heap.size ≤ q ∧ w.heap.size ≤ p' ∧ w.heap.size ≤ q') ∧ Below w.heap.size w w'

set_option maxRecDepth 100000 in
set_option maxHeartbeats 2000000 in
theorem play_any (A A' A'' : Option Addr) (n cap n' c' m c'' : Nat) (L : List Reg) (W : List (List Int)) (S : List Stp) (w : World) (hr : RegsAt w w.heap.size A n L) (hc : n ≤ cap) (hcm : cap ≤ 9223372036854775807) (hL : mayL L = true)
    (hW : W.length = n') (hw : WsAt w A' W) (hn' : n' ≤ 9223372036854775807) (hfit : fitsB L W = true) (hS : StepsAt w A'' m S) (hm60 : m ≤ 9223372036854775807) :
    Calls Try.prog 32 #[.slice A n cap, .slice A' n' c', .slice A'' m c''] w (PlayPost n L (playN L W n S m) w) := by
  have hof := Lib.hid (of_any A A' n cap n' c' L W w hr hc hcm hL hW hw hn')
  rw [hfit] at hof
  have hm := mayL_mem hL
  have hm' := Lib.hid hm
  have hn16 : n ≤ 16 := by rw [← hr.1]; exact mayL_len hL
  have hr' := Lib.hid hr
  have hW' := Lib.hid hW
  have hw' := Lib.hid hw
  have hfit' := Lib.hid hfit
  have hS' := Lib.hid hS
  have hne : (∀ w p, (binOp .eql 25 (.pointer (some p)) (.pointer none)).run Try.prog w = .ok (.bool false) w) := fun w p => by kernel_rfl
  have hnn : n' = n := by rw [← hW, ← hr.1, fits_len hfit]
  subst hnn
  clear hr hL hW hw hfit hS hm
  go_enter Try.func32, Try.ntmps32
  go_wp2_with fail
  refine hof.out.mono ?_
  rintro e w1 ⟨p, q, A1, cap1, rfl, hM, z1, z2, z3, z4, hb⟩
  have hM' := Lib.hid hM
  have hb' := Lib.hid hb
  clear hM hb hof
  go_wp2_with fail
  refine (num_any _ _).mono ?_
  rintro e w2 ⟨rfl, rfl⟩
  go_wp2_with fail
  refine (refNew_any A n' cap L _ ((hr'.out.below hb'.out).more hb'.out.size) hn16).mono ?_
  rintro e w2 ⟨p', q', A3, cap3, rfl, hR, y1, y2, y3, y4, hb2⟩
  have hR' := Lib.hid hR
  have hM2' := Lib.hid (hM'.out.below hb2)
  have hb2' := Lib.hid (Below.next hb'.out hb2)
  have hs2 := hb2.size
  have hs1 := hb'.out.size
  clear hR hb2
  go_wp2_with fail
  refine (refFill_any _ hR'.out hm'.out hfit'.out hW'.out (hw'.out.below hb2'.out) hn').mono ?_
  rintro e w3 ⟨rfl, hq3, hg3⟩
  have hR3' := Lib.hid (hR'.out.turn hg3 hq3 (fillA_byte zero_byte _ _ _))
  have hM3' := Lib.hid (hM2'.out.other hg3 hR'.out.hq (blk_ne hM2'.out.hp hR'.out.hq (by decide)) (blk_ne hM2'.out.hq hR'.out.hq (by decide)))
  have hb3' := Lib.hid (hb2'.out.grown hg3 hb2'.out.size (fun k e => by cases e; omega))
  clear hq3 hg3
  have y3' : w.heap.size ≤ p' := by omega
  have y4' : w.heap.size ≤ q' := by omega
  clear hs1 hs2 y3 y4
  go_wp2_with fail
  go_loopg [9, 12, 13] m (fun g s9 s12 s13 wr => ∃ (k p q : Nat) (A2 : Option Addr) (cap2 : Nat), k + g = m ∧ s13 = .int .i64 k ∧ s12 = .bool true ∧ s9 = .pointer (some ⟨p, 0, none⟩) ∧ Mem_ wr p q A2 n' cap2 L (playN L W n' S k) ∧ RMem_ wr p' q' A3 n' cap3 L (playN L W n' S k) ∧ n' ≤ cap2 ∧ cap2 ≤ 9223372036854775807 ∧ w.heap.size ≤ p ∧ w.heap.size ≤ q ∧ Below w.heap.size w wr)
  case atStart => exact ⟨0, p, q, A1, cap1, by omega, rfl, rfl, rfl, hM3'.out, hR3'.out, z1, z2, z3, z4, hb3'.out⟩
  case round =>
    clear hM3' hR3' hb3' hM2' hR' hM'
    obtain ⟨k, p, q, A2, cap2, hkg, rfl, rfl, rfl, hMk, hRk, u1, u2, u3, u4, hbk⟩ := hrel
    have hMk' := Lib.hid hMk
    have hRk' := Lib.hid hRk
    have hbk' := Lib.hid hbk
    clear hMk hRk hbk
    cases gk with
    | zero =>
      have e0 : ¬ ((k : Int) < (m : Int)) := by omega
      have hkm := Lib.hid (show m = k by omega)
      go_wp2
      go_ret3
      rw [hkm.out]
      exact ⟨p, q, p', q', A2, cap2, A3, cap3, rfl, hMk'.out, hRk'.out, u1, u2, ⟨u3, u4, y3', y4'⟩, hbk'.out⟩
    | succ g =>
      have e0 : (k : Int) < (m : Int) := by omega
      obtain ⟨blk, off, s, rfl, hs, s0, s1, s2, hsw⟩ := (hS'.out.below hbk'.out).at_ (k := k) (by omega)
      have hs' := Lib.hid hs
      have hsw' := Lib.hid hsw
      clear hs hsw
      go_wp2_with fail
      refine (do_any s hsw'.out _ hMk'.out hRk'.out u1 u2 hm'.out).mono ?_
      rintro e w4 ⟨p2, q2, A4, cap4, rfl, hM4, hR4, v1, v2, v3, v4, v5, v6⟩
      have hM4' := Lib.hid hM4
      have hR4' := Lib.hid hR4
      have hb4' := Lib.hid (hbk'.out.trans (v5 _ u4 y4' hbk'.out.size))
      have hsz := hbk'.out.size
      clear hM4 hR4 v5
      go_wp2
      go_roundg g
      case measure => omega
      case rel =>
        exact ⟨k + 1, p2, q2, A4, cap4, by omega, by go_num, rfl, rfl, by rw [playN_succ hs'.out]; exact hM4'.out, by rw [playN_succ hs'.out]; exact hR4'.out, v1, v2, by omega, by omega, hb4'.out⟩
end Go.Proofs.Ytageahpgcjnkpaa
