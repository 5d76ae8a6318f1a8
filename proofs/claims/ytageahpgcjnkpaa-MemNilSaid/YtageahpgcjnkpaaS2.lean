/- Two lists of regions compared; lists of words that fit regions. -/
import Derived.Test.YtageahpgcjnkpaaS
import Derived.Laws.StructEq
set_option linter.unusedSimpArgs false
set_option linter.unusedVariables false
namespace Go.Proofs.Ytageahpgcjnkpaa
open Go.RowKit

def sameB (r s : Reg) : Bool := (r.name.toList == s.name.toList) && (r.addr == s.addr) && (r.size == s.size) && (r.sec == s.sec)
theorem run_neq_reg (r s : Reg) (w : World) : (binOp .neq 67 (.agg #[.string r.name, .int .i64 r.addr, .int .i64 r.size, .bool r.sec]) (.agg #[.string s.name, .int .i64 s.addr, .int .i64 s.size, .bool s.sec])).run Try.prog w = .ok (.bool (!(sameB r s))) w := by
  simp [go_sem, sameB]
  split <;> (try split) <;> (try split) <;> (try split) <;> simp_all
theorem toList_iff (a b : ByteArray) : (a.toList == b.toList) = true ↔ a = b := by
  rw [ByteArray.toList_eq, ByteArray.toList_eq]
  obtain ⟨⟨x⟩⟩ := a
  obtain ⟨⟨y⟩⟩ := b
  simp
theorem sameB_iff (r s : Reg) : sameB r s = true ↔ r = s := by
  unfold sameB
  rw [Bool.and_eq_true, Bool.and_eq_true, Bool.and_eq_true, toList_iff]
  obtain ⟨a, b, c, d⟩ := r
  obtain ⟨a', b', c', d'⟩ := s
  simp [and_assoc]
instance : DecidableEq Reg := fun r s => decidable_of_iff (sameB r s = true) (sameB_iff r s)

set_option maxRecDepth 100000 in
set_option maxHeartbeats 2000000 in
theorem sameRegions_any (A A' : Option Addr) (n c n' c' : Nat) (V W : List Reg) (w : World) (hv : RegsAt w w.heap.size A n V) (hw : RegsAt w w.heap.size A' n' W) (hn : n ≤ 9223372036854775807) (hn' : n' ≤ 9223372036854775807) :
    Calls Try.prog 24 #[.slice A n c, .slice A' n' c'] w (BoolPost (decide (V = W)) w) := by
  have hv' := Lib.hid hv
  have hw' := Lib.hid hw
  have hV' := Lib.hid hv.1
  have hW' := Lib.hid hw.1
  clear hv hw
  by_cases hnn : n = n'
  · subst hnn
    go_enter Try.func24, Try.ntmps24
    go_wp2_with fail
    go_loopg [5] n (fun g s4 wr => ∃ k : Nat, k + g = n ∧ s4 = .int .i64 k ∧ (∀ i, i < k → V[i]? = W[i]?) ∧ Below w.heap.size w wr)
    case atStart => exact ⟨0, by omega, rfl, fun i h => absurd h (by omega), Below.refl _ _⟩
    case round =>
      obtain ⟨k, hkg, rfl, hall, hb⟩ := hrel
      have hall' := Lib.hid hall
      have hb' := Lib.hid hb
      clear hall hb
      cases gk with
      | zero =>
        have e0 : ¬ ((k : Int) < (n : Int)) := by omega
        have hfin := Lib.hid (show V = W from list_eq_all hV'.out hW'.out fun i hi => hall'.out i (by omega))
        go_wp2
        go_ret
        exact ⟨ret_bool (by simp [hfin.out]), hb'.out⟩
      | succ g =>
        have e0 : (k : Int) < (n : Int) := by omega
        obtain ⟨blk, off, r, rfl, hB, hL, hR, hW⟩ := (hv'.out.below hb'.out).at_ (k := k) (by omega)
        obtain ⟨blk', off', s, rfl, hB', hL2, hR2, hW2⟩ := (hw'.out.below hb'.out).at_ (k := k) (by omega)
        obtain ⟨r0, r1, r2, r3⟩ := hR
        obtain ⟨s0, s1, s2, s3⟩ := hR2
        have hL' := Lib.hid hL
        have hL2' := Lib.hid hL2
        have hne := fun w => run_neq_reg r s w
        clear hL hL2 hW hW2
        by_cases hrs : r = s
        · have hd : sameB r s = true := (sameB_iff r s).2 hrs
          rw [hd] at hne
          go_wp2
          go_quiet (fail)
          go_wp2
          go_roundg g
          case measure => omega
          case rel =>
            refine ⟨k + 1, by omega, by go_num, fun i hi => ?_, below_drewN hb'.out _⟩
            rcases Nat.lt_or_ge i k with h | h
            · exact hall'.out i h
            · obtain rfl : i = k := by omega
              rw [hL'.out, hL2'.out, hrs]
        · have hd : sameB r s = false := by rw [← Bool.not_eq_true, sameB_iff]; exact hrs
          have hfin := Lib.hid (show V ≠ W from list_ne_at hL'.out hL2'.out hrs)
          rw [hd] at hne
          clear hrs
          go_wp2
          go_quiet (fail)
          go_wp2
          go_ret
          exact ⟨ret_bool (by simp [hfin.out]), below_drewN hb'.out _⟩
  · have hd : ((n : Int) != (n' : Int)) = true := by simp; omega
    have hfin := Lib.hid (show V ≠ W from fun e => hnn (by rw [← hV'.out, ← hW'.out, e]))
    clear hnn
    go_enter Try.func24, Try.ntmps24
    go_wp2
    go_ret
    exact ⟨ret_bool (by simp [hfin.out]), Below.refl _ _⟩

/-- as many lists, each as long, as the regions -/
def fitsB (L : List Reg) (W : List (List Int)) : Bool := decide (L.length = W.length) && (List.range L.length).all fun i => decide (((W.getD i []).length : Int) = (L.getD i default).size)
theorem fits_yes {L : List Reg} {W : List (List Int)} {n : Nat} (h : L.length = n) (h2 : W.length = n) (h3 : ∀ i r ws, i < n → L[i]? = some r → W[i]? = some ws → (ws.length : Int) = r.size) : fitsB L W = true := by
  unfold fitsB
  rw [Bool.and_eq_true, List.all_eq_true]
  refine ⟨by simp; omega, fun i hi => ?_⟩
  have hi' := List.mem_range.1 hi
  have e1 : L[i]? = some L[i] := List.getElem?_eq_getElem hi'
  have e2 : W[i]? = some W[i] := List.getElem?_eq_getElem (by omega)
  rw [List.getD_eq_getElem?_getD, List.getD_eq_getElem?_getD, e1, e2]
  have := h3 i _ _ (by omega) e1 e2
  simpa using this
theorem fits_no {L : List Reg} {W : List (List Int)} {i : Nat} {r : Reg} {ws : List Int} (h1 : L[i]? = some r) (h2 : W[i]? = some ws) (h3 : (ws.length : Int) ≠ r.size) : fitsB L W = false := by
  rw [← Bool.not_eq_true]
  unfold fitsB
  rw [Bool.and_eq_true, List.all_eq_true]
  rintro ⟨_, h⟩
  have := h i (List.mem_range.2 (List.getElem?_eq_some_iff.1 h1).1)
  rw [List.getD_eq_getElem?_getD, List.getD_eq_getElem?_getD, h1, h2] at this
  exact h3 (by simpa using this)
theorem fits_len {L : List Reg} {W : List (List Int)} (h : fitsB L W = true) : L.length = W.length := by
  unfold fitsB at h
  rw [Bool.and_eq_true] at h
  simpa using h.1
theorem fits_at {L : List Reg} {W : List (List Int)} {i : Nat} {r : Reg} {ws : List Int} (h : fitsB L W = true) (h1 : L[i]? = some r) (h2 : W[i]? = some ws) : (ws.length : Int) = r.size := by
  unfold fitsB at h
  rw [Bool.and_eq_true, List.all_eq_true] at h
  have := h.2 i (List.mem_range.2 (List.getElem?_eq_some_iff.1 h1).1)
  rw [List.getD_eq_getElem?_getD, List.getD_eq_getElem?_getD, h1, h2] at this
  simpa using this

set_option maxRecDepth 100000 in
set_option maxHeartbeats 2000000 in
theorem fits_any (A A' : Option Addr) (n c n' c' : Nat) (L : List Reg) (W : List (List Int)) (w : World) (hv : RegsAt w w.heap.size A n L) (hW : W.length = n') (hw : WsAt w A' W) (hn : n ≤ 9223372036854775807) (hn' : n' ≤ 9223372036854775807) :
    Calls Try.prog 31 #[.slice A n c, .slice A' n' c'] w (BoolPost (fitsB L W) w) := by
  have hv' := Lib.hid hv
  have hw' := Lib.hid hw
  have hV' := Lib.hid hv.1
  have hW' := Lib.hid hW
  clear hv hw hW
  by_cases hnn : n = n'
  · subst hnn
    go_enter Try.func31, Try.ntmps31
    go_wp2_with fail
    go_loopg [5] n (fun g s4 wr => ∃ k : Nat, k + g = n ∧ s4 = .int .i64 k ∧ (∀ i r ws, i < k → L[i]? = some r → W[i]? = some ws → (ws.length : Int) = r.size) ∧ Below w.heap.size w wr)
    case atStart => exact ⟨0, by omega, rfl, fun i _ _ h => absurd h (by omega), Below.refl _ _⟩
    case round =>
      obtain ⟨k, hkg, rfl, hall, hb⟩ := hrel
      have hall' := Lib.hid hall
      have hb' := Lib.hid hb
      clear hall hb
      cases gk with
      | zero =>
        have e0 : ¬ ((k : Int) < (n : Int)) := by omega
        have hfin := Lib.hid (show fitsB L W = true from fits_yes hV'.out hW'.out fun i r ws hi => hall'.out i r ws (by omega))
        go_wp2
        go_ret
        exact ⟨ret_bool hfin.out.symm, hb'.out⟩
      | succ g =>
        have e0 : (k : Int) < (n : Int) := by omega
        obtain ⟨blk, off, r, rfl, hB, hL, hR, hW⟩ := (hv'.out.below hb'.out).at_ (k := k) (by omega)
        obtain ⟨blk', off', ws, Ai', ci', rfl, hws, w1, w2, w3, w4⟩ := (hw'.out.below hb'.out).at_ (k := k) (by rw [hW'.out]; omega)
        obtain ⟨r0, r1, r2, r3⟩ := hR
        have hL' := Lib.hid hL
        have hws' := Lib.hid hws
        have hW2 := Lib.hid hW
        clear hL hws hW w4
        by_cases hrs : (ws.length : Int) = r.size
        · have hd : ((ws.length : Int) != r.size) = false := by simp [hrs]
          go_wp2
          go_quiet (fail)
          go_wp2
          go_roundg g
          case measure => omega
          case rel =>
            refine ⟨k + 1, by omega, by go_num, fun i r' ws' hi hr' hws2 => ?_, below_drewN hb'.out _⟩
            rcases Nat.lt_or_ge i k with h | h
            · exact hall'.out i r' ws' h hr' hws2
            · obtain rfl : i = k := by omega
              rw [hL'.out] at hr'
              rw [hws'.out] at hws2
              cases hr'
              cases hws2
              exact hrs
        · have hd : ((ws.length : Int) != r.size) = true := by simp [hrs]
          have hfin := Lib.hid (show fitsB L W = false from fits_no hL'.out hws'.out hrs)
          clear hrs
          go_wp2
          go_quiet (fail)
          go_wp2
          go_ret
          exact ⟨ret_bool hfin.out.symm, below_drewN hb'.out _⟩
  · have hd : ((n : Int) != (n' : Int)) = true := by simp; omega
    have hfin := Lib.hid (show fitsB L W = false by rw [← Bool.not_eq_true]; intro h; exact hnn (by rw [← hV'.out, ← hW'.out, fits_len h]))
    clear hnn
    go_enter Try.func31, Try.ntmps31
    go_wp2
    go_ret
    exact ⟨ret_bool hfin.out.symm, Below.refl _ _⟩
end Go.Proofs.Ytageahpgcjnkpaa
