/- The askings of a text: Parse. -/
import Derived.Test.YtkbmckmlnphpmaaGreatDoorAA
set_option linter.unusedSimpArgs false
set_option linter.unusedVariables false
namespace Go.Proofs.YtkbmckmlnphpmaaGreatDoor
open Go.RowKit Go.Lib Go.Shelf

/-- an asking's parts read -/
def AskAt (w : World) (a : Ask) (A1 A2 : Option Addr) : Prop := WAt w A1 a.args ∧ WsAt w A2 a.regs ∧ a.args.length ≤ 64 ∧ a.regs.length ≤ 16
/-- a slice that reads as askings -/
def AsksAt (w : World) (A : Option Addr) (L : List Ask) : Prop :=
  0 < L.length → ∃ g, A = some ⟨g, 0, none⟩ ∧ ∀ (i : Nat) (a : Ask), L[i]? = some a → ∃ A1 c1 A2 c2, (∀ j v, (askCells a A1 c1 A2 c2)[j]? = some v → w.cell? ⟨g, i * 5 + j, none⟩ = some v) ∧ AskAt w a A1 A2
theorem vals_at {F : Nat → Prop} {w : World} : ∀ {L : List Ask} {vs : List Value}, AskVals F w vs L → ∀ (i : Nat) (a : Ask), L[i]? = some a → ∃ A1 c1 A2 c2, (∀ j v, (askCells a A1 c1 A2 c2)[j]? = some v → vs[i * 5 + j]? = some v) ∧ AskF F w a A1 A2
  | [], _, _, i, a, hi => by simp at hi
  | b :: L, _, ⟨A1, c1, A2, c2, r, e, hb, hr⟩, i, a, hi => by
    have hl : (askCells b A1 c1 A2 c2).length = 5 := rfl
    cases i with
    | zero =>
      cases hi
      refine ⟨A1, c1, A2, c2, fun j v hj => ?_, hb⟩
      rw [e, Nat.zero_mul, Nat.zero_add, List.getElem?_append_left (by rw [hl]; exact (List.getElem?_eq_some_iff.1 hj).1)]
      exact hj
    | succ i =>
      obtain ⟨B1, d1, B2, d2, h1, h2⟩ := vals_at hr i a (by simpa using hi)
      refine ⟨B1, d1, B2, d2, fun j v hj => ?_, h2⟩
      rw [e, List.getElem?_append_right (by rw [hl]; omega), hl]
      have e2 : (i + 1) * 5 + j - 5 = i * 5 + j := by omega
      rw [e2]
      exact h1 j v hj
theorem WsF.wsat {F : Nat → Prop} {w : World} {A : Option Addr} {W : List (List Int)} (h : WsF F w A W) : WsAt w A W := fun hn => by
  obtain ⟨blk, off, e, _, hc⟩ := h hn
  refine ⟨blk, off, e, fun i ws hi => ?_⟩
  obtain ⟨A', c, h1, h2, h3⟩ := hc i ws hi
  exact ⟨A', c, h1, h2, h3.wat⟩
theorem rd_asks {base : Nat} {w : World} {R : Nat} {r : RSt} {F : Nat → Prop} {vl va vr : Value} {qs : List Value} (h : RdIn base w R r F vl va vr qs) : ∃ A c, vl = .slice A r.l.length c ∧ AsksAt w A r.l := by
  have hl := h.asks.len
  obtain ⟨hcl, hcase⟩ := h.ownl
  rcases hcase with ⟨hv, h0⟩ | ⟨g, cap, cur, hv, hg, hh, hcap, hm, hs, ht⟩
  · exact ⟨none, 0, by rw [h0]; exact hv, fun hn => absurd hn (by omega)⟩
  · refine ⟨_, _, hv, fun _ => ⟨g, rfl, fun i a hi => ?_⟩⟩
    obtain ⟨A1, c1, A2, c2, h1, h2, h3, h4, h5⟩ := vals_at h.asks i a hi
    refine ⟨A1, c1, A2, c2, fun j v hj => ?_, h2.wat, h3.wsat, h4, h5⟩
    have h6 := h1 j v hj
    have h7 : i * 5 + j < qs.length := (List.getElem?_eq_some_iff.1 h6).1
    rw [blk_cell hh]
    rw [← ht, List.getElem?_take, if_pos (by rw [← hcl]; exact h7)] at h6
    simpa using h6
def ParsePost (text : ByteArray) (w : World) (e : Ending) (w' : World) : Prop :=
  ∃ A c, e = .returned (.tuple #[.slice A (parseM text).1.length c, .int .i64 (parseM text).2.1, .int .i64 (parseM text).2.2]) ∧ AsksAt w' A (parseM text).1 ∧ Below w.heap.size w w'
theorem asks_nil (w : World) : AsksAt w none [] := fun h => absurd h (by decide)

theorem parse_ret {text : ByteArray} {w w' : World} {L : List Ask} {n : Nat} {er : Int} {A : Option Addr} {c : Nat} (h : parseM text = (L, n, er)) (hA : AsksAt w' A L) (hb : Below w.heap.size w w') :
    ParsePost text w (.returned (.tuple #[.slice A L.length c, .int .i64 n, .int .i64 er])) w' := by
  unfold ParsePost
  rw [h]
  exact ⟨A, c, rfl, hA, hb⟩
theorem take_len {r r' : RSt} {s : ByteArray} (h : takeM r s = some r') : r'.l.length ≤ r.l.length + 1 := by
  unfold takeM at h
  split at h
  · split at h
    · split at h
      · cases h; exact Nat.le_succ _
      · cases h
    · cases h
  · split at h
    · split at h
      · split at h
        · cases h; exact Nat.le_succ _
        · cases h
      · split at h
        · cases h; simp
        · cases h
    · cases h
theorem run_none {rest : ByteArray} (hz : rest.size ≠ 0) (r : RSt) (n : Nat) (hc : cutM 10 rest.data.toList = none) : runM (rest.size + 1) rest.data.toList r n = (n, none) := by
  have h0 : ¬ rest.data.toList = [] := fun e => hz (by rw [← size_list, e]; rfl)
  unfold runM
  rw [if_neg h0, hc]
theorem run_bad {rest : ByteArray} (hz : rest.size ≠ 0) (r : RSt) (n : Nat) {a b : List UInt8} (hc : cutM 10 rest.data.toList = some (a, b)) (ht : takeM r ⟨a.toArray⟩ = none) : runM (rest.size + 1) rest.data.toList r n = (n, none) := by
  have h0 : ¬ rest.data.toList = [] := fun e => hz (by rw [← size_list, e]; rfl)
  unfold runM
  rw [if_neg h0, hc]
  dsimp only
  rw [ht]
theorem run_ok {rest : ByteArray} (hz : rest.size ≠ 0) (r r' : RSt) (n : Nat) {a b : List UInt8} (hc : cutM 10 rest.data.toList = some (a, b)) (ht : takeM r ⟨a.toArray⟩ = some r') : runM (rest.size + 1) rest.data.toList r n = runM (b.length + 1) b r' (n + 1) := by
  have h0 : ¬ rest.data.toList = [] := fun e => hz (by rw [← size_list, e]; rfl)
  have hl := cutM_len 10 _ a b hc
  rw [size_list] at hl
  conv => lhs; unfold runM
  rw [if_neg h0, hc]
  dsimp only
  rw [ht]
  exact runM_fuel rest.size b r' (n + 1) (by omega)

set_option maxRecDepth 100000 in
set_option maxHeartbeats 4000000 in
theorem parse_any (text : ByteArray) (w : World) (hE : Env w) (hs : text.size ≤ 1000000 ∨ 1048576 < text.size) : Calls Tryz.prog 24 #[.string text] w (ParsePost text w) := by
  by_cases hbig : 1048576 < text.size
  · have e0 : (1048576 : Int) < (text.size : Int) := by omega
    have hp : parseM text = ([], 0, 3) := by unfold parseM; rw [if_pos hbig]
    have hp' := Lib.hid hp
    clear hp hbig hs
    have hq := Lib.hid (show ParsePost text w (.returned (.tuple #[.slice none 0 0, .int .i64 0, .int .i64 3])) w from parse_ret hp'.out (asks_nil _) (Below.refl _ _))
    go_enter Tryz.func24, Tryz.ntmps24
    go_wp2
    refine wp_scope_straight ?_
    go_wp2
    rw [Exit.noGoto_ret]
    exact bodyPost_ret (v := .tuple #[.slice none 0 0, .int .i64 0, .int .i64 3]) (by simp [results, Tryz.results24, go_sem]) rfl hq.out
  · have e0 : ¬ (1048576 : Int) < (text.size : Int) := by omega
    have hsz : text.size ≤ 1000000 := by rcases hs with h | h <;> omega
    have hp : parseM text = finM (runM (text.size + 1) text.data.toList zeroR 0) := by unfold parseM; rw [if_neg hbig]
    have hp' := Lib.hid hp
    have hb0 := Lib.hid ((Below.refl w.heap.size w).alloc (Nat.le_refl _) (.cells #[.slice none 0 0, .slice none 0 0, .slice none 0 0, .bool false] 98))
    have hR0 := Lib.hid (show Rd w.heap.size (w.alloc (.cells #[.slice none 0 0, .slice none 0 0, .slice none 0 0, .bool false] 98)) w.heap.size zeroR from
      ⟨fun _ => False, .slice none 0 0, .slice none 0 0, .slice none 0 0, [], fun b h => h.elim, fun h => h, fun g h => by simp [Value.ownBlock] at h, Nat.le_refl _, heap_alloc_new w _, ⟨rfl, .inl ⟨rfl, rfl⟩⟩, rfl, fun h => by cases h⟩)
    have hE' := Lib.hid hE
    clear hE hs hbig hp
    go_enter Tryz.func24, Tryz.ntmps24
    go_wp2_with fail
    refine wp_scope_straight ?_
    go_wp2_with fail
    refine wp_label ?_
    go_wp2_with fail
    go_loopg [6, 7, 8] text.size (fun g s6 s7 s8 wr => ∃ (n : Nat) (rest : ByteArray) (r : RSt), rest.size ≤ g ∧ s6 = .int .i64 n ∧ s7 = .bool true ∧ s8 = .string rest ∧ n + rest.size ≤ text.size ∧ r.l.length ≤ n ∧ Rd w.heap.size wr w.heap.size r ∧ Below w.heap.size w wr ∧ runM (text.size + 1) text.data.toList zeroR 0 = runM (rest.size + 1) rest.data.toList r n)
    case atStart => exact ⟨0, text, zeroR, Nat.le_refl _, rfl, rfl, rfl, by omega, Nat.le_refl _, hR0.out, hb0.out, rfl⟩
    case round =>
      obtain ⟨n, rest, r, hg, rfl, rfl, rfl, hnr, hrn, hR, hb, hrun⟩ := hrel
      have hR' := Lib.hid hR
      have hb' := Lib.hid hb
      have hrun' := Lib.hid hrun
      clear hR hb hrun
      by_cases hz : rest.size = 0
      · have hem : rest.toList.isEmpty = true := by
          rw [ByteArray.toList_eq]
          have := size_list rest
          rw [List.isEmpty_iff]
          exact List.length_eq_zero_iff.1 (by omega)
        have hfin := Lib.hid (show parseM text = finM (n, some r) by
          have h0 : rest.data.toList = [] := List.length_eq_zero_iff.1 (by rw [size_list]; exact hz)
          rw [hp'.out, hrun'.out, h0]
          unfold runM
          rw [if_pos rfl])
        obtain ⟨F, vl, va, vr, qs, hi⟩ := hR'.out
        obtain ⟨AL, cL, hvl, hAL⟩ := rd_asks hi
        subst hvl
        have hAL' := Lib.hid hAL
        obtain ⟨b0, b1, b2, b3, bf⟩ := box4 hi.blk
        clear hi hAL hR'
        obtain ⟨on, hon⟩ : ∃ on, r.on = on := ⟨_, rfl⟩
        rw [hon] at b3
        have hon' := Lib.hid hon
        have hll : r.l.length ≤ 1000000 := by omega
        clear hon
        cases on
        · by_cases h64 : 64 < r.l.length
          · have e64 : (64 : Int) < (r.l.length : Int) := by omega
            have hf2 := Lib.hid (show parseM text = ([], 0, 3) from by rw [hfin.out]; unfold finM; dsimp only; rw [if_neg (by rw [hon'.out]; simp), if_pos h64])
            cases gk
            all_goals
              go_wp2
              try rw [Exit.noGoto_ret]
              go_ret3
              exact parse_ret hf2.out (asks_nil _) hb'.out
          · have e64 : ¬ (64 : Int) < (r.l.length : Int) := by omega
            have hf2 := Lib.hid (show parseM text = (r.l, 0, 0) from by rw [hfin.out]; unfold finM; dsimp only; rw [if_neg (by rw [hon'.out]; simp), if_neg h64])
            cases gk
            all_goals
              go_wp2
              try rw [Exit.noGoto_ret]
              go_ret3
              exact parse_ret hf2.out hAL'.out hb'.out
        · have hf2 := Lib.hid (show parseM text = ([], n, 15) from by rw [hfin.out]; unfold finM; dsimp only; rw [if_pos hon'.out])
          cases gk
          all_goals
            go_wp2
            try rw [Exit.noGoto_ret]
            go_ret3
            exact parse_ret hf2.out (asks_nil _) hb'.out
      · have hem : rest.toList.isEmpty = false := by
          rw [ByteArray.toList_eq]
          have := size_list rest
          cases hl : rest.data.toList with
          | nil => rw [hl] at this; exact absurd this.symm hz
          | cons a b => rfl
        cases gk with
        | zero => omega
        | succ g =>
          have hE1 := hE'.out.below hb'.out
          obtain ⟨m, hmx⟩ := hE1.mx
          have hcut := Tryz.strings_Cut rest ⟨#[10]⟩ m wr (by omega) hmx
          obtain ⟨a, b, t, hct⟩ : ∃ a b t, Lib.cut rest.data.toList [10] = (a, b, t) := ⟨_, _, _, rfl⟩
          rw [show (⟨#[10]⟩ : ByteArray).data.toList = [10] from rfl, hct] at hcut
          have hcm := cut_cutM 10 rest.data.toList
          rw [hct] at hcm
          have hcut' := Lib.hid (show Calls Tryz.prog 59 #[.string rest, .string ⟨#[10]⟩] wr fun e w' => e = .returned (.tuple #[.string ⟨a.toArray⟩, .string ⟨b.toArray⟩, .bool t]) ∧ ∃ n, w' = wr.drewN n from hcut)
          have hE1' := Lib.hid hE1
          clear hcut hE1 hmx
          cases t
          · have hf2 := Lib.hid (show parseM text = ([], n, 15) from by rw [hp'.out, hrun'.out, run_none hz r n hcm]; rfl)
            go_wp2_with fail
            refine hcut'.out.mono ?_
            rintro e w1 ⟨rfl, q, rfl⟩
            have hfb := Lib.hid (below_drewN hb'.out q)
            go_wp2
            try rw [Exit.noGoto_ret]
            go_ret3
            exact parse_ret hf2.out (asks_nil _) hfb.out
          · have hcl := cutM_len 10 rest.data.toList a b hcm
            have hal : (⟨a.toArray⟩ : ByteArray).size = a.length := by rw [← size_list]
            have hbl : (⟨b.toArray⟩ : ByteArray).size = b.length := by rw [← size_list]
            rw [size_list] at hcl
            have htk := Lib.hid (fun q => take_any w.heap.size w.heap.size r ⟨a.toArray⟩ (wr.drewN q) (hE1'.out.below (below_drewN (Below.refl _ _) q)) (by omega)
              (by obtain ⟨F, vl, va, vr, qs, hi⟩ := hR'.out; exact ⟨F, vl, va, vr, qs, hi.below (below_drewN (Below.refl _ _) q)⟩) (by omega))
            cases htm : takeM r ⟨a.toArray⟩ with
            | none =>
              have hf2 := Lib.hid (show parseM text = ([], n, 15) from by rw [hp'.out, hrun'.out, run_bad hz r n hcm htm]; rfl)
              have htk2 := Lib.hid (fun q => (htk.out q).mono fun e w' h => (show e = .returned (.bool false) ∧ Below w.heap.size (wr.drewN q) w' from by
                obtain ⟨b', h1, h2, h3, h4⟩ := h
                rw [h3 htm] at h1
                exact ⟨h1, h2⟩))
              clear htk htm
              go_wp2_with fail
              refine hcut'.out.mono ?_
              rintro e w1 ⟨rfl, q, rfl⟩
              go_wp2_with fail
              refine (htk2.out q).mono ?_
              rintro e w2 ⟨rfl, hb2⟩
              have hfb := Lib.hid ((below_drewN hb'.out q).trans hb2)
              clear hb2
              go_wp2
              try rw [Exit.noGoto_ret]
              go_ret3
              exact parse_ret hf2.out (asks_nil _) hfb.out
            | some r' =>
              have hlr : r'.l.length ≤ n + 1 := by
                have : r'.l.length ≤ r.l.length + 1 := take_len htm
                omega
              have hf2 := Lib.hid (show runM (text.size + 1) text.data.toList zeroR 0 = runM (b.length + 1) b r' (n + 1) from by
                rw [hrun'.out]
                exact run_ok hz r r' n hcm htm)
              have htk2 := Lib.hid (fun q => (htk.out q).mono fun e w' h => (show e = .returned (.bool true) ∧ Below w.heap.size (wr.drewN q) w' ∧ Rd w.heap.size w' w.heap.size r' from by
                obtain ⟨b', h1, h2, h3, h4⟩ := h
                obtain ⟨h5, h6⟩ := h4 r' htm
                rw [h5] at h1
                exact ⟨h1, h2, h6⟩))
              clear htk htm
              go_wp2_with fail
              refine hcut'.out.mono ?_
              rintro e w1 ⟨rfl, q, rfl⟩
              go_wp2_with fail
              refine (htk2.out q).mono ?_
              rintro e w2 ⟨rfl, hb2, hR2⟩
              have hfb := Lib.hid ((below_drewN hb'.out q).trans hb2)
              have hR2' := Lib.hid hR2
              clear hb2 hR2
              go_wp2
              go_roundg g
              case measure => omega
              case rel =>
                refine ⟨n + 1, ⟨b.toArray⟩, r', by omega, by go_num, rfl, rfl, by omega, hlr, hR2'.out, hfb.out, ?_⟩
                rw [hf2.out, hbl]
end Go.Proofs.YtkbmckmlnphpmaaGreatDoor
