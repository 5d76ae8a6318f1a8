/- The reference's Parse. -/
import Derived.Test.YtkbmckmlnphpmaaGreatDoorBB
set_option linter.unusedSimpArgs false
set_option linter.unusedVariables false
namespace Go.Proofs.YtkbmckmlnphpmaaGreatDoor
open Go.RowKit Go.Lib Go.Shelf

theorem WF.bound {F : Nat → Prop} {w : World} {A : Option Addr} {ws : List Int} (h : WF F w A ws) : WF (fun b => F b ∧ b < w.heap.size) w A ws := by
  refine ⟨h.1, fun hn => ?_⟩
  obtain ⟨blk, off, e, hF, hc⟩ := h.2 hn
  exact ⟨blk, off, e, ⟨hF, cell_some_lt (hc 0 ws[0] (by simp))⟩, hc⟩
theorem AskF.bound {F : Nat → Prop} {w : World} {a : Ask} {A1 A2 : Option Addr} (h : AskF F w a A1 A2) : AskF (fun b => F b ∧ b < w.heap.size) w a A1 A2 := by
  refine ⟨h.1.bound, fun hn => ?_, h.2.2.1, h.2.2.2⟩
  obtain ⟨blk, off, e, hF, hc⟩ := h.2.1 hn
  refine ⟨blk, off, e, ⟨hF, ?_⟩, fun i ws hi => ?_⟩
  · obtain ⟨A', c, h1, _⟩ := hc 0 a.regs[0] (by simp)
    exact cell_some_lt h1
  · obtain ⟨A', c, h1, h2, h3⟩ := hc i ws hi
    exact ⟨A', c, h1, h2, h3.bound⟩
theorem new5 (w : World) (a b c d f : Value) (t : TypeId) : ∀ (j : Nat) (u : Value), [a, b, c, d, f][j]? = some u → (w.alloc (.cells #[a, b, c, d, f] t)).cell? ((⟨w.heap.size, 0, none⟩ : Addr).add j) = some u := by
  intro j u hu
  rw [Lib.add_plain, Nat.zero_add, blk_cell (heap_alloc_new w _)]
  simpa using hu
theorem linesF_size : ∀ (l p : List UInt8), p ∈ (linesF l).1 → p.length ≤ l.length
  | [], p, h => by cases h
  | b :: l, p, h => by
    by_cases hb : b = 10
    · subst hb
      rw [lines_nl] at h
      rcases List.mem_cons.1 h with rfl | h
      · simp
      · have := linesF_size l p h
        simp; omega
    · rw [lines_other hb] at h
      obtain ⟨⟨ps, q⟩, hl⟩ : ∃ x, linesF l = x := ⟨_, rfl⟩
      rw [hl] at h
      cases ps with
      | nil => cases h
      | cons x r =>
        rcases List.mem_cons.1 h with rfl | h
        · have := linesF_size l x (by rw [hl]; simp)
          simp; omega
        · have := linesF_size l p (by rw [hl]; exact List.mem_cons_of_mem _ h)
          simp; omega
theorem linesF_count : ∀ (l : List UInt8), (linesF l).1.length ≤ l.length
  | [] => Nat.le_refl _
  | b :: l => by
    have ih := linesF_count l
    by_cases hb : b = 10
    · subst hb
      rw [lines_nl]
      simp; omega
    · rw [lines_other hb]
      obtain ⟨⟨ps, q⟩, hl⟩ : ∃ x, linesF l = x := ⟨_, rfl⟩
      rw [hl] at ih ⊢
      cases ps with
      | nil => simp
      | cons x r => simp at ih ⊢; omega
theorem lines_size (l : List UInt8) (x : ByteArray) (h : x ∈ linesB l) : x.size ≤ l.length := by
  unfold linesB at h
  obtain ⟨p, hp, rfl⟩ := List.mem_map.1 h
  have := linesF_size l p hp
  rw [← size_list]
  exact this
theorem lines_count (l : List UInt8) : (linesB l).length ≤ l.length := by
  unfold linesB
  rw [List.length_map]
  exact linesF_count l
/-- askings that are owned -/
structure OutI (base : Nat) (w : World) (F : Nat → Prop) (v : Value) (n : Nat) (L : List Ask) (qs : List Value) : Prop where
  lt : ∀ b, F b → b < w.heap.size
  len : L.length = n
  fr : ∀ g, v.ownBlock = some g → ¬ F g
  own : w.ownsRow base 42 5 v n qs
  asks : AskVals F w qs L
theorem OutI.at_ {base : Nat} {w : World} {F : Nat → Prop} {v : Value} {n : Nat} {L : List Ask} {qs : List Value} (h : OutI base w F v n L qs) : ∃ A c, v = .slice A n c ∧ AsksAt w A L := by
  have hl := h.asks.len
  have hn := h.len
  obtain ⟨hcl, hcase⟩ := h.own
  rcases hcase with ⟨hv, h0⟩ | ⟨g, cap, cur, hv, hg, hh, hcap, hm, hs, ht⟩
  · exact ⟨none, 0, by rw [h0]; exact hv, fun hn2 => absurd hn2 (by omega)⟩
  · refine ⟨_, _, hv, fun _ => ⟨g, rfl, fun i a hi => ?_⟩⟩
    obtain ⟨A1, c1, A2, c2, h1, h2, h3, h4, h5⟩ := vals_at h.asks i a hi
    refine ⟨A1, c1, A2, c2, fun j v hj => ?_, h2.wat, h3.wsat, h4, h5⟩
    have h6 := h1 j v hj
    have h7 : i * 5 + j < qs.length := (List.getElem?_eq_some_iff.1 h6).1
    rw [blk_cell hh]
    rw [← ht, List.getElem?_take, if_pos (by rw [← hcl]; exact h7)] at h6
    simpa using h6
theorem OutI.go {base : Nat} {w w' : World} {F : Nat → Prop} {v : Value} {n : Nat} {L : List Ask} {qs : List Value} (h : OutI base w F v n L qs) (hb : Below w.heap.size w w') : OutI base w' F v n L qs := by
  have hag : Agree F w w' := fun b hF => hb.block b (h.lt b hF)
  have hk : w.grownBy w' none := ⟨hb.os, hb.tape, hb.output, hb.size, fun i hi _ => hb.block i hi⟩
  exact ⟨fun b hF => Nat.lt_of_lt_of_le (h.lt b hF) hb.size, h.len, h.fr, h.own.kept hk (Classical.em _), h.asks.go (fun _ x => x) hag⟩
/-- one more asking -/
theorem OutI.more {base : Nat} {w w1 w4 : World} {F : Nat → Prop} {v : Value} {n : Nat} {L : List Ask} {qs : List Value} (h : OutI base w F v n L qs) (hb : Below w.heap.size w w1) {a : Ask} {A1 A2 : Option Addr} {c1 c2 : Nat} (ha : AskF (fun b => w.heap.size ≤ b) w1 a A1 A2)
    {o o2 : Obj} {g cap : Nat} (hown : w4.ownsRow base 42 5 (.slice (some ⟨g, 0, none⟩) (n + 1) cap) (n + 1) (qs ++ askCells a A1 c1 A2 c2)) (hg : ((w1.alloc o).alloc o2).grownBy w4 v.ownBlock) (hat : v.ownBlock = some g ∨ g = ((w1.alloc o).alloc o2).heap.size) :
    ∃ F', OutI base w4 F' (.slice (some ⟨g, 0, none⟩) (n + 1) cap) (n + 1) (L ++ [a]) (qs ++ askCells a A1 c1 A2 c2) := by
  have h1 := h.go hb
  have hsz1 := hb.size
  have hsa : ((w1.alloc o).alloc o2).heap.size = w1.heap.size + 2 := by simp
  have hgs := hg.size
  have hv : ∀ b, v.ownBlock = some b → base ≤ b ∧ b < w.heap.size := h.own.lt
  have hold : ∀ b, b < w1.heap.size → v.ownBlock ≠ some b → w4.heap[b]? = w1.heap[b]? := fun b hb1 hb3 => by
    rw [hg.block b (by omega) (fun e => hb3 e.symm), heap_alloc_old (w1.alloc o) o2 (by simp; omega), heap_alloc_old w1 o hb1]
  have hag : Agree F w1 w4 := fun b hF => hold b (h1.lt b hF) (fun e => h.fr b e hF)
  have hag2 : Agree (fun b => w.heap.size ≤ b ∧ b < w1.heap.size) w1 w4 := fun b hF => hold b hF.2 (fun e => by have := (hv b e).2; have := hF.1; omega)
  have ha2 := ha.bound
  have hlt : ∀ b, (F b ∨ (w.heap.size ≤ b ∧ b < w1.heap.size)) → b < w1.heap.size := fun b hF => hF.elim (h1.lt b) (fun x => x.2)
  refine ⟨fun b => F b ∨ (w.heap.size ≤ b ∧ b < w1.heap.size), fun b hF => ?_, by simp [h.len], fun g' hg' => ?_, hown, (h1.asks.go (fun b x => .inl x) hag).snoc ⟨ha2.1.go (fun b x => .inr x) hag2, ha2.2.1.go (fun b x => .inr x) hag2, ha2.2.2⟩⟩
  · have := hlt b hF; omega
  · simp [Value.ownBlock] at hg'
    subst hg'
    rintro (hF | hF)
    · rcases hat with h6 | h6
      · exact h.fr g h6 hF
      · have := h1.lt g hF; omega
    · rcases hat with h6 | h6
      · have := (hv g h6).2; omega
      · omega
theorem run_zero_app {ls : List ByteArray} {k nx : Nat} {r r' : RSt} (h1 : runL zeroR (ls.take k) = some r) (h2 : runL r ((ls.take nx).drop k) = some r') (hk : k ≤ nx) : runL zeroR (ls.take nx) = some r' := by
  have e : ls.take nx = ls.take k ++ (ls.take nx).drop k := by
    have := List.take_append_drop k (ls.take nx)
    rw [List.take_take, Nat.min_eq_left hk] at this
    exact this.symm
  rw [e, runL_app, h1]
  exact h2

set_option maxRecDepth 100000 in
set_option maxHeartbeats 8000000 in
theorem refParse_any (text : ByteArray) (w : World) (hs : text.size ≤ 1000000 ∨ 1048576 < text.size) : Calls Tryz.prog 25 #[.string text] w (ParsePost text w) := by
  by_cases hbig : 1048576 < text.size
  · have e0 : (1048576 : Int) < (text.size : Int) := by omega
    have hp : parseM text = ([], 0, 3) := by unfold parseM; rw [if_pos hbig]
    have hq := Lib.hid (show ParsePost text w (.returned (.tuple #[.slice none 0 0, .int .i64 0, .int .i64 3])) w from parse_ret hp (asks_nil _) (Below.refl _ _))
    clear hp hbig hs
    go_enter Tryz.func25, Tryz.ntmps25
    go_wp2
    go_ret3
    exact hq.out
  · have e0 : ¬ (1048576 : Int) < (text.size : Int) := by omega
    have hsz : text.size ≤ 1000000 := by rcases hs with h | h <;> omega
    have hsz2 := Lib.hid (show text.size ≤ 1048576 by omega)
    have hsp := refSplit_any text w hsz
    unfold SplitPost at hsp
    obtain ⟨ls, hls⟩ : ∃ ls, linesB text.data.toList = ls := ⟨_, rfl⟩
    obtain ⟨rs, hrs⟩ : ∃ rs, restB text.data.toList = rs := ⟨_, rfl⟩
    obtain ⟨n, hn⟩ : ∃ n, ls.length = n := ⟨_, rfl⟩
    rw [hls, hrs, hn] at hsp
    have hsp' := Lib.hid hsp
    have hlsz := Lib.hid (show ∀ x ∈ ls, x.size ≤ 1000000 from by
      intro x hx
      rw [← hls] at hx
      exact Nat.le_trans (lines_size text.data.toList x hx) (by rw [size_list]; exact hsz))
    have hnle : n ≤ 1100000 := by
      have := lines_count text.data.toList
      rw [hls, hn, size_list] at this
      omega
    have hbad := Lib.hid fun (i : Nat) (r' : RSt) (s : ByteArray) (h1 : runL zeroR (ls.take i) = some r') (h2 : ls[i]? = some s) (h3 : takeM r' s = none) => parse_bad (text := text) hsz2.out (by rw [hls]; exact h1) (by rw [hls]; exact h2) h3
    have hrest := Lib.hid fun (r' : RSt) (h1 : runL zeroR ls = some r') (h2 : (linesF text.data.toList).2 ≠ []) => (show parseM text = ([], n, 15) from by rw [parse_rest hsz2.out (by rw [hls]; exact h1) h2, hls, hn])
    have hwhole := Lib.hid fun (r' : RSt) (h1 : runL zeroR ls = some r') (h2 : (linesF text.data.toList).2 = []) => (show parseM text = if r'.on = true then ([], n, 15) else if 64 < r'.l.length then ([], 0, 3) else (r'.l, 0, 0) from by rw [parse_whole hsz2.out (by rw [hls]; exact h1) h2, hls, hn])
    have hrsl := Lib.hid (show rs.data.toList = (linesF text.data.toList).2 by rw [← hrs]; rfl)
    have hn' := Lib.hid hn
    have hempty : ∀ er, runL zeroR ls = some er → er.on = true → parseM text = ([], n, 15) := fun er h1 h2 => by
      by_cases h3 : (linesF text.data.toList).2 = []
      · rw [hwhole.out er h1 h3, if_pos h2]
      · exact hrest.out er h1 h3
    have hempty := Lib.hid hempty
    obtain ⟨i0, hi, hz0, hz1, hz2⟩ := info_parts info42
    have hi' := Lib.hid (And.intro hi (And.intro hz0 (And.intro hz1 hz2)))
    clear hi hz0 hz1 hz2 hsp hls hrs hn hs hbig
    go_enter Tryz.func25, Tryz.ntmps25
    go_wp2_with fail
    refine hsp'.out.mono ?_
    rintro e w1 ⟨A, c, rfl, hA, hb1⟩
    have hb1' := Lib.hid hb1
    have hA' := Lib.hid hA
    clear hb1 hA
    go_wp2_with fail
    go_loopg [7, 8] n (fun g s7 s8 wr => ∃ (k m : Nat) (L : List Ask) (ar : List Int) (rr : List (List Int)) (F : Nat → Prop) (qs : List Value), n - k ≤ g ∧ k ≤ n ∧ s8 = .int .i64 k ∧ m ≤ k ∧ OutI w1.heap.size wr F s7 m L qs ∧ runL zeroR (ls.take k) = some ⟨L, ar, rr, false⟩ ∧ Below w1.heap.size w1 wr)
    case atStart => exact ⟨0, 0, [], [], [], fun _ => False, [], by omega, by omega, rfl, Nat.le_refl _, ⟨fun b h => h.elim, rfl, fun g h => by simp [Value.ownBlock] at h, ⟨rfl, .inl ⟨rfl, rfl⟩⟩, rfl⟩, rfl, Below.refl _ _⟩
    case round =>
      obtain ⟨k, m, L, ar, rr, F, qs, hkg, hkn, rfl, hmk, hO, hrun, hb⟩ := hrel
      have hb' := Lib.hid hb
      have hrun' := Lib.hid hrun
      have hfin := Lib.hid (Below.next hb1'.out hb)
      by_cases hkn2 : k = n
      · subst hkn2
        have e1 : ¬ ((k : Int) < (k : Int)) := by omega
        have htk : ls.take k = ls := List.take_of_length_le (by rw [hn'.out]; omega)
        rw [htk] at hrun
        have hrunF := Lib.hid hrun
        obtain ⟨AL, cL, rfl, hAL⟩ := hO.at_
        have hAL' := Lib.hid hAL
        have hOl := Lib.hid hO.len
        clear hb hrun hO hAL hrun' htk
        by_cases hr0 : rs.data.toList = []
        · have hem : rs.toList.isEmpty = true := by rw [ByteArray.toList_eq, hr0]; rfl
          have hpm := hwhole.out _ hrunF.out (by rw [← hrsl.out]; exact hr0)
          rw [if_neg (by simp)] at hpm
          dsimp only at hpm
          rw [hOl.out] at hpm
          have hpm' := Lib.hid hpm
          clear hpm hr0
          by_cases h64 : 64 < m
          · have e64 : (64 : Int) < (m : Int) := by omega
            have hp2 := Lib.hid (show parseM text = ([], 0, 3) by rw [hpm'.out, if_pos h64])
            cases gk
            all_goals
              go_wp2
              go_ret3
              exact parse_ret hp2.out (asks_nil _) hfin.out
          · have e64 : ¬ (64 : Int) < (m : Int) := by omega
            have hp2 := Lib.hid (show parseM text = (L, 0, 0) by rw [hpm'.out, if_neg h64])
            cases gk
            all_goals
              go_wp2
              go_ret3
              have := parse_ret hp2.out hAL'.out hfin.out (c := cL)
              rw [hOl.out] at this
              exact this
        · have hem : rs.toList.isEmpty = false := by
            rw [ByteArray.toList_eq]
            cases hl : rs.data.toList with
            | nil => exact absurd hl hr0
            | cons a b => rfl
          have hp2 := Lib.hid (show parseM text = ([], k, 15) from hrest.out _ hrunF.out (by rw [← hrsl.out]; exact hr0))
          clear hr0
          cases gk
          all_goals
            go_wp2
            go_ret3
            exact parse_ret hp2.out (asks_nil _) hfin.out
      · cases gk with
        | zero => omega
        | succ g =>
          have e1 : (k : Int) < (n : Int) := by omega
          have hO' := Lib.hid hO
          have hone := Lib.hid (refOne_any ls A n c k wr hn'.out (hA'.out.below hb) (by omega) hlsz.out hnle)
          clear hb hrun hO
          go_wp2_with fail
          refine hone.out.mono ?_
          rintro e w3 ⟨a, A1, A2, c1, c2, nx, ok, rfl, hb3, h1, h2⟩
          have hfin3 := Lib.hid (Below.next hfin.out hb3)
          cases ok
          · obtain ⟨h3, h4, h5⟩ := h2 rfl
            obtain ⟨r', h6, h7, h8⟩ := h5 L ar rr
            have h9 := run_zero_app hrun'.out h6 h3
            have hp2 := Lib.hid (show parseM text = ([], nx, 15) from by
              by_cases hnx : nx = n
              · rw [hnx]
                refine hempty.out r' ?_ (h8 (by rw [hn'.out]; exact hnx))
                rw [List.take_of_length_le (by rw [hn'.out]; omega)] at h9
                exact h9
              · have hlt : nx < ls.length := by rw [hn'.out]; rw [hn'.out] at h4; omega
                have hget : ls[nx]? = some ls[nx] := List.getElem?_eq_getElem hlt
                exact hbad.out nx r' _ h9 hget (h7 _ hget))
            clear h1 h2 h3 h4 h5 h6 h7 h8 h9 hb3
            unfold askVal
            go_wp2
            go_ret3
            exact parse_ret hp2.out (asks_nil _) (hfin3.out.alloc hfin3.out.size _)
          · obtain ⟨h3, h4, h5, h6⟩ := h1 rfl
            have h9 := Lib.hid (run_zero_app hrun'.out (h6 L ar rr) (by omega))
            have h5' := Lib.hid h5
            have hb3' := Lib.hid hb3
            have hO3 := hO'.out.go hb3
            have hnxn : nx ≤ n := by rw [← hn'.out]; exact h4
            obtain ⟨j0, j1, j2, j3, j4, jf⟩ := box5 (heap_alloc_new w3 (.cells #[.int .i64 a.k, .slice A1 a.args.length c1, .slice A2 a.regs.length c2, .int .u64 a.st, .int .i64 a.fu] 42))
            have hown := Lib.hid ((hO3.own.alloc (.cells #[.int .i64 a.k, .slice A1 a.args.length c1, .slice A2 a.regs.length c2, .int .u64 a.st, .int .i64 a.fu] 42)).alloc (.cells #[.int .i64 a.k, .slice A1 a.args.length c1, .slice A2 a.regs.length c2, .int .u64 a.st, .int .i64 a.fu] 42))
            have hnew := Lib.hid (new5 (w3.alloc (.cells #[.int .i64 a.k, .slice A1 a.args.length c1, .slice A2 a.regs.length c2, .int .u64 a.st, .int .i64 a.fu] 42)) (.int .i64 a.k) (.slice A1 a.args.length c1) (.slice A2 a.regs.length c2) (.int .u64 a.st) (.int .i64 a.fu) 42)
            have hsz5 : (w3.alloc (.cells #[.int .i64 a.k, .slice A1 a.args.length c1, .slice A2 a.regs.length c2, .int .u64 a.st, .int .i64 a.fu] 42)).heap.size = w3.heap.size + 1 := by simp
            rw [hsz5] at hnew
            have hone5 := Lib.hid (show ∀ v ∈ [Value.int .i64 a.k, .slice A1 a.args.length c1, .slice A2 a.regs.length c2, .int .u64 a.st, .int .i64 a.fu], v.oneCell' = true by simp [Value.oneCell'])
            have hszz := hfin3.out.size
            have hw1 := hb1'.out.size
            have hbw1 := (Below.next hb'.out hb3).size
            have hbs := Lib.hid (show w1.heap.size ≤ ((w3.alloc (.cells #[.int .i64 a.k, .slice A1 a.args.length c1, .slice A2 a.regs.length c2, .int .u64 a.st, .int .i64 a.fu] 42)).alloc (.cells #[.int .i64 a.k, .slice A1 a.args.length c1, .slice A2 a.regs.length c2, .int .u64 a.st, .int .i64 a.fu] 42)).heap.size by simp; omega)
            have hk1 := Lib.hid (show m + 1 ≤ maxLen by unfold maxLen; omega)
            have hk2 := Lib.hid (show (m + 1) * 72 ≤ 140737488355328 by omega)
            obtain ⟨hq1, hq2, hq3, hq4⟩ := hi'.out
            have hbA := Lib.hid ((below_two w3 (.cells #[.int .i64 a.k, .slice A1 a.args.length c1, .slice A2 a.regs.length c2, .int .u64 a.st, .int .i64 a.fu] 42) (.cells #[.int .i64 a.k, .slice A1 a.args.length c1, .slice A2 a.regs.length c2, .int .u64 a.st, .int .i64 a.fu] 42)))
            clear h1 h2 h5 h6 hb3 hO3 h4
            unfold askVal
            go_wp2_with ((at_builtin; refine wpList_append_own_at _ rfl _ _ 48 rfl w1.heap.size 42 i0 _ 5 72 und48 hq1 hq2 hq3 hq4 rfl (by decide) u7 m qs rfl hown.out ⟨w3.heap.size + 1, 0, none⟩ 1 1 [.int .i64 a.k, .slice A1 a.args.length c1, .slice A2 a.regs.length c2, .int .u64 a.st, .int .i64 a.fu] rfl rfl hnew.out hone5.out hk1.out hk2.out hbs.out ?_; intro v' w5 hown5 hg5 hnil5 hat5))
            obtain ⟨gn, capn, rfl, _, _⟩ := hown5.form (Nat.succ_pos m)
            obtain ⟨F', hO5⟩ := hO'.out.more hb3'.out (c1 := c1) (c2 := c2) h5'.out hown5 hg5 (hat5.elim (fun h => .inl h.symm) (fun h => .inr (by injection h)))
            have hO5' := Lib.hid hO5
            have hB5 := Lib.hid ((Below.next (Below.next hb'.out hb3'.out) hbA.out).grown hg5 hbs.out (fun g' e => (hown.out.lt g' e).1))
            clear hO5 hown5 hg5 hnil5 hat5
            go_wp2
            go_roundg g
            case measure => omega
            case rel =>
              exact ⟨nx, m + 1, L ++ [a], a.args, a.regs, F', _, by omega, hnxn, rfl, by omega, hO5'.out, h9.out, hB5.out⟩
end Go.Proofs.YtkbmckmlnphpmaaGreatDoor
