/- Number, Name; the reference's Own, Name. -/
import Derived.Test.YtmkfoknhjjgipaaDoorB
set_option linter.unusedSimpArgs false
set_option linter.unusedVariables false
namespace Go.Proofs.YtmkfoknhjjgipaaDoor
open Go.RowKit Go.Lib Go.Shelf

def NumPost (s : ByteArray) (w : World) (e : Ending) (w' : World) : Prop :=
  (numI s = none → e = .returned (.tuple #[.int .u64 0, .int .i64 15])) ∧ (∀ u : Nat, numI s = some u → e = .returned (.tuple #[.int .u64 u, .int .i64 0])) ∧ Below w.heap.size w w'

set_option maxRecDepth 100000 in
set_option maxHeartbeats 1000000 in
theorem number_any (s : ByteArray) (w : World) (hE : Env w) (hs : s.size ≤ 2000000) : Calls Tryd.prog 9 #[.string s] w (NumPost s w) := by
  rcases hp : Lib.parseUintB 64 s.data.toList with u | _ | _
  · have hle := Lib.parseUintB_le hp
    have hu : u < 18446744073709551616 := by omega
    have hk := Lib.hid (Tryd.strconv_ParseUint_10_at64_ok s (by omega) u hp w)
    have hT := Lib.hid hE.tab
    obtain ⟨t, ht⟩ : ∃ t, ((numT u).toList == s.toList) = t := ⟨_, rfl⟩
    have hn : numI s = if t = true then some u else none := by unfold numI; rw [hp]; dsimp only; rw [ht]
    have hn' := Lib.hid hn
    have ht2 : ((numT u).toList != s.toList) = !t := by rw [bne, ht]
    clear hp hE hs hle hn
    go_enter Tryd.func9, Tryd.ntmps9
    go_wp2_with fail
    refine hk.out.mono ?_
    rintro e w1 ⟨rfl, hw1⟩
    have hb1 := Lib.hid (show Below w.heap.size w w1 from by
      rcases hw1 with rfl | rfl
      · exact Below.refl _ _
      · exact below_bytes w s)
    clear hw1
    go_wp2_with fail
    refine (fmtU u hu w1 (hT.out.below hb1.out)).mono ?_
    rintro e w2 ⟨rfl, hb2⟩
    have hb2' := Lib.hid (Below.next hb1.out hb2)
    clear hb2
    cases t
    · go_wp2
      go_ret2
      exact ⟨(fun _ => rfl), (fun v h => by rw [hn'.out] at h; cases h), hb2'.out⟩
    · go_wp2
      go_ret2
      exact ⟨(fun h => by rw [hn'.out] at h; cases h), (fun v h => by rw [hn'.out] at h; cases h; rfl), hb2'.out⟩
  · obtain ⟨ev, h1, h2⟩ := hE.syn
    have hk := Lib.hid (Tryd.strconv_ParseUint_10_at64_syntax s (by omega) hp ev w h1 h2)
    have hn' := Lib.hid (show numI s = none by unfold numI; rw [hp])
    clear hp hE hs h1 h2
    go_enter Tryd.func9, Tryd.ntmps9
    go_wp2_with fail
    refine hk.out.mono ?_
    rintro e w1 ⟨N, rfl, _, _, hb⟩
    have hb' := Lib.hid hb
    clear hb
    go_wp2
    go_ret2
    exact ⟨(fun _ => rfl), (fun v h => by rw [hn'.out] at h; cases h), hb'.out⟩
  · obtain ⟨ev, h1, h2⟩ := hE.rng
    have hk := Lib.hid (Tryd.strconv_ParseUint_10_at64_range s (by omega) hp ev w h1 h2)
    have hn' := Lib.hid (show numI s = none by unfold numI; rw [hp])
    clear hp hE hs h1 h2
    go_enter Tryd.func9, Tryd.ntmps9
    go_wp2_with fail
    refine hk.out.mono ?_
    rintro e w1 ⟨N, rfl, _, _, hb⟩
    have hb' := Lib.hid hb
    clear hb
    go_wp2
    go_ret2
    exact ⟨(fun _ => rfl), (fun v h => by rw [hn'.out] at h; cases h), hb'.out⟩

/-! names -/
def nameB (s : ByteArray) : Bool := decide (0 < s.size) && decide (s.size ≤ 16) && lowB (s.data.toList.headD 0) && s.data.toList.all partB && !ownB s
theorem span_all (p : UInt8 → Bool) : ∀ l : List UInt8, (spanN p l = l.length) ↔ l.all p = true
  | [] => by simp [spanN]
  | b :: l => by
    have ih := span_all p l
    unfold spanN at ih ⊢
    rw [List.takeWhile_cons]
    cases hb : p b
    · simp [hb]
    · simp [hb, ih]
theorem head_get {s : ByteArray} (h : 0 < s.size) : s.data.toList.headD 0 = s[0]'h := by
  have := get_list s 0 h
  cases hl : s.data.toList with
  | nil => rw [hl] at this; cases this
  | cons b l => rw [hl] at this; cases this; rfl
theorem empty_iff (s : ByteArray) : s.toList.isEmpty = decide (s.size = 0) := by
  rw [ByteArray.toList_eq, ← size_list]
  cases s.data.toList <;> simp

set_option maxRecDepth 100000 in
set_option maxHeartbeats 2000000 in
theorem name_any (s : ByteArray) (w : World) (hs : s.size ≤ 2000000) : Calls Tryd.prog 13 #[.string s] w (BoolPost (nameB s) w) := by
  have hem := empty_iff s
  by_cases h0 : s.size = 0
  · have hn : nameB s = false := by unfold nameB; rw [decide_eq_false (show ¬ 0 < s.size by omega)]; rfl
    rw [hn]
    rw [decide_eq_true h0] at hem
    clear hn h0
    go_enter Tryd.func13, Tryd.ntmps13
    go_wp2
    go_ret
    exact ⟨rfl, Below.refl _ _⟩
  · rw [decide_eq_false h0] at hem
    by_cases h16 : s.size ≤ 16
    · have e16 : (s.size : Int) ≤ 16 := by omega
      have hpos : 0 < s.size := by omega
      have hl := letter_any (s[0]'hpos) w
      obtain ⟨t, ht⟩ : ∃ t, lowB (s[0]'hpos) = t := ⟨_, rfl⟩
      rw [ht] at hl
      have hl := Lib.hid hl
      have hsp := Lib.hid (while_any 24 partB part_pred s 0 w hs (by omega))
      rw [List.drop_zero] at hsp
      have hal := span_all partB s.data.toList
      rw [size_list] at hal
      obtain ⟨n, hn⟩ : ∃ n, spanN partB s.data.toList = n := ⟨_, rfl⟩
      rw [hn] at hsp hal
      have ho := own_any s w
      obtain ⟨o, hob⟩ : ∃ o, ownB s = o := ⟨_, rfl⟩
      rw [hob] at ho
      have ho := Lib.hid ho
      have hN : nameB s = (t && s.data.toList.all partB && !o) := by
        unfold nameB
        rw [head_get hpos, ht, hob, decide_eq_true hpos, decide_eq_true h16]
        rfl
      by_cases hna : n = s.size
      · have hall := hal.1 hna
        have en : ((n : Int) == (s.size : Int)) = true := by simp [hna]
        rw [hall] at hN
        cases t
        · rw [hN]
          clear hN hal hall hna hob ho hn
          go_enter Tryd.func13, Tryd.ntmps13
          go_wp2_with (go_at_call 22; refine hl.out.mono ?_; rintro e w1 ⟨rfl, rfl⟩)
          go_ret
          exact ⟨rfl, Below.refl _ _⟩
        · rw [hN]
          clear hN hal hall hna hob hn
          cases o
          all_goals
            go_enter Tryd.func13, Tryd.ntmps13
            go_wp2_with (first | (go_at_call 22; refine hl.out.mono ?_; rintro e w1 ⟨rfl, rfl⟩) | (go_at_call 23; refine hsp.out.mono ?_; rintro e w1 ⟨rfl, rfl⟩) | (go_at_call 25; refine ho.out.mono ?_; rintro e w2 ⟨rfl, hb2⟩; have hb2 := Lib.hid hb2))
            go_ret
            exact ⟨rfl, hb2.out⟩
      · have hall : s.data.toList.all partB = false := by
          rw [← Bool.not_eq_true]
          exact fun h => hna (hal.2 h)
        have en : ((n : Int) == (s.size : Int)) = false := by simp; omega
        rw [hall, Bool.and_false, Bool.false_and] at hN
        rw [hN]
        clear hN hal hall hna hob ho hn
        cases t
        all_goals
          go_enter Tryd.func13, Tryd.ntmps13
          go_wp2_with (first | (go_at_call 22; refine hl.out.mono ?_; rintro e w1 ⟨rfl, rfl⟩) | (go_at_call 23; refine hsp.out.mono ?_; rintro e w1 ⟨rfl, rfl⟩))
          go_ret
          exact ⟨rfl, Below.refl _ _⟩
    · have e16 : ¬ (s.size : Int) ≤ 16 := by omega
      have hn : nameB s = false := by unfold nameB; rw [decide_eq_false h16, Bool.and_false]; rfl
      rw [hn]
      clear hn
      go_enter Tryd.func13, Tryd.ntmps13
      go_wp2
      go_ret
      exact ⟨rfl, Below.refl _ _⟩

end Go.Proofs.YtmkfoknhjjgipaaDoor
