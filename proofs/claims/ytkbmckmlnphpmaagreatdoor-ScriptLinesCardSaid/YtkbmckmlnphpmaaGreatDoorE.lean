/- A text's number. -/
import Derived.Test.YtkbmckmlnphpmaaGreatDoorD
set_option linter.unusedSimpArgs false
set_option linter.unusedVariables false
namespace Go.Proofs.YtkbmckmlnphpmaaGreatDoor
open Go.RowKit Go.Lib Go.Shelf

/-- what the library's variables hold -/
structure Env (w : World) : Prop where
  tab : Tab w
  syn : ∃ ev, w.cell? ⟨2, 0, none⟩ = some ev ∧ (ev = .nilIface ∨ ∃ te pe, ev = .iface te pe)
  rng : ∃ ev, w.cell? ⟨3, 0, none⟩ = some ev ∧ (ev = .nilIface ∨ ∃ te pe, ev = .iface te pe)
  mx : ∃ m, w.cell? ⟨1, 0, none⟩ = some (.int .i64 m)
theorem Env.below {w w' : World} (h : Env w) (hb : Below w.heap.size w w') : Env w' := by
  refine ⟨h.tab.below hb, ?_, ?_, ?_⟩
  · obtain ⟨ev, h1, h2⟩ := h.syn
    exact ⟨ev, (hb.cell (p := ⟨2, 0, none⟩) (cell_some_lt h1)).trans h1, h2⟩
  · obtain ⟨ev, h1, h2⟩ := h.rng
    exact ⟨ev, (hb.cell (p := ⟨3, 0, none⟩) (cell_some_lt h1)).trans h1, h2⟩
  · obtain ⟨m, h1⟩ := h.mx
    exact ⟨m, (hb.cell (p := ⟨1, 0, none⟩) (cell_some_lt h1)).trans h1⟩
/-- the number that a text is -/
def numI (s : ByteArray) : Option Nat := match Lib.parseUintB 64 s.data.toList with | .ok u => if (numT u).toList == s.toList then some u else none | _ => none
def NumPost (s : ByteArray) (w : World) (e : Ending) (w' : World) : Prop :=
  ∃ v : Nat, e = .returned (.tuple #[.int .u64 v, .bool (numI s).isSome]) ∧ (∀ u, numI s = some u → v = u) ∧ v < 18446744073709551616 ∧ Below w.heap.size w w'

theorem below_bytes (w : World) (s : ByteArray) : Below w.heap.size w (Lib.bytesWorld w 5 s) :=
  ⟨rfl, rfl, rfl, by rw [Lib.bytesWorld_size]; omega, fun j hj => Lib.bytesWorld_at_old w 5 s j hj⟩

set_option maxRecDepth 100000 in
set_option maxHeartbeats 1000000 in
theorem number_any (s : ByteArray) (w : World) (hE : Env w) (hs : s.size ≤ 1000000) : Calls Tryz.prog 53 #[.string s] w (NumPost s w) := by
  rcases hp : Lib.parseUintB 64 s.data.toList with u | _ | _
  · have hle := Lib.parseUintB_le hp
    have hu : u < 18446744073709551616 := by omega
    have hk := Lib.hid (Tryz.strconv_ParseUint_10_at64_ok s (by omega) u hp w)
    have hT := Lib.hid hE.tab
    obtain ⟨t, ht⟩ : ∃ t, ((numT u).toList == s.toList) = t := ⟨_, rfl⟩
    have hn : numI s = if t = true then some u else none := by unfold numI; rw [hp]; dsimp only; rw [ht]
    have hn' := Lib.hid hn
    clear hp hE hs hle hn
    go_enter Tryz.func53, Tryz.ntmps53
    go_wp2_with fail
    refine hk.out.mono ?_
    rintro e w1 ⟨rfl, hw1⟩
    have hb1 := Lib.hid (show Below w.heap.size w w1 from by
      rcases hw1 with rfl | rfl
      · exact Below.refl _ _
      · exact below_bytes w s)
    clear hw1
    go_wp2_with fail
    refine (fmtU u hu w1 (hT.out.below hb1.out)).mono ?_
    rintro e w2 ⟨rfl, hb2⟩
    have hb2' := Lib.hid (Below.next hb1.out hb2)
    clear hb2
    cases t
    · go_wp2
      go_ret2
      exact ⟨u, by rw [hn'.out]; rfl, (fun v h => by rw [hn'.out] at h; cases h), hu, hb2'.out⟩
    · go_wp2
      go_ret2
      exact ⟨u, by rw [hn'.out]; rfl, (fun v h => by rw [hn'.out] at h; cases h; rfl), hu, hb2'.out⟩
  · obtain ⟨ev, h1, h2⟩ := hE.syn
    have hk := Lib.hid (Tryz.strconv_ParseUint_10_at64_syntax s (by omega) hp ev w h1 h2)
    have hn' := Lib.hid (show numI s = none by unfold numI; rw [hp])
    clear hp hE hs h1 h2
    go_enter Tryz.func53, Tryz.ntmps53
    go_wp2_with fail
    refine hk.out.mono ?_
    rintro e w1 ⟨N, rfl, _, _, hb⟩
    have hb' := Lib.hid hb
    clear hb
    go_wp2
    go_ret2
    exact ⟨0, by rw [hn'.out]; rfl, (fun v h => by rw [hn'.out] at h; cases h), by omega, hb'.out⟩
  · obtain ⟨ev, h1, h2⟩ := hE.rng
    have hk := Lib.hid (Tryz.strconv_ParseUint_10_at64_range s (by omega) hp ev w h1 h2)
    have hn' := Lib.hid (show numI s = none by unfold numI; rw [hp])
    clear hp hE hs h1 h2
    go_enter Tryz.func53, Tryz.ntmps53
    go_wp2_with fail
    refine hk.out.mono ?_
    rintro e w1 ⟨N, rfl, _, _, hb⟩
    have hb' := Lib.hid hb
    clear hb
    go_wp2
    go_ret2
    exact ⟨18446744073709551615, by rw [hn'.out]; rfl, (fun v h => by rw [hn'.out] at h; cases h), by omega, hb'.out⟩
end Go.Proofs.YtkbmckmlnphpmaaGreatDoor
