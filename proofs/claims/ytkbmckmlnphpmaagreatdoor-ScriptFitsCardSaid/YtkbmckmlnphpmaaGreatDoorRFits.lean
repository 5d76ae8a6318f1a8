/- The statement Rows.ScriptFitsCardSaid, proved: the law answers true at every input; what it lists is tied to the program's text. -/
import Derived.Test.YtkbmckmlnphpmaaGreatDoorWFits
import Derived.Test.YtkbmckmlnphpmaaGreatDoorAM
import Derived.Test.YtkbmckmlnphpmaaGreatDoorBE
import Derived.Test.YtkbmckmlnphpmaaGreatDoorMB
import Derived.Test.YtkbmckmlnphpmaaGreatDoorCards
import Derived.Test.YtkbmckmlnphpmaaGreatDoorTie
import Derived.SevenTiedAt
set_option linter.unusedVariables false
set_option linter.unusedSimpArgs false
namespace Go.Proofs.YtkbmckmlnphpmaaGreatDoor.scriptFits
open Go.ChangeShapes Go.WideShapes Go.ChangeAt Go.RowKit

theorem own : ownKnob Tryz.prog.godebug = none := by kernel_rfl
theorem laidOut : laidOutB Tryz.prog = true := by kernel_rfl

theorem witness_row (os : Os) {H : Type} (enc : TypeId × Value → H) :
    (OpenSpec.ofChange Rows.scriptFitsSpec).preRow enc Tryz.prog Tryz.f12 Rows.scriptFitsRow.domain false Rows.scriptFitsRow.laid ((laidWorld os).forCall (fun _ _ => 0) ⟨#[], #[.slice none 0 0, .agg #[.int .i64 0, .slice none 0 0, .slice none 0 0, .int .u64 0, .int .i64 0], .agg #[.int .i64 0, .slice none 0 0, .slice none 0 0, .int .u64 0, .int .i64 0]], []⟩).memory #[.slice none 0 0, .agg #[.int .i64 0, .slice none 0 0, .slice none 0 0, .int .u64 0, .int .i64 0], .agg #[.int .i64 0, .slice none 0 0, .slice none 0 0, .int .u64 0, .int .i64 0]] := by
  have hw : (DataW.whole enc Tryz.prog ((laidWorld os).forCall (fun _ _ => 0) ⟨#[], #[.slice none 0 0, .agg #[.int .i64 0, .slice none 0 0, .slice none 0 0, .int .u64 0, .int .i64 0], .agg #[.int .i64 0, .slice none 0 0, .slice none 0 0, .int .u64 0, .int .i64 0]], []⟩).memory Tryz.f12.params.toList Rows.scriptFitsSpec.vars false #[Value.slice none 0 0, .agg #[.int .i64 0, .slice none 0 0, .slice none 0 0, .int .u64 0, .int .i64 0], .agg #[.int .i64 0, .slice none 0 0, .slice none 0 0, .int .u64 0, .int .i64 0]].toList 8).map (fun x => (x.1, x.2.1)) =
      some ([.nil, .agg [.lit (.int .i64 0), .agg [.nil, .nil], .lit (.int .u64 0), .lit (.int .i64 0)], .agg [.lit (.int .i64 0), .agg [.nil, .nil], .lit (.int .u64 0), .lit (.int .i64 0)]], []) := by kernel_rfl
  obtain ⟨⟨x1, x2, x3⟩, hx, hx1⟩ := Option.map_eq_some_iff.1 hw
  simp only [Prod.mk.injEq] at hx1
  obtain ⟨rfl, rfl⟩ := hx1
  exact OpenSpec.preRow_of_cond 8 hx (by kernel_rfl) (fun k hk => by cases hk) (by kernel_rfl) (by
    have h := door_met os #[.slice none 0 0, .agg #[.int .i64 0, .slice none 0 0, .slice none 0 0, .int .u64 0, .int .i64 0], .agg #[.int .i64 0, .slice none 0 0, .slice none 0 0, .int .u64 0, .int .i64 0]]
    rw [MakeChecks.laidMetH_plain _ _ _ (by kernel_rfl)] at h
    exact h)

set_option maxRecDepth 100000 in
set_option maxHeartbeats 1000000 in
theorem lifted (os : Os) (started : os.Started) (H : Type) (enc : TypeId × Value → H) (F : Stop.Interp) :
    ReturnsInHanded {} Tryz.checked os 12 .any ((OpenSpec.ofChange Rows.scriptFitsSpec).preRow enc Tryz.prog Tryz.f12 Rows.scriptFitsRow.domain false Rows.scriptFitsRow.laid) (((OpenSpec.ofChange Rows.scriptFitsSpec).at F).post enc Tryz.prog Tryz.f12 false true false false) := by
  refine returnsInHanded_of_row (C := Tryz.checked) (s := OpenSpec.ofChange Rows.scriptFitsSpec) own started (by kernel_rfl) Tryz.func12
    (witness_row_at (enc := enc) (C := Tryz.checked) false (laidWorld os) #[.slice none 0 0, .agg #[.int .i64 0, .slice none 0 0, .slice none 0 0, .int .u64 0, .int .i64 0], .agg #[.int .i64 0, .slice none 0 0, .slice none 0 0, .int .u64 0, .int .i64 0]] rfl (by kernel_rfl) (by kernel_rfl) (by kernel_rfl) (witness_row os enc)) ?_
  intro W base args ds gs before hval0 hW _ _ hsz hL hsh _
  have hval : ∀ (j : Nat) t v, Tryz.f12.params[j]? = some t → args[j]? = some v → Value.okWide Tryz.prog W .any base t v := hval0
  have hW' := hW
  obtain ⟨p, q, hA0, hV, rfl, hfz, hnd⟩ := hW
  have hA : DataW.TrodAll enc Tryz.prog W 0 (fun _ => true) true Tryz.f12.params.toList args.toList ds p := hA0
  rw [Tryz.params12] at hA hval hsz
  obtain ⟨v0, vs0, d0, ds0, p0, q0, hargs, rfl, rfl, h0, r0⟩ := trodAll_cons hA
  obtain ⟨v1, vs1, d1, ds1, p1, q1, rfl, rfl, rfl, h1, r1⟩ := trodAll_cons r0
  obtain ⟨v2, vs2, d2, ds2, p2, q2, rfl, rfl, rfl, h2, r2⟩ := trodAll_cons r1
  obtain ⟨rfl, rfl, rfl⟩ := trodAll_nil r2
  obtain rfl : args = #[v0, v1, v2] := by cases args; simp_all
  obtain ⟨rfl, rfl⟩ := trodVars_none hV
  obtain ⟨A0, len0, cap0, rfl⟩ := okWide_slice Tryz.underlying79 (hval 0 79 v0 rfl rfl)
  have hk0 := h0
  obtain ⟨L0, hW0⟩ := Me.open_regs h0 (fun x hx => by simpa using hW'.lt x (by simp [hx]))
  have hk1 := h1
  obtain ⟨a1, A1, c1, B1, e1, rfl, hW1⟩ := open_ask (hval 1 42 v1 rfl rfl) h1
  have hZ1 : AskLe a1 := by
    obtain ⟨fu, hf⟩ := hk1
    exact ask_sz hf (fun k hk => by simpa using List.all_eq_true.1 hsz _ (DataW.weights_mem_each (j := 1) rfl rfl k hk)) hW1
  have hk2 := h2
  obtain ⟨a2, A2, c2, B2, e2, rfl, hW2⟩ := open_ask (hval 2 42 v2 rfl rfl) h2
  have hZ2 : AskLe a2 := by
    obtain ⟨fu, hf⟩ := hk2
    exact ask_sz hf (fun k hk => by simpa using List.all_eq_true.1 hsz _ (DataW.weights_mem_each (j := 2) rfl rfl k hk)) hW2
  have hE := env_of_laid hL hsh
  clear hA0 hval0
  refine (scriptFits_any A0 len0 cap0 L0 a1 a2 A1 B1 A2 B2 c1 e1 c2 e2 W hW0.1 hW0.2.1 hW0.2.2 hW1 hZ1 hW2 hZ2 hE).mono fun e W' ⟨he, hb⟩ => ?_
  subst he
  exact ⟨_, rfl, _, _, _, [] ++ [], _, [], hW', (trodAll_cons_mk (shut_bool Tryz.underlying4 _) trodAll_mk0), (trodAll_cons_mk (Below.trod laidOut (by kernel_rfl) (of_decide_eq_true (by kernel_rfl)) hk0 hb (fun x hx => by simpa using hW'.lt x (by simp [hx]))) (trodAll_cons_mk (Below.trod laidOut (by kernel_rfl) (of_decide_eq_true (by kernel_rfl)) hk1 hb (fun x hx => by simpa using hW'.lt x (by simp [hx]))) (trodAll_cons_mk (Below.trod laidOut (by kernel_rfl) (of_decide_eq_true (by kernel_rfl)) hk2 hb (fun x hx => by simpa using hW'.lt x (by simp [hx]))) trodAll_mk0))), rfl, hb.frame _, fun h => by cases h⟩

theorem over : Rows.ScriptFitsSaid :=
  OpenClaim.holds_of_wide 12 Tryz.f12 rfl rfl rfl rfl rfl rfl rfl ⟨rfl, rfl, rfl, rfl, rfl⟩ rfl rfl rfl rfl rfl (by kernel_rfl) Tryz.func12 (by kernel_rfl)
    (of_decide_eq_true (by kernel_rfl)) (by unfold Func.isWrapper; first | (rw [if_pos (by decide +kernel)]; kernel_rfl) | (rw [if_neg (by decide +kernel)]; exact ⟨rfl, rfl⟩))
    (fun os started H enc _ => by rw [OpenClaim.pre_eq_preRow]; exact lifted os started H enc (fun _ _ _ => 0))
theorem card : Rows.ScriptFitsCardSaid :=
  Claim7.holds_tied_plain_at .later [] [.data, .data, .data, .data, .sentinel, .sentinel, .pinned] true (true, "87dc81d793cb0df3cc1761c0120f28aa4845b6b6dcdb7a714ba1e8e6507ed96c") true
    over (fun _ h => by cases h) (by kernel_rfl) (fun _ h => by cases h) scriptFits_row_tie rfl ⟨rfl, rfl⟩ (by kernel_rfl) rfl
    (fun f fn hf hfn => by
      obtain rfl : f = 12 := Option.some.inj ((show Tryz.prog.funcNamed "muffle/mufflelaw23.ScriptFits" = some 12 by kernel_rfl).symm.trans hf) |>.symm
      obtain rfl : fn = Tryz.f12 := (Option.some.inj (Tryz.func12.symm.trans hfn)).symm
      exact ⟨by kernel_rfl, fun j t ht => by
        rw [Tryz.params12] at ht
        have hm : t ∈ [79, 42, 42] := by simpa using Array.mem_of_getElem? ht
        have hall : ([79, 42, 42].all fun u => !Tryz.prog.wantsStandIn u) = true := by kernel_rfl
        exact (show Tryz.prog.wantsStandIn t = false by simpa using List.all_eq_true.1 hall t hm)⟩)
    (by kernel_rfl)
end Go.Proofs.YtkbmckmlnphpmaaGreatDoor.scriptFits
namespace Go.Proofs.YtkbmckmlnphpmaaGreatDoor
theorem scriptFits_proved : Rows.ScriptFitsCardSaid := scriptFits.card
end Go.Proofs.YtkbmckmlnphpmaaGreatDoor
