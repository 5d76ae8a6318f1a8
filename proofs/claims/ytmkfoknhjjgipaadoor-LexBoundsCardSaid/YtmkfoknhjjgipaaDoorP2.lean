/- From the rows' condition to what the walks ask of the library's variables. -/
import Derived.Test.YtmkfoknhjjgipaaDoorP
set_option linter.unusedSimpArgs false
set_option linter.unusedVariables false
namespace Go.Proofs.YtmkfoknhjjgipaaDoor
open Go.RowKit Go.Lib Go.Shelf

theorem trod_one_iface {H : Type} {enc : TypeId × Value → H} {P : Program} {w : World} {base : Nat} {sp : Nat → Bool} {held : Bool} {fuel : Nat} {t : TypeId} {ms : Array (String × TypeId)} {cs : List Value} {x : DataW H × List MemPlace}
    (ht : P.underlying t = some (.interface ms)) (h : DataW.trod enc P w base sp held fuel t cs = some x) : ∃ c, cs = [c] ∧ (c = .nilIface ∨ ∃ u v, c = .iface u v) := by
  cases fuel with
  | zero => simp [DataW.trod] at h
  | succ fuel =>
    simp only [DataW.trod, ht] at h
    match cs, h with
    | [], h => simp at h
    | [c], h =>
      refine ⟨c, rfl, ?_⟩
      cases c <;> simp at h ⊢
    | _ :: _ :: _, h => simp at h
theorem iface_of_var {W : World} {n : String} {g : Nat} {ps : List MemPlace} {d : DataW Unit} {r : List (String × DataW Unit)} (hg : Tryd.prog.globalNamed n = some g) (ht : (Tryd.prog.globals[g]?).map (·.type) = some 48) (h : DataW.LaidVars Tryd.prog W ((n, d) :: r) ps) :
    ∃ ev, W.cell? ⟨g, 0, none⟩ = some ev ∧ (ev = .nilIface ∨ ∃ te pe, ev = .iface te pe) := by
  obtain ⟨g', t', cs, fuel, p, q, hg', ht', hv, hd, _, _⟩ := h
  obtain rfl := Option.some.inj (hg.symm.trans hg')
  obtain rfl := Option.some.inj (ht.symm.trans ht')
  obtain ⟨c, hc, hcase⟩ := trod_one_iface Tryd.underlying48 hd
  have h0 := World.var?_cell hg hv 0
  have e : cs[0]? = some c := by
    have : cs.toList[0]? = some c := by rw [hc]; rfl
    simpa using this
  exact ⟨c, h0.trans e, hcase⟩
theorem tab_of_var {W : World} {ps : List MemPlace} {r : List (String × DataW Unit)} (h : DataW.LaidVars Tryd.prog W (("internal/strconv.uint64pow10", Rows.laid_internal_strconv_uint64pow10) :: r) ps) : Tab W := by
  obtain ⟨g', t', cs, fuel, p, q, hg', ht', hv, hd, _, _⟩ := h
  have hty : (Tryd.prog.globals[4]?).map (·.type) = some 133 := by kernel_rfl
  obtain rfl := Option.some.inj (gPow.symm.trans hg')
  obtain rfl := Option.some.inj (hty.symm.trans ht')
  have e : (Rows.laid_internal_strconv_uint64pow10 : DataW Unit) = tabData .u64 Lib.pow10Tab := by rfl
  rw [e] at hd
  have h2 := cells_of_tab (e := 33) (n := 20) Tryd.underlying133 Tryd.underlying33 (by kernel_rfl) (by kernel_rfl) hd
  unfold Tab TabIs
  rw [hv, ← h2]
theorem sp_of_var {W : World} {ps : List MemPlace} {r : List (String × DataW Unit)} (h : DataW.LaidVars Tryd.prog W (("strings.asciiSpace", Rows.laid_strings_asciiSpace) :: r) ps) : Lib.TabIs Tryd.prog W "strings.asciiSpace" .u8 Lib.asciiSpaceTab := by
  obtain ⟨g', t', cs, fuel, p, q, hg', ht', hv, hd, _, _⟩ := h
  have hty : (Tryd.prog.globals[1]?).map (·.type) = some 124 := by kernel_rfl
  obtain rfl := Option.some.inj (gSp.symm.trans hg')
  obtain rfl := Option.some.inj (hty.symm.trans ht')
  have e : (Rows.laid_strings_asciiSpace : DataW Unit) = tabData .u8 Lib.asciiSpaceTab := by kernel_rfl
  rw [e] at hd
  have h2 := cells_of_tab (e := 5) (n := 256) Tryd.underlying124 Tryd.underlying5 (by kernel_rfl) (by kernel_rfl) hd
  unfold TabIs
  rw [hv, ← h2]
theorem oneRow : ((List.range 192).filter fun t => Tryd.prog.rowNamed t [101, 114, 114, 111, 114]) = [48] := by kernel_rfl
theorem typesN : Tryd.prog.types.size = 192 := by kernel_rfl
theorem plainL : (laidL.filter fun x => x.2.handleName?.isNone) = [("math/bits.deBruijn32tab", Rows.laid_math_bits_deBruijn32tab), ("math/bits.deBruijn64tab", Rows.laid_math_bits_deBruijn64tab), ("internal/strconv.uint64pow10", Rows.laid_internal_strconv_uint64pow10), ("strconv.ErrRange", Rows.laid_strconv_ErrRange), ("strconv.ErrSyntax", Rows.laid_strconv_ErrSyntax), ("unicode.White_Space", Rows.laid_unicode_White_Space), ("strings.asciiSpace", Rows.laid_strings_asciiSpace)] := by rfl
theorem handleL : ("errors.errorType", (Rows.laid_errors_errorType : DataW Unit)) ∈ laidL.filter fun x => x.2.handleName?.isSome := by
  have e : (laidL.filter fun x => x.2.handleName?.isSome) = [("errors.errorType", Rows.laid_errors_errorType)] := by rfl
  rw [e]
  exact List.mem_singleton.2 rfl
theorem ety_of_laid {W : World} (h : handlesMet Tryd.prog (laidL.filter fun x => x.2.handleName?.isSome) W) : W.cell? ⟨0, 0, none⟩ = some (.iface 89 (.agg #[.pointer (some ⟨10, 48, none⟩)])) := by
  obtain ⟨name, u, ty, e1, e2, e3, e4, e5⟩ := h _ handleL
  have en : name = [101, 114, 114, 111, 114] := (Option.some.inj e1).symm
  subst en
  obtain rfl := Option.some.inj (rtNo.symm.trans e2)
  have hm : ty ∈ (List.range 192).filter fun t => Tryd.prog.rowNamed t [101, 114, 114, 111, 114] := List.mem_filter.2 ⟨List.mem_range.2 (by rw [← typesN]; exact e3), e4⟩
  rw [oneRow] at hm
  obtain rfl := List.mem_singleton.1 hm
  have hh : typeHandle Tryd.prog 48 = .pointer (some ⟨10, 48, none⟩) := by kernel_rfl
  rw [hh] at e5
  simpa using World.var?_cell gEt e5 0
theorem env_of_laid {W : World} (h : laidMetH Tryd.prog laidL W) : Env W := by
  obtain ⟨ha, hb⟩ := laidMetH_iff.1 h
  rw [plainL] at ha
  obtain ⟨ps, h0, _⟩ := ha
  obtain ⟨_, _, _, _, _, q1, _, _, _, _, h1, _⟩ := h0
  obtain ⟨_, _, _, _, _, q2, _, _, _, _, h2, _⟩ := h1
  have hT := tab_of_var h2
  obtain ⟨_, _, _, _, _, q3, _, _, _, _, h3, _⟩ := h2
  have hR := iface_of_var gRng (by kernel_rfl) h3
  obtain ⟨_, _, _, _, _, q4, _, _, _, _, h4, _⟩ := h3
  have hS := iface_of_var gSyn (by kernel_rfl) h4
  obtain ⟨_, _, _, _, _, q5, _, _, _, _, h5, _⟩ := h4
  obtain ⟨_, _, _, _, _, q6, _, _, _, _, h6, _⟩ := h5
  exact ⟨hT, hS, hR, sp_of_var h6, ety_of_laid hb⟩
end Go.Proofs.YtmkfoknhjjgipaaDoor
