/- Askings and words at their bounds: plain; nothing. -/
import Derived.Test.YtkbmckmlnphpmaaGreatDoorCF
import Derived.Test.YtkbmckmlnphpmaaGreatDoorAJ
set_option linter.unusedSimpArgs false
set_option linter.unusedVariables false
namespace Go.Proofs.YtkbmckmlnphpmaaGreatDoor
open Go.RowKit Go.Lib Go.Shelf

def ask0 : Ask := ⟨1, [], [], 0, 0⟩
theorem k_in0 : lineT inW [] = inW := by
  apply ext_bytes
  rw [lineT_list]
  rfl
theorem k_src0 : askedT 1 0 0 = ⟨#[115, 111, 117, 114, 99, 101, 32, 48]⟩ := by
  apply ext_bytes
  show (lineT srcW [0]).data.toList = _
  rw [lineT_list]
  simp only [tailL, List.map_cons, List.map_nil, List.flatten_cons, List.flatten_nil]
  rw [show (0 : Int).toNat = 0 from rfl, dec1 (by omega)]
  rfl
def src12 : ByteArray := ⟨#[105, 110, 10, 115, 111, 117, 114, 99, 101, 32, 48, 10]⟩
theorem k_lines0 : linesA ask0 = [inW, ⟨#[115, 111, 117, 114, 99, 101, 32, 48]⟩] := by
  show lineT inW [] :: ([] ++ [askedT 1 0 0]) = _
  rw [k_in0, k_src0]
  rfl
theorem k_text0 : textL (linesA ask0) = src12.data.toList := by rw [k_lines0]; rfl
theorem may0 : mayA ask0 = true := by decide
theorem askW0 : AskW ask0 := ⟨(fun x hx => by cases hx), (fun x hx => by cases hx), by decide⟩
theorem rep_text (k : Nat) : scrT (List.replicate (k + 1) ask0) = scrT (List.replicate k ask0) ++ src12 := by
  apply ext_bytes
  unfold scrT
  rw [List.replicate_succ', linesAll_app, linesAll_one, textL_app, k_text0]
  simp
theorem rep_size : ∀ k, (scrT (List.replicate k ask0)).size = 12 * k
  | 0 => rfl
  | k + 1 => by
    rw [rep_text, ByteArray.size_append, rep_size k]
    have : src12.size = 12 := rfl
    omega
theorem rep_all (k : Nat) : ∀ a ∈ List.replicate k ask0, mayA a = true ∧ AskW a := fun a ha => by
  rw [List.eq_of_mem_replicate ha]
  exact ⟨may0, askW0⟩
theorem rep_allB (k : Nat) : (List.replicate k ask0).all mayA = true := List.all_eq_true.2 fun a ha => (rep_all k a ha).1
theorem text64 : textM (List.replicate 64 ask0) = (scrT (List.replicate 64 ask0), 0) := by
  unfold textM
  rw [if_pos (rep_allB 64), if_neg (by simp), if_neg (by rw [rep_size]; omega)]
theorem text65 : textM (List.replicate 65 ask0) = (⟨#[]⟩, 3) := by
  unfold textM
  rw [if_pos (rep_allB 65), if_pos (by simp)]
theorem parse65 : parseM (scrT (List.replicate 65 ask0)) = ([], 0, 3) := by
  obtain ⟨x', y', hr⟩ := run_all (List.replicate 65 ask0) [] [] [] (rep_all 65)
  rw [List.nil_append] at hr
  have e1 : (scrT (List.replicate 65 ask0)).data.toList = textL (linesAll (List.replicate 65 ask0)) := by
    show (textL (linesAll _)).toArray.toList = _
    rw [List.toList_toArray]
  have h1 : runL zeroR (linesB (scrT (List.replicate 65 ask0)).data.toList) = some ⟨List.replicate 65 ask0, x', y', false⟩ := by rw [e1, linesB_text (linesAll_no10 _)]; exact hr
  have h2 : (linesF (scrT (List.replicate 65 ask0)).data.toList).2 = [] := by rw [e1, lines_text _ (linesAll_no10 _)]
  rw [parse_whole (by rw [rep_size]; omega) h1 h2]
  dsimp only
  rw [if_neg (by simp), if_pos (by simp)]
/-! words -/
def one2 : ByteArray := ⟨#[32, 49]⟩
theorem ones (p : ByteArray) (k : Nat) : lineT p (List.replicate (k + 1) 1) = lineT p (List.replicate k 1) ++ one2 := by
  apply ext_bytes
  rw [ByteArray.data_append, Array.toList_append, lineT_list, lineT_list, List.replicate_succ', tailL_snoc]
  rw [show (1 : Int).toNat = 1 from rfl, dec1 (by omega)]
  simp [one2]
theorem ones_size (p : ByteArray) : ∀ k, (lineT p (List.replicate k 1)).size = p.size + 2 * k
  | 0 => by rw [← size_list, lineT_list]; simp [tailL, size_list]
  | k + 1 => by
    rw [ones, ByteArray.size_append, ones_size p k]
    have : one2.size = 2 := rfl
    omega
theorem ones_rng (k : Nat) : ∀ x ∈ List.replicate k (1 : Int), 0 ≤ x ∧ x ≤ 18446744073709551615 := fun x hx => by
  rw [List.eq_of_mem_replicate hx]; omega
theorem ones0 (p : ByteArray) : lineT p (List.replicate 0 1) = p := by
  apply ext_bytes
  rw [lineT_list]
  simp [tailL]
def tail0 : ByteArray := ⟨#[10, 115, 111, 117, 114, 99, 101, 32, 48, 10]⟩
def in1 : ByteArray := ⟨#[105, 110, 10]⟩
theorem join2 (x : ByteArray) : (x ++ tail0 : ByteArray).data.toList = textL [x, ⟨#[115, 111, 117, 114, 99, 101, 32, 48]⟩] := by simp [textL, nlL, tail0]
theorem join3 (x : ByteArray) : (in1 ++ x ++ tail0 : ByteArray).data.toList = textL [inW, x, ⟨#[115, 111, 117, 114, 99, 101, 32, 48]⟩] := by simp [textL, nlL, tail0, in1, inW]
theorem wrong65 : parseM (lineT inW (List.replicate 65 1) ++ tail0) = ([], 0, 15) := by
  have e : (lineT inW (List.replicate 65 1) ++ tail0 : ByteArray).data.toList = textL [lineT inW (List.replicate 65 1), ⟨#[115, 111, 117, 114, 99, 101, 32, 48]⟩] := by
    exact join2 _
  have hl : linesB (lineT inW (List.replicate 65 1) ++ tail0 : ByteArray).data.toList = [lineT inW (List.replicate 65 1), ⟨#[115, 111, 117, 114, 99, 101, 32, 48]⟩] := by
    rw [e]
    refine linesB_text fun s hs => ?_
    rcases List.mem_cons.1 hs with rfl | hs
    · exact line_no10 inW _ (by decide)
    · rw [List.mem_singleton] at hs
      subst hs
      decide
  refine parse_bad (i := 0) (r' := zeroR) (s := lineT inW (List.replicate 65 1)) ?_ rfl ?_ ?_
  · have h1 := ones_size inW 65
    have h2 : inW.size = 2 := rfl
    have h3 : tail0.size = 10 := rfl
    rw [ByteArray.size_append]
    omega
  · rw [hl]; rfl
  · unfold takeM zeroR
    dsimp only
    rw [unw_line inW _ (by decide) (ones_rng 65)]
    dsimp only
    rw [if_neg (fun h => absurd h.2 (by rw [List.length_replicate]; omega))]
theorem wrong513 : parseM (in1 ++ lineT withW (List.replicate 513 1) ++ tail0) = ([], 1, 15) := by
  have e : (in1 ++ lineT withW (List.replicate 513 1) ++ tail0 : ByteArray).data.toList = textL [inW, lineT withW (List.replicate 513 1), ⟨#[115, 111, 117, 114, 99, 101, 32, 48]⟩] := by
    exact join3 _
  have hl : linesB (in1 ++ lineT withW (List.replicate 513 1) ++ tail0 : ByteArray).data.toList = [inW, lineT withW (List.replicate 513 1), ⟨#[115, 111, 117, 114, 99, 101, 32, 48]⟩] := by
    rw [e]
    refine linesB_text fun s hs => ?_
    rcases List.mem_cons.1 hs with rfl | hs
    · decide
    · rcases List.mem_cons.1 hs with rfl | hs
      · exact line_no10 withW _ (by decide)
      · rw [List.mem_singleton] at hs
        subst hs
        decide
  have h0 : takeM zeroR inW = some ⟨[], [], [], true⟩ := by
    have := take_in0 [] [] [] [] (by simp) (fun x hx => by cases hx)
    rw [k_in0] at this
    exact this
  refine parse_bad (i := 1) (r' := ⟨[], [], [], true⟩) (s := lineT withW (List.replicate 513 1)) ?_ ?_ ?_ ?_
  · have h1 := ones_size withW 513
    have h2 : withW.size = 4 := rfl
    have h3 : tail0.size = 10 := rfl
    have h4 : in1.size = 3 := rfl
    rw [ByteArray.size_append, ByteArray.size_append]
    omega
  · rw [hl]
    show runL zeroR [inW] = _
    rw [runL_cons, h0]
    rfl
  · rw [hl]; rfl
  · unfold takeM
    dsimp only
    rw [unw_line withW _ (by decide) (ones_rng 513)]
    dsimp only
    rw [if_pos rfl, if_neg (fun h => absurd h.1 (by rw [List.length_replicate]; omega))]
/-! closed texts -/
theorem take_in : takeM zeroR inW = some ⟨[], [], [], true⟩ := by
  have := take_in0 [] [] [] [] (by simp) (fun x hx => by cases hx)
  rw [k_in0] at this
  exact this
theorem two_bad (s : ByteArray) (t : ByteArray) (hs : t.size ≤ 1048576) (hl : linesB t.data.toList = [inW, s]) (hu : ∀ p l, unwM s = some (p, l) → p ≠ withW) (hn : unlineM s = none) : parseM t = ([], 1, 15) := by
  refine parse_bad (i := 1) (r' := ⟨[], [], [], true⟩) (s := s) hs ?_ (by rw [hl]; rfl) ?_
  · rw [hl]
    show runL zeroR [inW] = _
    rw [runL_cons, take_in]
    rfl
  · unfold takeM
    dsimp only
    cases h : unwM s with
    | none => rfl
    | some pl =>
      obtain ⟨p, l⟩ := pl
      dsimp only
      rw [if_neg (hu p l h), hn]
def c1 : ByteArray := ⟨#[105, 110, 10, 115, 111, 117, 114, 99, 101, 32, 49, 48, 48, 48, 48, 48, 49, 10]⟩
def c2 : ByteArray := ⟨#[105, 110, 10, 109, 97, 99, 104, 105, 110, 101, 32, 49, 10]⟩
def c4 : ByteArray := ⟨#[115, 111, 117, 114, 99, 101, 32, 49, 10]⟩
def c5 : ByteArray := ⟨#[105, 110, 10, 115, 111, 117, 114, 99, 101, 32, 49]⟩
def c6 : ByteArray := ⟨#[105, 110, 10, 108, 101, 97, 107, 32, 49, 56, 52, 52, 54, 55, 52, 52, 48, 55, 51, 55, 48, 57, 53, 53, 49, 54, 49, 54, 32, 49, 10]⟩
theorem u1 : unwM ⟨#[115, 111, 117, 114, 99, 101, 32, 49, 48, 48, 48, 48, 48, 49]⟩ = some (srcW, [1000001]) := unwM_of (ps := [⟨#[49, 48, 48, 48, 48, 48, 49]⟩]) (by decide) (by decide) (numsM_one (u := 1000001) (nI (by decide) (by decide) (by decide)))
theorem u2 : unwM ⟨#[109, 97, 99, 104, 105, 110, 101, 32, 49]⟩ = some (macW, [1]) := unwM_of (ps := [⟨#[49]⟩]) (by decide) (by decide) (numsM_one (u := 1) (nI (by decide) (by decide) (by decide)))
theorem u4 : unwM ⟨#[115, 111, 117, 114, 99, 101, 32, 49]⟩ = some (srcW, [1]) := unwM_of (ps := [⟨#[49]⟩]) (by decide) (by decide) (numsM_one (u := 1) (nI (by decide) (by decide) (by decide)))
theorem u6 : unwM ⟨#[108, 101, 97, 107, 32, 49, 56, 52, 52, 54, 55, 52, 52, 48, 55, 51, 55, 48, 57, 53, 53, 49, 54, 49, 54, 32, 49]⟩ = none := by
  refine unwM_bad (p := leakW) (ps := [⟨#[49, 56, 52, 52, 54, 55, 52, 52, 48, 55, 51, 55, 48, 57, 53, 53, 49, 54, 49, 54]⟩, ⟨#[49]⟩]) (by decide) ?_
  exact numsM_none _ _ (List.mem_cons_self ..) (numI_over (by decide))
theorem pw1 : parseM c1 = ([], 1, 15) := by
  refine two_bad ⟨#[115, 111, 117, 114, 99, 101, 32, 49, 48, 48, 48, 48, 48, 49]⟩ c1 (by decide) (by decide) (fun p l h => ?_) ?_
  · rw [u1] at h; cases h; decide
  · rw [unlineM_eq]; unfold refUnlM; rw [u1]; rfl
theorem pw2 : parseM c2 = ([], 1, 15) := by
  refine two_bad ⟨#[109, 97, 99, 104, 105, 110, 101, 32, 49]⟩ c2 (by decide) (by decide) (fun p l h => ?_) ?_
  · rw [u2] at h; cases h; decide
  · rw [unlineM_eq]; unfold refUnlM; rw [u2]; decide
theorem pw3 : parseM in1 = ([], 1, 15) := by
  have hl : linesB in1.data.toList = [inW] := by decide
  have h1 : runL zeroR (linesB in1.data.toList) = some ⟨[], [], [], true⟩ := by
    rw [hl, runL_cons, take_in]
    rfl
  rw [parse_whole (by decide) h1 (by decide), hl]
  rfl
theorem pw4 : parseM c4 = ([], 0, 15) := by
  refine parse_bad (i := 0) (r' := zeroR) (s := ⟨#[115, 111, 117, 114, 99, 101, 32, 49]⟩) (by decide) rfl (by decide) ?_
  unfold takeM zeroR
  dsimp only
  rw [u4]
  dsimp only
  rw [if_neg (by decide)]
theorem pw5 : parseM c5 = ([], 1, 15) := by
  have hl : linesB c5.data.toList = [inW] := by decide
  have h1 : runL zeroR (linesB c5.data.toList) = some ⟨[], [], [], true⟩ := by
    rw [hl, runL_cons, take_in]
    rfl
  rw [parse_rest (by decide) h1 (by decide), hl]
  rfl
theorem pw6 : parseM c6 = ([], 1, 15) := by
  refine two_bad ⟨#[108, 101, 97, 107, 32, 49, 56, 52, 52, 54, 55, 52, 52, 48, 55, 51, 55, 48, 57, 53, 53, 49, 54, 49, 54, 32, 49]⟩ c6 (by decide) (by decide) (fun p l h => ?_) ?_
  · rw [u6] at h; cases h
  · unfold unlineM; rw [u6]
theorem parse0 : parseM ⟨#[]⟩ = ([], 0, 0) := rfl
theorem parseBig {t : ByteArray} (h : 1048576 < t.size) : parseM t = ([], 0, 3) := by unfold parseM; rw [if_pos h]
end Go.Proofs.YtkbmckmlnphpmaaGreatDoor
