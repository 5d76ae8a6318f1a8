/- The chapter's rows: plain. -/
import Derived.Test.YtkbmckmlnphpmaaGreatDoorAG
import Derived.Test.YtkbmckmlnphpmaaGreatDoorQ
set_option linter.unusedSimpArgs false
set_option linter.unusedVariables false
namespace Go.Proofs.YtkbmckmlnphpmaaGreatDoor
open Go.RowKit Go.Lib Go.Shelf

theorem dec1 {i : Nat} (h : i < 10) : Lib.decDigits i = [UInt8.ofNat (48 + i)] := decDigits_one h
theorem nI {s : ByteArray} {u : Nat} (h : canonB s.data.toList = true) (h2 : valF 0 s.data.toList = u) (h3 : u ≤ 18446744073709551615) : numI s = some u := by
  subst h2
  exact numI_some h h3
theorem unwM_of {s p : ByteArray} {ps : List ByteArray} {l : List Int} (h1 : partsB s = p :: ps) (h2 : wordB p = true) (h3 : numsM ps = some l) : unwM s = some (p, l) := by
  unfold unwM
  rw [h1]
  show (if wordB p = true then _ else _) = _
  rw [if_pos h2]
  show (numsM ps).map _ = _
  rw [h3]
  rfl
theorem unwM_bad {s p : ByteArray} {ps : List ByteArray} (h1 : partsB s = p :: ps) (h3 : numsM ps = none) : unwM s = none := by
  unfold unwM
  rw [h1]
  show (if wordB p = true then (numsM ps).map _ else _) = _
  rw [h3]
  split <;> rfl
theorem numsM_one {x : ByteArray} {u : Nat} (h : numI x = some u) : numsM [x] = some [(u : Int)] := by
  unfold numsM
  rw [h]
  rfl
-- "in 1 2"
theorem k_words : (lineT inW [1, 2]).data.toList = [105, 110, 32, 49, 32, 50] := by
  rw [lineT_list]
  simp only [tailL, List.map_cons, List.map_nil, List.flatten_cons, List.flatten_nil]
  rw [show (1 : Int).toNat = 1 from rfl, show (2 : Int).toNat = 2 from rfl, dec1 (by omega), dec1 (by omega)]
  rfl
theorem k_with : unwM withW = some (withW, []) := unwM_of (ps := []) (by decide) (by decide) rfl
theorem k_in01 : unwM ⟨#[105, 110, 32, 48, 49]⟩ = none := by
  refine unwM_bad (p := inW) (ps := [⟨#[48, 49]⟩]) (by decide) ?_
  exact numsM_none _ _ (List.mem_singleton.2 rfl) (numI_zero (by decide))
theorem k_seen : (seenText [⟨true, true, 0⟩, ⟨false, false, 8⟩]).data.toList = [106, 49, 32, 56] := by
  show (Lib.join _ _) = _
  simp only [List.map_cons, List.map_nil]
  rw [Lib.join_cons, Lib.joinTail]
  show [106, 49] ++ (([[32] ++ Lib.decDigits 8] : List (List UInt8))).flatten = _
  rw [dec1 (by omega)]
  rfl
theorem k_unseen : unseenM ⟨#[106, 49, 32, 56, 32, 106, 50]⟩ = none := by
  unfold unseenM
  rw [if_neg (by decide)]
  refine unsL_none _ ⟨#[106, 50]⟩ (List.mem_of_getElem? (i := 2) (by decide)) ?_
  unfold unsT
  rw [if_neg (by decide), if_neg (by decide), numI_zero (by decide)]
  rfl
theorem k_in1 : unwM ⟨#[105, 110, 32, 49]⟩ = some (inW, [1]) := unwM_of (ps := [⟨#[49]⟩]) (by decide) (by decide) (numsM_one (u := 1) (nI (by decide) (by decide) (by decide)))
theorem k_in2 : unwM ⟨#[105, 110, 32, 50]⟩ = some (inW, [2]) := unwM_of (ps := [⟨#[50]⟩]) (by decide) (by decide) (numsM_one (u := 2) (nI (by decide) (by decide) (by decide)))
def src10 : ByteArray := ⟨#[115, 111, 117, 114, 99, 101, 32, 49, 48]⟩
theorem k_src10 : unwM src10 = some (srcW, [10]) := unwM_of (ps := [⟨#[49, 48]⟩]) (by decide) (by decide) (numsM_one (u := 10) (nI (by decide) (by decide) (by decide)))
theorem k_asked : askedT 1 0 10 = src10 := by
  apply ext_bytes
  show (lineT srcW [10]).data.toList = _
  rw [lineT_list]
  simp only [tailL, List.map_cons, List.map_nil, List.flatten_cons, List.flatten_nil]
  rw [show (10 : Int).toNat = 10 from rfl, decDigits_two (by omega) (by omega)]
  rfl
theorem k_unline : unlineM src10 = some (1, 0, 10) := by
  unfold unlineM
  rw [k_src10]
  dsimp only
  rw [show kindM srcW = some 1 from by decide]
  dsimp only
  rw [show readV 1 [10] = (0, 10) from by decide]
  dsimp only
  rw [if_pos ⟨by decide, k_asked⟩]
theorem k_unline2 : unlineM ⟨#[105, 110, 32, 50]⟩ = none := by
  unfold unlineM
  rw [k_in2]
  dsimp only
  rw [show kindM inW = none from by decide]
theorem k_take1 : takeM zeroR ⟨#[105, 110, 32, 49]⟩ = some ⟨[], [1], [], true⟩ := by
  unfold takeM zeroR
  dsimp only
  rw [k_in1]
  dsimp only
  rw [if_pos ⟨rfl, by decide⟩]
theorem k_take2 : takeM ⟨[], [1], [], true⟩ src10 = some ⟨[⟨1, [1], [], 0, 10⟩], [1], [], false⟩ := by
  unfold takeM
  dsimp only
  rw [k_src10]
  dsimp only
  rw [if_neg (by decide), k_unline]
  rfl
theorem k_take3 : takeM ⟨[], [1], [], true⟩ ⟨#[105, 110, 32, 50]⟩ = none := by
  unfold takeM
  dsimp only
  rw [k_in2]
  dsimp only
  rw [if_neg (by decide), k_unline2]
theorem runM_step {f : Nat} {rest a b : List UInt8} {r r' : RSt} {n : Nat} (h0 : rest ≠ []) (hc : cutM 10 rest = some (a, b)) (ht : takeM r ⟨a.toArray⟩ = some r') : runM (f + 1) rest r n = runM f b r' (n + 1) := by
  conv => lhs; unfold runM
  rw [if_neg h0, hc]
  dsimp only
  rw [ht]
theorem runM_bad {f : Nat} {rest a b : List UInt8} {r : RSt} {n : Nat} (h0 : rest ≠ []) (hc : cutM 10 rest = some (a, b)) (ht : takeM r ⟨a.toArray⟩ = none) : runM (f + 1) rest r n = (n, none) := by
  conv => lhs; unfold runM
  rw [if_neg h0, hc]
  dsimp only
  rw [ht]
theorem runM_end {f : Nat} {r : RSt} {n : Nat} : runM (f + 1) [] r n = (n, some r) := by
  unfold runM
  rw [if_pos rfl]
def textA : ByteArray := ⟨#[105, 110, 32, 49, 10, 115, 111, 117, 114, 99, 101, 32, 49, 48, 10]⟩
def textB : ByteArray := ⟨#[105, 110, 32, 49, 10, 105, 110, 32, 50, 10]⟩
theorem k_parseA : parseM textA = ([⟨1, [1], [], 0, 10⟩], 0, 0) := by
  unfold parseM
  rw [if_neg (by decide)]
  show finM (runM (14 + 1 + 1) [105, 110, 32, 49, 10, 115, 111, 117, 114, 99, 101, 32, 49, 48, 10] zeroR 0) = _
  rw [runM_step (a := [105, 110, 32, 49]) (b := [115, 111, 117, 114, 99, 101, 32, 49, 48, 10]) (by decide) (by decide) k_take1]
  show finM (runM (14 + 1) [115, 111, 117, 114, 99, 101, 32, 49, 48, 10] _ 1) = _
  rw [runM_step (a := [115, 111, 117, 114, 99, 101, 32, 49, 48]) (b := []) (by decide) (by decide) k_take2]
  show finM (runM (13 + 1) [] _ 2) = _
  rw [runM_end]
  rfl
theorem k_parseB : parseM textB = ([], 1, 15) := by
  unfold parseM
  rw [if_neg (by decide)]
  show finM (runM (9 + 1 + 1) [105, 110, 32, 49, 10, 105, 110, 32, 50, 10] zeroR 0) = _
  rw [runM_step (a := [105, 110, 32, 49]) (b := [105, 110, 32, 50, 10]) (by decide) (by decide) k_take1]
  show finM (runM (9 + 1) [105, 110, 32, 50, 10] _ 1) = _
  rw [runM_bad (a := [105, 110, 32, 50]) (b := []) (by decide) (by decide) k_take3]
  rfl
end Go.Proofs.YtkbmckmlnphpmaaGreatDoor
