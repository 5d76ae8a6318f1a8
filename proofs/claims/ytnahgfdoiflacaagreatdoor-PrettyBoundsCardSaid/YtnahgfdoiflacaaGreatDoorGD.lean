/- PrettyBounds: a program whose text is too long. -/
import Derived.Test.YtnahgfdoiflacaaGreatDoorGC
import Derived.Test.YtnahgfdoiflacaaGreatDoorEC
set_option linter.unusedSimpArgs false
set_option linter.unusedVariables false
namespace Go.Proofs.YtnahgfdoiflacaaGreatDoor
open Go.RowKit Go.Lib Go.Shelf

def cM : Ex := .node 1 1000000 ⟨#[]⟩ []
def lgS : St := .node 1 xT [] cM zE [] 0 0 [] []
def lgF (n : Nat) : Fn := ⟨fT, [], [], [], List.replicate n lgS⟩
def lgP (n : Nat) : Pg := ⟨[], [lgF n]⟩
theorem lg_may : mayS lgS = true ∧ depS lgS ≤ 64 ∧ cntS lgS = 4 ∧ (textL (linesS 1 lgS)).length = 14 := by decide +kernel
theorem rep_may : ∀ n, maySs (List.replicate n lgS) = true
  | 0 => by rw [List.replicate_zero, maySs]
  | n + 1 => by rw [List.replicate_succ, maySs, rep_may n, lg_may.1]; rfl
theorem rep_dep : ∀ n, depSs (List.replicate n lgS) ≤ 64
  | 0 => by rw [List.replicate_zero, depSs]; omega
  | n + 1 => by rw [List.replicate_succ, depSs]; have := rep_dep n; have := lg_may.2.1; omega
theorem rep_cnt : ∀ n, cntSs (List.replicate n lgS) = 4 * n
  | 0 => by rw [List.replicate_zero, cntSs]
  | n + 1 => by rw [List.replicate_succ, cntSs, rep_cnt n, lg_may.2.2.1]; omega
theorem rep_len : ∀ n, (textL (linesL 1 (List.replicate n lgS))).length = 14 * n
  | 0 => by rw [List.replicate_zero, linesL_nil]; rfl
  | n + 1 => by rw [List.replicate_succ, linesL, textL_app, List.length_append, rep_len n, lg_may.2.2.2]; omega
theorem lg_mayP (n : Nat) : mayPg (lgP n) = true := by
  have h1 := rep_may n
  have h2 := rep_dep n
  have h3 := name_f
  unfold mayPg lgP
  simp only [List.all_nil, Bool.true_and, List.all_cons, Bool.and_true]
  unfold mayFn lgF mayT
  simp [h1, h2, h3]
theorem lg_size (n : Nat) : 14 * n ≤ (textP (lgP n)).size := by
  have e : (textP (lgP n)).size = (textL (linesP (lgP n))).length := by
    show (textL (linesP (lgP n))).toArray.size = _
    simp
  have h : linesP (lgP n) = [(0, fnB (lgF n))] ++ (linesL 1 (List.replicate n lgS) ++ [(0, endB)]) := by
    simp [linesP, lgP, linesFs, linesF, lgF]
  rw [e, h, textL_app, textL_app, List.length_append, List.length_append, rep_len]
  omega
theorem lg_text : (textM (lgP 7000)).2 = 3 := by
  have h1 := lg_mayP 7000
  have h2 := lg_size 7000
  unfold textM shortN
  rw [if_pos h1, if_neg (by omega)]
theorem lg_cntN (n : Nat) : cntP (lgP n) ≤ 4 * n + 10 := by
  have h := rep_cnt n
  have e : fT.size = 1 := rfl
  unfold cntP lgP lgF
  simp only [cntFs, cntF, cntR, cntV, cntN, List.length_nil, List.length_cons, h, e]
  omega
theorem lg_cnt : cntP (lgP 7000) ≤ 30000 := by have := lg_cntN 7000; omega
/-- a parameter of the stack; a secret word that is no parameter -/
def parP : Pg := ⟨[], [⟨fT, [⟨xT, 3, 0, false⟩], [], [], []⟩]⟩
def worP : Pg := ⟨[], [⟨fT, [], [⟨xT, 1, 0, true⟩], [], []⟩]⟩
theorem par_may : mayPg parP = false ∧ mayPg worP = false ∧ mayPg ⟨[], []⟩ = true := by decide +kernel
/-- one statement that lies -/
theorem sts_one {w : World} {x : St} {r : StC} {b : Nat} (hb : w.heap[b]? = some (.cells (cellsT r).toArray 50 (0, 0))) (h : SNow w x r) (h1 : StsAt w x.bd r.bd.a) (h2 : StsAt w x.el r.el.a) : StsAt w [x] (some ⟨b, 0, none⟩) := by
  have hs : ∀ {α : Type} {i : Nat} {y z : α}, [z][i]? = some y → i = 0 ∧ y = z := fun {α i y z} e => by
    cases i with
    | zero => exact ⟨rfl, (Option.some.inj e).symm⟩
    | succ i => simp at e
  refine .mk [r] ⟨b, 0, fun _ => rfl, fun i y hy j hj => ?_⟩ rfl (fun i y q hy hq => ?_) (fun i y q hy hq => ?_) (fun i y q hy hq => ?_)
  · obtain ⟨rfl, rfl⟩ := hs hy
    rw [blk_cell hb]
    simp
  · obtain ⟨_, rfl⟩ := hs hy
    obtain ⟨_, rfl⟩ := hs hq
    exact h
  · obtain ⟨_, rfl⟩ := hs hy
    obtain ⟨_, rfl⟩ := hs hq
    exact h1
  · obtain ⟨_, rfl⟩ := hs hy
    obtain ⟨_, rfl⟩ := hs hq
    exact h2
theorem sts_none (w : World) : StsAt w [] none := .mk [] ⟨0, 0, fun h => by simp at h, fun i y hy => by simp at hy⟩ rfl (fun i y q hy => by simp at hy) (fun i y q hy => by simp at hy) (fun i y q hy => by simp at hy)
end Go.Proofs.YtnahgfdoiflacaaGreatDoor
