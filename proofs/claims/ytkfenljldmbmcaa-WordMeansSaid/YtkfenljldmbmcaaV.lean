/- The table of the operations of the language, as the call leaves it. -/
import Derived.Test.YtkfenljldmbmcaaU
set_option linter.unusedSimpArgs false
set_option linter.unusedVariables false
namespace Go.Proofs.Ytkfenljldmbmcaa
open Go.RowKit Go.MapKept

/-- how the table is left -/
def EvalsPost (w : World) (e : Ending) (w' : World) : Prop :=
  ∃ b, e = .returned (.map (some b)) ∧ MapI w w' b (fun _ => true) ∧ Below w.heap.size w w'

theorem MapI.of_all {w0 w : World} {b : Nat} {L : Nat → Bool} (h : MapI w0 w b L) (hL : ∀ i, i < 51 → L i = true) : MapI w0 w b (fun _ => true) := by
  obtain ⟨hb, es, clock, he, hm⟩ := h
  refine ⟨hb, es, clock, he, ?_⟩
  intro m m4 m21
  have := hm m m4 m21
  rw [hL _ (by have := insIdx_cases m4 m21; omega)] at this
  exact this

def acycB (ops : Array Oper) : Bool := (List.range ops.size).all fun i => match ops[i]? with | some o => o.after.all (fun e => decide (e.on < i)) | none => true
theorem acyc_of {ops : Array Oper} (h : acycB ops = true) (i : Nat) (o : Oper) (ho : ops[i]? = some o) (e : Edge) (he : e ∈ o.after) : e.on < i := by
  unfold acycB at h
  rw [List.all_eq_true] at h
  have h1 := h i (List.mem_range.2 (Array.getElem?_eq_some_iff.1 ho).1)
  rw [ho] at h1
  simp only [Array.all_eq_true] at h1
  obtain ⟨j, hj, rfl⟩ := Array.mem_iff_getElem.1 he
  simpa using h1 j hj

set_option maxRecDepth 100000 in
set_option maxHeartbeats 4000000 in
theorem evals_any (w : World) : Calls Try.prog 37 #[] w (EvalsPost w) := by
  have hmm := @run_makeMap Try.prog
  go_enter Try.func37, Try.ntmps37
  go_wp2_with fail
  refine wp_region_inv (by kernel_rfl) (EI w w.heap.size) (acyc_of (by kernel_rfl)) ?_ ?_ ?_
  · constructor
    · rfl
    · rfl
    · rfl
    · rfl
    · intro _ _ _ h; cases h
    · intro _ _ _ h; cases h
    · intro _ _ _ h; cases h
    · intro h; cases h
    · intro _ _ _ _; rfl
    · intro h; cases h
    · intro h; cases h
    · exact ⟨83, (heap_alloc w _).1⟩
    · exact ((Below.refl _ _).alloc (Nat.le_refl _) _).drew
  · intro L a w' i o ho hL hdep hI
    have hi : i < 51 := (Array.getElem?_eq_some_iff.1 ho).1
    have hcases : i = 0 ∨ i = 1 ∨ i = 2 ∨ i = 3 ∨ i = 4 ∨ i = 5 ∨ i = 6 ∨ i = 7 ∨ i = 8 ∨ i = 9 ∨ i = 10 ∨ i = 11 ∨ i = 12 ∨ i = 13 ∨ i = 14 ∨ i = 15 ∨ i = 16 ∨ i = 17 ∨ i = 18 ∨ i = 19 ∨ i = 20 ∨ i = 21 ∨ i = 22 ∨ i = 23 ∨ i = 24 ∨ i = 25 ∨ i = 26 ∨ i = 27 ∨ i = 28 ∨ i = 29 ∨ i = 30 ∨ i = 31 ∨ i = 32 ∨ i = 33 ∨ i = 34 ∨ i = 35 ∨ i = 36 ∨ i = 37 ∨ i = 38 ∨ i = 39 ∨ i = 40 ∨ i = 41 ∨ i = 42 ∨ i = 43 ∨ i = 44 ∨ i = 45 ∨ i = 46 ∨ i = 47 ∨ i = 48 ∨ i = 49 ∨ i = 50 := by omega
    clear hi hmm
    rcases hcases with rfl | rfl | rfl | rfl | rfl | rfl | rfl | rfl | rfl | rfl | rfl | rfl | rfl | rfl | rfl | rfl | rfl | rfl | rfl | rfl | rfl | rfl | rfl | rfl | rfl | rfl | rfl | rfl | rfl | rfl | rfl | rfl | rfl | rfl | rfl | rfl | rfl | rfl | rfl | rfl | rfl | rfl | rfl | rfl | rfl | rfl | rfl | rfl | rfl | rfl | rfl
    · simp at ho; subst ho; rw [if_pos (by simp [Region.wanted])]
      exact wp_make1 4 (hI.make hL)
    · simp at ho; subst ho; rw [if_pos (by simp [Region.wanted])]
      obtain ⟨b, es, clock, e1, e2, e3, e4⟩ := hI.ins 4 (.func (.func 55) #[] #[]) (by omega) (by omega) (hdep { on := 0, ground := Ground.data } (by simp) rfl) hL (by simp [ValOK])
      exact wp_insert1 _ _ b 4 es clock e1 rfl e2 e3 e4
    · simp at ho; subst ho; rw [if_pos (by simp [Region.wanted])]
      obtain ⟨b, es, clock, e1, e2, e3, e4⟩ := hI.ins 5 (.func (.func 56) #[] #[]) (by omega) (by omega) (hdep { on := 0, ground := Ground.data } (by simp) rfl) hL (by simp [ValOK])
      exact wp_insert1 _ _ b 5 es clock e1 rfl e2 e3 e4
    · simp at ho; subst ho; rw [if_pos (by simp [Region.wanted])]
      exact wp_load1 5 _ hI.s1 (HasCell.at hI.cell) (hI.load 6 (by omega) (by omega))
    · simp at ho; subst ho; rw [if_pos (by simp [Region.wanted])]
      exact wp_two1 6 5 57 _ (hI.ld 6 (by omega) (by omega) (hdep { on := 3, ground := Ground.data } (by simp) rfl)) (fun _ hb => hI.two 6 (by omega) (by omega) hb)
    · simp at ho; subst ho; rw [if_pos (by simp [Region.wanted])]
      obtain ⟨p, hp, hg⟩ := hI.cl 6 (by omega) (by omega) (hdep { on := 4, ground := Ground.data } (by simp) rfl)
      obtain ⟨b, es, clock, e1, e2, e3, e4⟩ := hI.ins 6 (clos p) (by omega) (by omega) (hdep { on := 0, ground := Ground.data } (by simp) rfl) hL (by simp only [ValOK]; rw [if_neg (by omega), if_neg (by omega), if_neg (by omega)]; exact ⟨p, rfl, hg⟩)
      exact wp_insert1 _ _ b 6 es clock e1 hp e2 e3 e4
    · simp at ho; subst ho; rw [if_pos (by simp [Region.wanted])]
      exact wp_load1 7 _ hI.s1 (HasCell.at hI.cell) (hI.load 7 (by omega) (by omega))
    · simp at ho; subst ho; rw [if_pos (by simp [Region.wanted])]
      exact wp_two1 8 7 58 _ (hI.ld 7 (by omega) (by omega) (hdep { on := 6, ground := Ground.data } (by simp) rfl)) (fun _ hb => hI.two 7 (by omega) (by omega) hb)
    · simp at ho; subst ho; rw [if_pos (by simp [Region.wanted])]
      obtain ⟨p, hp, hg⟩ := hI.cl 7 (by omega) (by omega) (hdep { on := 7, ground := Ground.data } (by simp) rfl)
      obtain ⟨b, es, clock, e1, e2, e3, e4⟩ := hI.ins 7 (clos p) (by omega) (by omega) (hdep { on := 0, ground := Ground.data } (by simp) rfl) hL (by simp only [ValOK]; rw [if_neg (by omega), if_neg (by omega), if_neg (by omega)]; exact ⟨p, rfl, hg⟩)
      exact wp_insert1 _ _ b 7 es clock e1 hp e2 e3 e4
    · simp at ho; subst ho; rw [if_pos (by simp [Region.wanted])]
      exact wp_load1 9 _ hI.s1 (HasCell.at hI.cell) (hI.load 8 (by omega) (by omega))
    · simp at ho; subst ho; rw [if_pos (by simp [Region.wanted])]
      exact wp_two1 10 9 59 _ (hI.ld 8 (by omega) (by omega) (hdep { on := 9, ground := Ground.data } (by simp) rfl)) (fun _ hb => hI.two 8 (by omega) (by omega) hb)
    · simp at ho; subst ho; rw [if_pos (by simp [Region.wanted])]
      obtain ⟨p, hp, hg⟩ := hI.cl 8 (by omega) (by omega) (hdep { on := 10, ground := Ground.data } (by simp) rfl)
      obtain ⟨b, es, clock, e1, e2, e3, e4⟩ := hI.ins 8 (clos p) (by omega) (by omega) (hdep { on := 0, ground := Ground.data } (by simp) rfl) hL (by simp only [ValOK]; rw [if_neg (by omega), if_neg (by omega), if_neg (by omega)]; exact ⟨p, rfl, hg⟩)
      exact wp_insert1 _ _ b 8 es clock e1 hp e2 e3 e4
    · simp at ho; subst ho; rw [if_pos (by simp [Region.wanted])]
      exact wp_load1 11 _ hI.s1 (HasCell.at hI.cell) (hI.load 9 (by omega) (by omega))
    · simp at ho; subst ho; rw [if_pos (by simp [Region.wanted])]
      exact wp_two1 12 11 60 _ (hI.ld 9 (by omega) (by omega) (hdep { on := 12, ground := Ground.data } (by simp) rfl)) (fun _ hb => hI.two 9 (by omega) (by omega) hb)
    · simp at ho; subst ho; rw [if_pos (by simp [Region.wanted])]
      obtain ⟨p, hp, hg⟩ := hI.cl 9 (by omega) (by omega) (hdep { on := 13, ground := Ground.data } (by simp) rfl)
      obtain ⟨b, es, clock, e1, e2, e3, e4⟩ := hI.ins 9 (clos p) (by omega) (by omega) (hdep { on := 0, ground := Ground.data } (by simp) rfl) hL (by simp only [ValOK]; rw [if_neg (by omega), if_neg (by omega), if_neg (by omega)]; exact ⟨p, rfl, hg⟩)
      exact wp_insert1 _ _ b 9 es clock e1 hp e2 e3 e4
    · simp at ho; subst ho; rw [if_pos (by simp [Region.wanted])]
      exact wp_load1 13 _ hI.s1 (HasCell.at hI.cell) (hI.load 10 (by omega) (by omega))
    · simp at ho; subst ho; rw [if_pos (by simp [Region.wanted])]
      exact wp_two1 14 13 61 _ (hI.ld 10 (by omega) (by omega) (hdep { on := 15, ground := Ground.data } (by simp) rfl)) (fun _ hb => hI.two 10 (by omega) (by omega) hb)
    · simp at ho; subst ho; rw [if_pos (by simp [Region.wanted])]
      obtain ⟨p, hp, hg⟩ := hI.cl 10 (by omega) (by omega) (hdep { on := 16, ground := Ground.data } (by simp) rfl)
      obtain ⟨b, es, clock, e1, e2, e3, e4⟩ := hI.ins 10 (clos p) (by omega) (by omega) (hdep { on := 0, ground := Ground.data } (by simp) rfl) hL (by simp only [ValOK]; rw [if_neg (by omega), if_neg (by omega), if_neg (by omega)]; exact ⟨p, rfl, hg⟩)
      exact wp_insert1 _ _ b 10 es clock e1 hp e2 e3 e4
    · simp at ho; subst ho; rw [if_pos (by simp [Region.wanted])]
      exact wp_load1 15 _ hI.s1 (HasCell.at hI.cell) (hI.load 11 (by omega) (by omega))
    · simp at ho; subst ho; rw [if_pos (by simp [Region.wanted])]
      exact wp_two1 16 15 62 _ (hI.ld 11 (by omega) (by omega) (hdep { on := 18, ground := Ground.data } (by simp) rfl)) (fun _ hb => hI.two 11 (by omega) (by omega) hb)
    · simp at ho; subst ho; rw [if_pos (by simp [Region.wanted])]
      obtain ⟨p, hp, hg⟩ := hI.cl 11 (by omega) (by omega) (hdep { on := 19, ground := Ground.data } (by simp) rfl)
      obtain ⟨b, es, clock, e1, e2, e3, e4⟩ := hI.ins 11 (clos p) (by omega) (by omega) (hdep { on := 0, ground := Ground.data } (by simp) rfl) hL (by simp only [ValOK]; rw [if_neg (by omega), if_neg (by omega), if_neg (by omega)]; exact ⟨p, rfl, hg⟩)
      exact wp_insert1 _ _ b 11 es clock e1 hp e2 e3 e4
    · simp at ho; subst ho; rw [if_pos (by simp [Region.wanted])]
      exact wp_load1 17 _ hI.s1 (HasCell.at hI.cell) (hI.load 12 (by omega) (by omega))
    · simp at ho; subst ho; rw [if_pos (by simp [Region.wanted])]
      exact wp_two1 18 17 63 _ (hI.ld 12 (by omega) (by omega) (hdep { on := 21, ground := Ground.data } (by simp) rfl)) (fun _ hb => hI.two 12 (by omega) (by omega) hb)
    · simp at ho; subst ho; rw [if_pos (by simp [Region.wanted])]
      obtain ⟨p, hp, hg⟩ := hI.cl 12 (by omega) (by omega) (hdep { on := 22, ground := Ground.data } (by simp) rfl)
      obtain ⟨b, es, clock, e1, e2, e3, e4⟩ := hI.ins 12 (clos p) (by omega) (by omega) (hdep { on := 0, ground := Ground.data } (by simp) rfl) hL (by simp only [ValOK]; rw [if_neg (by omega), if_neg (by omega), if_neg (by omega)]; exact ⟨p, rfl, hg⟩)
      exact wp_insert1 _ _ b 12 es clock e1 hp e2 e3 e4
    · simp at ho; subst ho; rw [if_pos (by simp [Region.wanted])]
      exact wp_load1 19 _ hI.s1 (HasCell.at hI.cell) (hI.load 13 (by omega) (by omega))
    · simp at ho; subst ho; rw [if_pos (by simp [Region.wanted])]
      exact wp_two1 20 19 64 _ (hI.ld 13 (by omega) (by omega) (hdep { on := 24, ground := Ground.data } (by simp) rfl)) (fun _ hb => hI.two 13 (by omega) (by omega) hb)
    · simp at ho; subst ho; rw [if_pos (by simp [Region.wanted])]
      obtain ⟨p, hp, hg⟩ := hI.cl 13 (by omega) (by omega) (hdep { on := 25, ground := Ground.data } (by simp) rfl)
      obtain ⟨b, es, clock, e1, e2, e3, e4⟩ := hI.ins 13 (clos p) (by omega) (by omega) (hdep { on := 0, ground := Ground.data } (by simp) rfl) hL (by simp only [ValOK]; rw [if_neg (by omega), if_neg (by omega), if_neg (by omega)]; exact ⟨p, rfl, hg⟩)
      exact wp_insert1 _ _ b 13 es clock e1 hp e2 e3 e4
    · simp at ho; subst ho; rw [if_pos (by simp [Region.wanted])]
      exact wp_load1 21 _ hI.s1 (HasCell.at hI.cell) (hI.load 14 (by omega) (by omega))
    · simp at ho; subst ho; rw [if_pos (by simp [Region.wanted])]
      exact wp_two1 22 21 65 _ (hI.ld 14 (by omega) (by omega) (hdep { on := 27, ground := Ground.data } (by simp) rfl)) (fun _ hb => hI.two 14 (by omega) (by omega) hb)
    · simp at ho; subst ho; rw [if_pos (by simp [Region.wanted])]
      obtain ⟨p, hp, hg⟩ := hI.cl 14 (by omega) (by omega) (hdep { on := 28, ground := Ground.data } (by simp) rfl)
      obtain ⟨b, es, clock, e1, e2, e3, e4⟩ := hI.ins 14 (clos p) (by omega) (by omega) (hdep { on := 0, ground := Ground.data } (by simp) rfl) hL (by simp only [ValOK]; rw [if_neg (by omega), if_neg (by omega), if_neg (by omega)]; exact ⟨p, rfl, hg⟩)
      exact wp_insert1 _ _ b 14 es clock e1 hp e2 e3 e4
    · simp at ho; subst ho; rw [if_pos (by simp [Region.wanted])]
      exact wp_load1 23 _ hI.s1 (HasCell.at hI.cell) (hI.load 15 (by omega) (by omega))
    · simp at ho; subst ho; rw [if_pos (by simp [Region.wanted])]
      exact wp_two1 24 23 66 _ (hI.ld 15 (by omega) (by omega) (hdep { on := 30, ground := Ground.data } (by simp) rfl)) (fun _ hb => hI.two 15 (by omega) (by omega) hb)
    · simp at ho; subst ho; rw [if_pos (by simp [Region.wanted])]
      obtain ⟨p, hp, hg⟩ := hI.cl 15 (by omega) (by omega) (hdep { on := 31, ground := Ground.data } (by simp) rfl)
      obtain ⟨b, es, clock, e1, e2, e3, e4⟩ := hI.ins 15 (clos p) (by omega) (by omega) (hdep { on := 0, ground := Ground.data } (by simp) rfl) hL (by simp only [ValOK]; rw [if_neg (by omega), if_neg (by omega), if_neg (by omega)]; exact ⟨p, rfl, hg⟩)
      exact wp_insert1 _ _ b 15 es clock e1 hp e2 e3 e4
    · simp at ho; subst ho; rw [if_pos (by simp [Region.wanted])]
      exact wp_load1 25 _ hI.s1 (HasCell.at hI.cell) (hI.load 16 (by omega) (by omega))
    · simp at ho; subst ho; rw [if_pos (by simp [Region.wanted])]
      exact wp_two1 26 25 68 _ (hI.ld 16 (by omega) (by omega) (hdep { on := 33, ground := Ground.data } (by simp) rfl)) (fun _ hb => hI.two 16 (by omega) (by omega) hb)
    · simp at ho; subst ho; rw [if_pos (by simp [Region.wanted])]
      obtain ⟨p, hp, hg⟩ := hI.cl 16 (by omega) (by omega) (hdep { on := 34, ground := Ground.data } (by simp) rfl)
      obtain ⟨b, es, clock, e1, e2, e3, e4⟩ := hI.ins 16 (clos p) (by omega) (by omega) (hdep { on := 0, ground := Ground.data } (by simp) rfl) hL (by simp only [ValOK]; rw [if_neg (by omega), if_neg (by omega), if_neg (by omega)]; exact ⟨p, rfl, hg⟩)
      exact wp_insert1 _ _ b 16 es clock e1 hp e2 e3 e4
    · simp at ho; subst ho; rw [if_pos (by simp [Region.wanted])]
      exact wp_move1 27 2 _ hI.s2 (hI.move 17 (by omega) (by omega))
    · simp at ho; subst ho; rw [if_pos (by simp [Region.wanted])]
      exact wp_is1 28 27 69 _ _ (hI.mv 17 (by omega) (by omega) (hdep { on := 36, ground := Ground.data } (by simp) rfl)) hI.cell (fun _ _ hb hb2 => hI.is 17 (by omega) (by omega) hb hb2)
    · simp at ho; subst ho; rw [if_pos (by simp [Region.wanted])]
      obtain ⟨p, hp, hg⟩ := hI.cl 17 (by omega) (by omega) (hdep { on := 37, ground := Ground.data } (by simp) rfl)
      obtain ⟨b, es, clock, e1, e2, e3, e4⟩ := hI.ins 17 (clos p) (by omega) (by omega) (hdep { on := 0, ground := Ground.data } (by simp) rfl) hL (by simp only [ValOK]; rw [if_neg (by omega), if_neg (by omega), if_neg (by omega)]; exact ⟨p, rfl, hg⟩)
      exact wp_insert1 _ _ b 17 es clock e1 hp e2 e3 e4
    · simp at ho; subst ho; rw [if_pos (by simp [Region.wanted])]
      exact wp_move1 29 2 _ hI.s2 (hI.move 18 (by omega) (by omega))
    · simp at ho; subst ho; rw [if_pos (by simp [Region.wanted])]
      exact wp_is1 30 29 70 _ _ (hI.mv 18 (by omega) (by omega) (hdep { on := 39, ground := Ground.data } (by simp) rfl)) hI.cell (fun _ _ hb hb2 => hI.is 18 (by omega) (by omega) hb hb2)
    · simp at ho; subst ho; rw [if_pos (by simp [Region.wanted])]
      obtain ⟨p, hp, hg⟩ := hI.cl 18 (by omega) (by omega) (hdep { on := 40, ground := Ground.data } (by simp) rfl)
      obtain ⟨b, es, clock, e1, e2, e3, e4⟩ := hI.ins 18 (clos p) (by omega) (by omega) (hdep { on := 0, ground := Ground.data } (by simp) rfl) hL (by simp only [ValOK]; rw [if_neg (by omega), if_neg (by omega), if_neg (by omega)]; exact ⟨p, rfl, hg⟩)
      exact wp_insert1 _ _ b 18 es clock e1 hp e2 e3 e4
    · simp at ho; subst ho; rw [if_pos (by simp [Region.wanted])]
      exact wp_move1 31 2 _ hI.s2 (hI.move 19 (by omega) (by omega))
    · simp at ho; subst ho; rw [if_pos (by simp [Region.wanted])]
      exact wp_is1 32 31 71 _ _ (hI.mv 19 (by omega) (by omega) (hdep { on := 42, ground := Ground.data } (by simp) rfl)) hI.cell (fun _ _ hb hb2 => hI.is 19 (by omega) (by omega) hb hb2)
    · simp at ho; subst ho; rw [if_pos (by simp [Region.wanted])]
      obtain ⟨p, hp, hg⟩ := hI.cl 19 (by omega) (by omega) (hdep { on := 43, ground := Ground.data } (by simp) rfl)
      obtain ⟨b, es, clock, e1, e2, e3, e4⟩ := hI.ins 19 (clos p) (by omega) (by omega) (hdep { on := 0, ground := Ground.data } (by simp) rfl) hL (by simp only [ValOK]; rw [if_neg (by omega), if_neg (by omega), if_neg (by omega)]; exact ⟨p, rfl, hg⟩)
      exact wp_insert1 _ _ b 19 es clock e1 hp e2 e3 e4
    · simp at ho; subst ho; rw [if_pos (by simp [Region.wanted])]
      exact wp_move1 33 2 _ hI.s2 (hI.move 20 (by omega) (by omega))
    · simp at ho; subst ho; rw [if_pos (by simp [Region.wanted])]
      exact wp_is1 34 33 72 _ _ (hI.mv 20 (by omega) (by omega) (hdep { on := 45, ground := Ground.data } (by simp) rfl)) hI.cell (fun _ _ hb hb2 => hI.is 20 (by omega) (by omega) hb hb2)
    · simp at ho; subst ho; rw [if_pos (by simp [Region.wanted])]
      obtain ⟨p, hp, hg⟩ := hI.cl 20 (by omega) (by omega) (hdep { on := 46, ground := Ground.data } (by simp) rfl)
      obtain ⟨b, es, clock, e1, e2, e3, e4⟩ := hI.ins 20 (clos p) (by omega) (by omega) (hdep { on := 0, ground := Ground.data } (by simp) rfl) hL (by simp only [ValOK]; rw [if_neg (by omega), if_neg (by omega), if_neg (by omega)]; exact ⟨p, rfl, hg⟩)
      exact wp_insert1 _ _ b 20 es clock e1 hp e2 e3 e4
    · simp at ho; subst ho; rw [if_pos (by simp [Region.wanted])]
      obtain ⟨b, es, clock, e1, e2, e3, e4⟩ := hI.ins 21 (.func (.func 73) #[] #[]) (by omega) (by omega) (hdep { on := 0, ground := Ground.data } (by simp) rfl) hL (by simp [ValOK])
      exact wp_insert1 _ _ b 21 es clock e1 rfl e2 e3 e4
    · simp at ho; subst ho; rw [if_pos (by simp [Region.wanted])]
      exact wp_move1 35 4 _ rfl (hI.on35 (hdep { on := 0, ground := Ground.data } (by simp) rfl))
    · simp at ho; subst ho; rw [if_pos (by simp [Region.wanted])]
      exact wp_assign1 0 35 _ rfl (hI.on0 (hdep { on := 49, ground := Ground.data } (by simp) rfl))
  · intro L a w' hall hI
    have h50 := hI.a0 (hall 50 (by simp))
    obtain ⟨b, hb, hm⟩ := hI.mp h50.1
    have hm' := hm.of_all (fun i hi => hall i (by simpa using hi))
    have hd := hI.d
    have hbel := hI.bel
    have hr : a.tmps.getD 0 undef = .map (some b) := h50.2.trans hb
    clear hI hall h50 hb hm
    go_wp2_with fail
    exact bodyPost_ret (v := .map (some b)) (by rw [results_tmp (t := 0) rfl, hr]) hd ⟨b, rfl, hm', hbel⟩

end Go.Proofs.Ytkfenljldmbmcaa
