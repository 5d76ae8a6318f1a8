/- A memory copied; two memories compared. -/
import Derived.Test.YtageahpgcjnkpaaV1
set_option linter.unusedSimpArgs false
set_option linter.unusedVariables false
namespace Go.Proofs.Ytageahpgcjnkpaa
open Go.RowKit

theorem bytes_one (f : Nat → Int) : (bytes f).all (·.oneCell') = true := by
  rw [Array.all_eq_true]
  intro i hi
  rw [bytes_size] at hi
  have h := bytes_at f i hi
  rw [Array.getElem?_eq_getElem (by rw [bytes_size]; exact hi)] at h
  injection h with h
  rw [h]
  rfl
theorem load_bytes {w : World} {q : Nat} {f : Nat → Int} (hq : w.heap[q]? = some (.cells (bytes f) 83 (0, 0))) : (Instr.loadAt 83 (.pointer (some ⟨q, 0, none⟩))).run Try.prog w = .ok (.agg (bytes f)) w := by
  simp only [Instr.loadAt, Instr.sureAddr, Sem.run_bind, Sem.run_pure, Result.andThen]
  exact run_loadVar_row w q 83 83 (bytes f) (0, 0) _ hq und83 rfl (by rw [bytes_size]; exact size83)
theorem store_bytes (w : World) (f g : Nat → Int) : (Instr.storeAt 83 (.pointer (some ⟨w.heap.size, 0, none⟩)) (.agg (bytes f))).run Try.prog (w.alloc (.cells (bytes g) 83)) = .ok () (w.alloc (.cells (bytes f) 83)) :=
  run_storeAt_new w 83 (bytes g) (bytes f) (by rw [bytes_size]; exact size83) (by rw [bytes_size, bytes_size]) (bytes_one f)

/-- how Copy ends -/
def CopyPost (L : List Reg) (f : Nat → Int) (n : Nat) (w : World) (e : Ending) (w' : World) : Prop :=
  ∃ p q A cap, e = .returned (.pointer (some ⟨p, 0, none⟩)) ∧ Mem_ w' p q A n cap L f ∧ n ≤ cap ∧ cap ≤ 9223372036854775807 ∧ w.heap.size ≤ p ∧ w.heap.size ≤ q ∧ Below w.heap.size w w'

set_option maxRecDepth 100000 in
set_option maxHeartbeats 1000000 in
theorem copy_any {p q : Nat} {A : Option Addr} {n cap : Nat} {L : List Reg} {f : Nat → Int} (w : World) (h : Mem_ w p q A n cap L f) (hc : n ≤ cap) :
    Calls Try.prog 57 #[.pointer (some ⟨p, 0, none⟩)] w (CopyPost L f n w) := by
  have H := Lib.hid h
  have c1 := h.c1
  have hz := zero83
  have hsz' := Lib.hid (show (Try.prog.info? 83).map (·.size) = some (bytes f).size by rw [bytes_size]; exact size83)
  have hss := Lib.hid (show (bytes fun _ => 0).size = (bytes f).size by rw [bytes_size, bytes_size])
  have hnew := Lib.hid (heap_alloc_new w (.cells (bytes fun _ => 0) 83))
  have hone := Lib.hid (bytes_one f)
  clear h
  go_enter Try.func57, Try.ntmps57
  go_wp2_with fail
  refine (there_any _ H.out).mono ?_
  rintro e w1 ⟨rfl, rfl⟩
  go_wp2_with (first
    | (refine wpList_load_row rfl 83 (.tmp 11) rfl q rfl 83 (bytes f) (0, 0) _ H.out.hq und83 rfl hsz'.out ?_)
    | (refine wpList_store_row rfl 83 (.tmp 3) (.tmp 12) rfl w.heap.size (bytes f) rfl rfl 83 (bytes fun _ => 0) hnew.out hsz'.out hss.out hone.out ?_; rw [World.setRow_alloc_new]))
  have hb1 : Below w.heap.size w (w.alloc (.cells (bytes f) 83)) := (Below.refl _ _).alloc (Nat.le_refl _) _
  refine (layout_any _ (H.out.below hb1) hc).mono ?_
  rintro e w2 ⟨A2, cap2, rfl, h1, h2, h3, hb2⟩
  have hb2' := Lib.hid (Below.next hb1 hb2)
  have h3' := Lib.hid h3
  have hq2 := Lib.hid ((hb2.block w.heap.size (by simp)).trans (heap_alloc_new w (.cells (bytes f) 83)))
  clear hb2 h3 hb1 hz
  go_wp2
  go_ret
  have hall : Below w2.heap.size w2 (w2.alloc (.cells #[.slice A2 n cap2, .pointer (some ⟨w.heap.size, 0, none⟩)] 72)) := (Below.refl _ _).alloc (Nat.le_refl _) _
  exact ⟨w2.heap.size, w.heap.size, A2, cap2, rfl, ⟨heap_alloc_new w2 _, (hall.block _ (blk_lt hq2.out)).trans hq2.out, (h3'.out.below hall).more hall.size, H.out.hn, H.out.hf⟩, h1, h2, hb2'.out.size, Nat.le_refl _, Below.next hb2'.out hall⟩

set_option maxRecDepth 100000 in
set_option maxHeartbeats 2000000 in
theorem equal_any (A A' : Option Addr) (n c n' c' : Nat) (V W : List Reg) (w : World) (hv : RegsAt w w.heap.size A n V) (hw : RegsAt w w.heap.size A' n' W) (hn : n ≤ 9223372036854775807) (hn' : n' ≤ 9223372036854775807) :
    Calls Try.prog 56 #[.slice A n c, .slice A' n' c'] w (BoolPost (decide (V = W)) w) := by
  have hv' := Lib.hid hv
  have hw' := Lib.hid hw
  have hV' := Lib.hid hv.1
  have hW' := Lib.hid hw.1
  clear hv hw
  by_cases hnn : n = n'
  · subst hnn
    go_enter Try.func56, Try.ntmps56
    go_wp2_with fail
    go_loopg [13] n (fun g s4 wr => ∃ k : Nat, k + g = n ∧ s4 = .int .i64 k ∧ (∀ i, i < k → V[i]? = W[i]?) ∧ Below w.heap.size w wr)
    case atStart => exact ⟨0, by omega, rfl, fun i h => absurd h (by omega), Below.refl _ _⟩
    case round =>
      obtain ⟨k, hkg, rfl, hall, hb⟩ := hrel
      have hall' := Lib.hid hall
      have hb' := Lib.hid hb
      clear hall hb
      cases gk with
      | zero =>
        have e0 : ¬ ((k : Int) < (n : Int)) := by omega
        have hfin := Lib.hid (show V = W from list_eq_all hV'.out hW'.out fun i hi => hall'.out i (by omega))
        go_wp2
        go_ret
        exact ⟨ret_bool (by simp [hfin.out]), hb'.out⟩
      | succ g =>
        have e0 : (k : Int) < (n : Int) := by omega
        obtain ⟨blk, off, r, rfl, hB, hL, hR, hW⟩ := (hv'.out.below hb'.out).at_ (k := k) (by omega)
        obtain ⟨blk', off', s, rfl, hB', hL2, hR2, hW2⟩ := (hw'.out.below hb'.out).at_ (k := k) (by omega)
        obtain ⟨r0, r1, r2, r3⟩ := hR
        obtain ⟨s0, s1, s2, s3⟩ := hR2
        have hL' := Lib.hid hL
        have hL2' := Lib.hid hL2
        have hne := fun w => run_neq_reg r s w
        clear hL hL2 hW hW2
        by_cases hrs : r = s
        · have hd : sameB r s = true := (sameB_iff r s).2 hrs
          rw [hd] at hne
          go_wp2
          go_quiet (fail)
          go_wp2
          go_roundg g
          case measure => omega
          case rel =>
            refine ⟨k + 1, by omega, by go_num, fun i hi => ?_, below_drewN hb'.out _⟩
            rcases Nat.lt_or_ge i k with h | h
            · exact hall'.out i h
            · obtain rfl : i = k := by omega
              rw [hL'.out, hL2'.out, hrs]
        · have hd : sameB r s = false := by rw [← Bool.not_eq_true, sameB_iff]; exact hrs
          have hfin := Lib.hid (show V ≠ W from list_ne_at hL'.out hL2'.out hrs)
          rw [hd] at hne
          clear hrs
          go_wp2
          go_quiet (fail)
          go_wp2
          go_ret
          exact ⟨ret_bool (by simp [hfin.out]), below_drewN hb'.out _⟩
  · have hd : ((n : Int) != (n' : Int)) = true := by simp; omega
    have hfin := Lib.hid (show V ≠ W from fun e => hnn (by rw [← hV'.out, ← hW'.out, e]))
    clear hnn
    go_enter Try.func56, Try.ntmps56
    go_wp2
    go_ret
    exact ⟨ret_bool (by simp [hfin.out]), Below.refl _ _⟩

theorem Sub.blk {w : World} {g : Nat} {o : Obj} (h : w.heap[g]? = some o) : ∀ w', (∃ s : Sub w, w' = s.val) → w'.heap[g]? = some o := by
  rintro _ ⟨s, rfl⟩
  exact (s.property.block g (blk_lt h)).trans h

set_option maxRecDepth 100000 in
set_option maxHeartbeats 2000000 in
theorem same_any {p q p' q' : Nat} {A A' : Option Addr} {n cap n' cap' : Nat} {L L' : List Reg} {f f' : Nat → Int} (w : World) (h : Mem_ w p q A n cap L f) (h' : Mem_ w p' q' A' n' cap' L' f') :
    Calls Try.prog 33 #[.pointer (some ⟨p, 0, none⟩), .pointer (some ⟨p', 0, none⟩)] w (BoolPost (decide (L = L') && eqF f f') w) := by
  have H := Lib.hid h
  have H' := Lib.hid h'
  have c0 := Sub.cell h.c0
  have c1 := Sub.cell h.c1
  have c0' := Sub.cell h'.c0
  have c1' := Sub.cell h'.c1
  have heq := Lib.hid fun s : Sub w => equal_any A A' n cap n' cap' L L' s.val ((h.hr.below s.property).more s.property.size) ((h'.hr.below s.property).more s.property.size) (by have := h.hn; omega) (by have := h'.hn; omega)
  have hq := Lib.hid (Sub.blk h.hq)
  have hq' := Lib.hid (Sub.blk h'.hq)
  have hsz := Lib.hid (show (Try.prog.info? 83).map (·.size) = some (bytes f).size by rw [bytes_size]; exact size83)
  have hsz' := Lib.hid (show (Try.prog.info? 83).map (·.size) = some (bytes f').size by rw [bytes_size]; exact size83)
  have hcmp := Lib.hid (run_eq83 f f')
  clear h h'
  obtain ⟨t, ht⟩ : ∃ t, decide (L = L') = t := ⟨_, rfl⟩
  rw [ht] at heq ⊢
  obtain ⟨u, hu⟩ : ∃ u, eqF f f' = u := ⟨_, rfl⟩
  rw [hu] at hcmp ⊢
  clear ht hu
  go_enter Try.func33, Try.ntmps33
  go_wp2_with fail
  refine (there_any _ H.out).mono ?_
  rintro e w1 ⟨rfl, rfl⟩
  go_wp2_with fail
  refine (there_any _ H'.out).mono ?_
  rintro e w1 ⟨rfl, rfl⟩
  go_wp2
  cases t
  · refine wp_region_below (by kernel_rfl) (by kernel_rfl) ?_
    repeat (go_big_quiet_step (with_reducible exact Sub.call (heq.out _)))
    refine wpQuiet_nil ?_
    rintro _ ⟨⟨w3, hb3⟩, rfl⟩
    go_wp2
    go_ret
    exact ⟨rfl, hb3⟩
  · refine wp_region_below (by kernel_rfl) (by kernel_rfl) ?_
    repeat (first
      | (go_big_quiet_want; refine quiet_load_row 83 (.tmp 32) rfl q rfl 83 (bytes f) (0, 0) _ hq.out und83 rfl hsz.out ?_; simp [Act.put]; go_big_quiet_on)
      | (go_big_quiet_want; refine quiet_load_row 83 (.tmp 38) rfl q' rfl 83 (bytes f') (0, 0) _ hq'.out und83 rfl hsz'.out ?_; simp [Act.put]; go_big_quiet_on)
      | (go_big_quiet_want; refine quiet_eql_agg 83 83 (.tmp 33) (.tmp 39) rfl (bytes f) (bytes f') (.bool u) rfl rfl noGuard83 hcmp.out ?_; simp [Act.put]; go_big_quiet_on)
      | (go_big_quiet_step (with_reducible exact Sub.call (heq.out _))))
    refine wpQuiet_nil ?_
    rintro _ ⟨⟨w3, hb3⟩, rfl⟩
    go_wp2
    go_ret
    exact ⟨rfl, hb3⟩
end Go.Proofs.Ytageahpgcjnkpaa
