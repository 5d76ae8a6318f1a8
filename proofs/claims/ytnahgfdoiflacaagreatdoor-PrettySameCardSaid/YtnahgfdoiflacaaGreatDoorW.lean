/- A line that is written; lines of no statements; the text of a program with one empty function. -/
import Derived.Test.YtnahgfdoiflacaaGreatDoorV
import Derived.Laws.EntriesVeiled
import Derived.WideLaws
set_option linter.unusedSimpArgs false
set_option linter.unusedVariables false
namespace Go.Proofs.YtnahgfdoiflacaaGreatDoor
open Go.RowKit Go.Lib Go.Shelf

theorem Hold.of_below {b : Nat} {w w' : World} (h : Below w.heap.size w w') : Hold b w w' := ⟨h.size, fun k o _ ho _ => (h.block k (blk_lt ho)).trans ho⟩
/-- a line behind tabs -/
def lineT (tabs : Nat) (s : ByteArray) : ByteArray := ⟨(Lib.repeatL [9] tabs).toArray⟩ ++ s ++ ⟨#[10]⟩
theorem repeat_len (c : Nat) : (Lib.repeatL [9] c).length = c := by rw [Lib.repeatL_length]; simp
theorem repeat_size (c : Nat) : (⟨(Lib.repeatL [9] c).toArray⟩ : ByteArray).size = c := by rw [← size_list]; simpa using repeat_len c
set_option maxRecDepth 100000 in
set_option maxHeartbeats 2000000 in
theorem line_any (B b : Nat) (bs : List Value) (tabs : Nat) (s : ByteArray) (W : World) (h : Lib.IsBuilder 87 5 B b bs W) (ht : tabs ≤ 100000) (hlen : bs.length + tabs + s.size ≤ 100000000) (hB : B ≤ W.heap.size) :
    Calls Tryz.prog 50 #[.int .i64 tabs, .string s, .pointer (some ⟨b, 0, none⟩)] W fun e w' => e = .returned (.tuple #[]) ∧ (Lib.BuilderAt 87 5 B b (.pointer (some ⟨b, 0, none⟩)) (bs ++ Lib.strCells (lineT tabs s)) w' ∧ Below B W w' ∧ Hold b W w') := by
  have hr := Lib.hid (Tryz.strings_Repeat ⟨#[9]⟩ tabs W (by omega) (by show 1 * tabs ≤ _; omega))
  have e9 : (⟨#[9]⟩ : ByteArray).data.toList = [9] := rfl
  have e10 : (⟨#[10]⟩ : ByteArray).size = 1 := rfl
  have hsz := repeat_size tabs
  have hcz : (lineT tabs s).size = tabs + s.size + 1 := by
    unfold lineT
    rw [ByteArray.size_append, ByteArray.size_append, hsz, e10]
  have hw := Lib.hid (fun (w1 : World) (hb : Below W.heap.size W w1) => writeString_any B b bs (lineT tabs s) w1 (IsBuilder.go h hb) (by omega) (Nat.le_trans hB hb.size))
  obtain ⟨rt, hrt⟩ : ∃ rt, (⟨(Lib.repeatL [9] tabs).toArray⟩ : ByteArray) = rt := ⟨_, rfl⟩
  have hlt : rt ++ s ++ ⟨#[10]⟩ = lineT tabs s := by rw [← hrt]; rfl
  have hr2 := hr.out
  rw [e9, hrt] at hr2
  rw [hrt] at hsz
  have hr2 := Lib.hid hr2
  have hlt := Lib.hid hlt
  have c1 : ¬ rt.size + s.size > 9223372036854775807 := by omega
  have c2 : ¬ rt.size + s.size + 1 > 9223372036854775807 := by omega
  have c1' : ¬ 9223372036854775807 < rt.size + s.size := by omega
  have c2' : ¬ 9223372036854775807 < rt.size + s.size + 1 := by omega
  have hB' := Lib.hid hB
  clear h hcz hsz hrt hr hB e9 hlen ht
  go_enter Tryz.func50, Tryz.ntmps50
  go_wp2_with fail
  refine hr2.out.mono ?_
  rintro e w1 ⟨rfl, hb1⟩
  have hb1 := Lib.hid hb1
  go_wp2_with fail
  refine (hw.out _ hb1.out).mono ?_
  rintro e w2 ⟨rfl, hb2, hb3, hb4⟩
  have hq := Lib.hid (show Lib.BuilderAt 87 5 B b (.pointer (some ⟨b, 0, none⟩)) (bs ++ Lib.strCells (lineT tabs s)) w2 ∧ Below B W w2 ∧ Hold b W w2 from ⟨hb2, (hb1.out.mono hB'.out).trans hb3, (Hold.of_below hb1.out).trans hb4⟩)
  clear hb2 hb3 hb4
  go_wp2
  go_end0
  exact ⟨rfl, hq.out⟩
set_option maxRecDepth 100000 in
set_option maxHeartbeats 2000000 in
theorem lines30_any (A : Option Addr) (n c : Nat) (W : World) : Calls Tryz.prog 30 #[.slice A n c] W fun e w' => e = .returned (.func (.func 81) #[] #[.pointer (some ⟨W.heap.size, 0, none⟩)]) ∧ w' = W.alloc (.cells #[.slice A n c] 48) := by
  go_enter Tryz.func30, Tryz.ntmps30
  go_wp2
  go_ret
  exact ⟨rfl, rfl⟩
set_option maxRecDepth 100000 in
set_option maxHeartbeats 2000000 in
theorem tell82_nil (p q : Addr) (W : World) : Calls Tryz.prog 82 #[.slice none 0 0, .int .i64 0, .pointer (some p), .pointer (some q)] W (BoolPost true W) := by
  go_enter Tryz.func82, Tryz.ntmps82
  go_wp2
  go_rounds 1
  go_ret
  exact ⟨rfl, Below.refl _ _⟩
set_option maxRecDepth 100000 in
set_option maxHeartbeats 2000000 in
theorem iter81_nil (l b : Nat) (W : World) (h : W.heap[b]? = some (.cells #[.slice none 0 0] 48 (0, 0))) :
    Calls Tryz.prog 81 #[.func (.yield l) #[] #[], .pointer (some ⟨b, 0, none⟩)] W fun e w' => e = .returned (.tuple #[]) ∧ Below W.heap.size W w' := by
  have hm := Lib.hid mayNil_any
  have ht := Lib.hid tell82_nil
  have hlt := blk_lt h
  have h' := Lib.hid h
  have g0 : (W.alloc (.cells #[.func (.yield l) #[] #[]] 71)).cell? ⟨b, 0, none⟩ = some (.slice none 0 0) := by
    rw [blk_cell ((heap_alloc_old _ _ hlt).trans h)]; rfl
  clear h
  go_enter Tryz.func81, Tryz.ntmps81
  go_wp2_with fail
  refine (hm.out _).mono ?_
  rintro e w1 ⟨rfl, hb1⟩
  have hx1 := (hb1.block b (by simp; omega)).trans ((heap_alloc_old _ _ hlt).trans h'.out)
  have g1 : ∀ o : Obj, (w1.alloc o).cell? ⟨b, 0, none⟩ = some (.slice none 0 0) := fun o => by
    rw [blk_cell ((heap_alloc_old _ _ (blk_lt hx1)).trans hx1)]; rfl
  have hb1 := Lib.hid (Below.next ((Below.refl _ W).alloc (Nat.le_refl _) _) hb1)
  clear hx1 g0
  go_wp2_with fail
  refine (ht.out _ _ _).mono ?_
  rintro e w2 ⟨rfl, hb2⟩
  have hb2 := Lib.hid (Below.next (hb1.out.alloc hb1.out.size _) hb2)
  go_wp2
  go_end0
  exact ⟨rfl, hb2.out⟩
end Go.Proofs.YtnahgfdoiflacaaGreatDoor
