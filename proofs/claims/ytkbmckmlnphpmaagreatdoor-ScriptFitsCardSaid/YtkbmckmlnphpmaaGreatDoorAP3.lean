/- Lines of words told and read: plain. The reference's Unline: what it answers; lines that are refused at once. The reference's Unline, case by case (genap.py). The reference's Unline, whole; the reference's Same. -/
import Derived.Test.YtkbmckmlnphpmaaGreatDoorAJ
import Derived.RegionTactic
import Derived.ChangeAlike
set_option linter.unusedSimpArgs false
set_option linter.unusedVariables false
namespace Go.Proofs.YtkbmckmlnphpmaaGreatDoor
open Go.RowKit Go.Lib Go.Shelf

theorem parts_join (c : UInt8) : ∀ (l : List UInt8) (p : List UInt8) (ps : List (List UInt8)), partsF c l = p :: ps → p ++ (ps.map (c :: ·)).flatten = l
  | [], p, ps, h => by
    have h : [[]] = p :: ps := h
    cases h; rfl
  | b :: l, p, ps, h => by
    have hne := partsF_ne c l
    unfold partsF at h
    split at h
    · rename_i hb
      have hb' : b = c := by simpa using hb
      cases h
      cases hl : partsF c l with
      | nil => exact absurd hl hne
      | cons q r =>
        have := parts_join c l q r hl
        simp only [List.map_cons, List.flatten_cons, List.nil_append]
        rw [hb', ← this]
        rfl
    · cases hl : partsF c l with
      | nil => exact absurd hl hne
      | cons q r =>
        rw [hl] at h
        have := parts_join c l q r hl
        cases h
        rw [← this]
        rfl
theorem parts_cons (c : UInt8) (b : UInt8) (l p : List UInt8) (ps : List (List UInt8)) (hb : b ≠ c) (h : partsF c l = p :: ps) : partsF c (b :: l) = (b :: p) :: ps := by
  unfold partsF
  rw [h]
  simp [hb]
theorem parts_of (c : UInt8) : ∀ (ps : List (List UInt8)) (p : List UInt8), (∀ b ∈ p, b ≠ c) → (∀ q ∈ ps, ∀ b ∈ q, b ≠ c) → partsF c (p ++ (ps.map (c :: ·)).flatten) = p :: ps
  | [], [], _, _ => rfl
  | q :: ps, [], h1, h2 => by
    have ih := parts_of c ps q (h2 q (by simp)) (fun r hr => h2 r (by simp [hr]))
    show partsF c (c :: (q ++ (ps.map (c :: ·)).flatten)) = _
    unfold partsF
    rw [ih]
    simp
  | ps, b :: p, h1, h2 => by
    have ih := parts_of c ps p (fun x hx => h1 x (by simp [hx])) h2
    exact parts_cons c b _ _ _ (h1 b (by simp)) ih
termination_by ps p => (ps.length, p.length)

theorem numsM_text : ∀ (xs : List ByteArray) (l : List Int), numsM xs = some l → xs.map (fun x => x.data.toList) = l.map fun x => Lib.decDigits x.toNat
  | [], l, h => by cases h; rfl
  | x :: xs, l, h => by
    unfold numsM at h
    cases hx : numI x with
    | none => rw [hx] at h; cases h
    | some v =>
      rw [hx] at h
      cases hm : numsM xs with
      | none => rw [hm] at h; cases h
      | some l' =>
        rw [hm] at h
        cases h
        rw [List.map_cons, List.map_cons, numsM_text xs l' hm]
        have := numI_text hx
        rw [← this]
        rfl
theorem numsM_of : ∀ (l : List Int), (∀ x ∈ l, 0 ≤ x ∧ x ≤ 18446744073709551615) → numsM (l.map fun x => numT x.toNat) = some l
  | [], _ => rfl
  | x :: l, h => by
    have h1 := h x (by simp)
    rw [List.map_cons]
    unfold numsM
    rw [numI_numT x.toNat (by omega), numsM_of l fun y hy => h y (by simp [hy])]
    simp
    omega
/-- what a line says has that line -/
theorem unw_text {s p : ByteArray} {l : List Int} (h : unwM s = some (p, l)) : lineT p l = s := by
  apply ext_bytes
  rw [lineT_list]
  unfold unwM at h
  split at h
  · rename_i hw
    cases hp : partsF 32 s.data.toList with
    | nil => exact absurd hp (partsF_ne _ _)
    | cons q qs =>
      have hB : partsB s = ⟨q.toArray⟩ :: qs.map fun l => ⟨l.toArray⟩ := by unfold partsB; rw [hp]; rfl
      rw [hB] at h
      dsimp only [List.headD_cons, List.tail_cons] at h
      cases hm : numsM (qs.map fun l => (⟨l.toArray⟩ : ByteArray)) with
      | none => rw [hm] at h; cases h
      | some l' =>
        rw [hm] at h
        cases h
        have h2 := numsM_text _ _ hm
        rw [List.map_map] at h2
        have h3 : qs = l.map fun x => Lib.decDigits x.toNat := by
          rw [← h2]
          exact (List.map_id qs).symm
        have h4 := parts_join 32 _ _ _ hp
        unfold tailL
        rw [h3] at h4
        rw [List.map_map] at h4
        rw [← h4]
        rfl
  · cases h
theorem word_no32 {p : ByteArray} (h : wordB p = true) : ∀ b ∈ p.data.toList, b ≠ 32 := by
  intro b hb e
  subst e
  unfold wordB at h
  simp only [Bool.and_eq_true, List.all_eq_true] at h
  have := h.2 _ hb
  revert this
  decide
theorem dec_no (u : Nat) (c : UInt8) (h : digB c = false) : ∀ b ∈ decDigits u, b ≠ c := by
  intro b hb e
  subst e
  have := dec_all u
  rw [List.all_eq_true] at this
  rw [this _ hb] at h
  cases h
/-- a line is read as what it says -/
theorem unw_line (p : ByteArray) (l : List Int) (hp : wordB p = true) (hl : ∀ x ∈ l, 0 ≤ x ∧ x ≤ 18446744073709551615) : unwM (lineT p l) = some (p, l) := by
  have h1 : partsF 32 (lineT p l).data.toList = p.data.toList :: l.map fun x => decDigits x.toNat := by
    rw [lineT_list]
    have := parts_of 32 (l.map fun x => decDigits x.toNat) p.data.toList (word_no32 hp) (fun q hq => by
      obtain ⟨x, _, rfl⟩ := List.mem_map.1 hq
      exact dec_no _ 32 (by decide))
    rw [List.map_map] at this
    exact this
  refine unwM_of (ps := l.map fun x => numT x.toNat) ?_ hp (numsM_of l hl)
  unfold partsB
  rw [h1, List.map_cons, List.map_map]
  rfl
theorem unw_word {s p : ByteArray} {l : List Int} (h : unwM s = some (p, l)) : wordB p = true := by
  unfold unwM at h
  split at h
  · rename_i hw
    cases hm : numsM (partsB s).tail with
    | none => rw [hm] at h; cases h
    | some l' => rw [hm] at h; cases h; exact hw
  · cases h

/-- the kind, stack and fuel that a line tells, by its words -/
def refUnlM (s : ByteArray) : Option (Int × Int × Int) :=
  match unwM s with
  | none => none
  | some (p, l) => if 1000000 < l.getLastD 1000001 then none else if p = srcW ∧ l.length = 1 then some (1, 0, l.getLastD 0) else if p = macW ∧ l.length = 2 then some (2, l.headD 0, l.getLastD 0) else if p = leakW ∧ l.length = 2 then some (3, l.headD 0, l.getLastD 0) else none
theorem asked_two (k : Int) (p s : ByteArray) (l : List Int) (st fu : Int) (hk : ∀ st fu, askedT k st fu = lineT p [st, fu]) (hp : wordB p = true) (hu : unwM s = some (p, l)) (h1 : 0 ≤ st ∧ st ≤ 18446744073709551615) (h2 : 0 ≤ fu ∧ fu ≤ 1000000) : askedT k st fu = s ↔ l = [st, fu] := by
  rw [hk]
  constructor
  · rintro rfl
    rw [unw_line p [st, fu] hp (by simp; omega)] at hu
    cases hu; rfl
  · rintro rfl; exact unw_text hu
theorem unlineM_eq (s : ByteArray) : unlineM s = refUnlM s := by
  unfold unlineM refUnlM
  cases hu : unwM s with
  | none => rfl
  | some pl =>
    obtain ⟨p, l⟩ := pl
    dsimp only
    have hr := unw_range hu
    have hw := unw_word hu
    by_cases h1 : p = srcW
    · subst h1
      rw [show kindM srcW = some 1 from by decide]
      dsimp only
      by_cases hl : ∃ f, l = [f]
      · obtain ⟨f, rfl⟩ := hl
        have hf := hr f (by simp)
        have e : readV 1 [f] = (0, min f 1000001) := rfl
        rw [e]
        dsimp only
        by_cases hf2 : f ≤ 1000000
        · have e2 : min f 1000001 = f := by omega
          rw [e2, if_pos ⟨by simp [mayV, hf2, hf.1], unw_text hu⟩, if_neg (by simp; omega), if_pos ⟨rfl, rfl⟩]
          rfl
        · have e2 : min f 1000001 = 1000001 := by omega
          rw [e2, if_neg (fun h => by have := h.1; revert this; decide), if_pos (by simp; omega)]
      · have e : readV 1 l = (0, 0) := by
          unfold readV
          rw [if_pos rfl]
          match l, hl with
          | [], _ => rfl
          | [f], hl => exact absurd ⟨f, rfl⟩ hl
          | _ :: _ :: _, _ => rfl
        rw [e]
        dsimp only
        rw [if_neg]
        · split
          · rfl
          · rw [if_neg (fun h => hl (List.length_eq_one_iff.1 h.2)), if_neg (fun h => by have := h.1; revert this; decide), if_neg (fun h => by have := h.1; revert this; decide)]
        · rintro ⟨_, h⟩
          have : unwM s = some (srcW, [0]) := by rw [← h]; exact unw_line srcW [0] (by decide) (by simp)
          rw [hu] at this
          cases this
          exact hl ⟨0, rfl⟩
    · have two : ∀ (k : Int), (k = 2 ∨ k = 3) → (∀ st fu, askedT k st fu = lineT p [st, fu]) →
          (if mayV k 0 0 (readV k l).1 (readV k l).2 true = true ∧ askedT k (readV k l).1 (readV k l).2 = s then some (k, (readV k l).1, (readV k l).2) else none) = (if 1000000 < l.getLastD 1000001 then none else if l.length = 2 then some (k, l.headD 0, l.getLastD 0) else none) := by
        intro k hk hask
        have hk1 : k ≠ 1 := by omega
        by_cases hl : ∃ a f, l = [a, f]
        · obtain ⟨a, f, rfl⟩ := hl
          have ha := hr a (by simp)
          have hf := hr f (by simp)
          have e : readV k [a, f] = (a, min f 1000001) := by unfold readV; rw [if_neg hk1]
          rw [e]
          dsimp only
          by_cases hf2 : f ≤ 1000000
          · have e2 : min f 1000001 = f := by omega
            rw [e2, if_pos ⟨by rcases hk with rfl | rfl <;> simp [mayV, hf2, hf.1], (asked_two k p s _ a f hask hw hu ha ⟨hf.1, hf2⟩).2 rfl⟩, if_neg (by simp; omega)]
            simp
          · have e2 : min f 1000001 = 1000001 := by omega
            rw [e2, if_neg (fun h => by have := h.1; unfold mayV at this; simp at this), if_pos (by simp; omega)]
        · have e : readV k l = (0, 0) := by
            unfold readV
            rw [if_neg hk1]
            match l, hl with
            | [], _ => rfl
            | [_], _ => rfl
            | [a, f], hl => exact absurd ⟨a, f, rfl⟩ hl
            | _ :: _ :: _ :: _, _ => rfl
          rw [e]
          dsimp only
          rw [if_neg]
          · split
            · rfl
            · rw [if_neg (fun h => hl ?_)]
              match l, h with
              | [a, f], _ => exact ⟨a, f, rfl⟩
          · rintro ⟨_, h⟩
            have := (asked_two k p s l 0 0 hask hw hu (by omega) (by omega)).1 h
            exact hl ⟨0, 0, this⟩
      by_cases h2 : p = macW
      · subst h2
        rw [show kindM macW = some 2 from by decide]
        dsimp only
        rw [two 2 (.inl rfl) (fun _ _ => rfl)]
        simp only [if_neg (fun h : macW = srcW ∧ l.length = 1 => h1 h.1), true_and, show ¬ (macW = leakW) from by decide, false_and, if_false]
      · by_cases h3 : p = leakW
        · subst h3
          rw [show kindM leakW = some 3 from by decide]
          dsimp only
          rw [two 3 (.inr rfl) (fun _ _ => rfl)]
          simp only [if_neg (fun h : leakW = srcW ∧ l.length = 1 => h1 h.1), if_neg (fun h : leakW = macW ∧ l.length = 2 => h2 h.1), true_and]
        · have : kindM p = none := by unfold kindM; rw [if_neg h1, if_neg h2, if_neg h3]
          rw [this]
          dsimp only
          by_cases hq : 1000000 < l.getLastD 1000001
          · rw [if_pos hq]
          · rw [if_neg hq, if_neg (fun h => h1 h.1), if_neg (fun h => h2 h.1), if_neg (fun h => h3 h.1)]
end Go.Proofs.YtkbmckmlnphpmaaGreatDoor
namespace Go.Proofs.YtkbmckmlnphpmaaGreatDoor
open Go.RowKit Go.Lib Go.Shelf

def RUnlPost (s : ByteArray) (w : World) (e : Ending) (w' : World) : Prop :=
  (unlineM s = none → e = .returned (.tuple #[.agg zAsk, .bool false])) ∧ (∀ k st fu, unlineM s = some (k, st, fu) → e = .returned (.tuple #[.agg #[.int .i64 k, .slice none 0 0, .slice none 0 0, .int .u64 st, .int .i64 fu], .bool true])) ∧ Below w.heap.size w w'
theorem refUnl_hk (s p : ByteArray) (l : List Int) (w : World) (Z : Array Value) (hs : s.size ≤ 2000000) (hu : unwM s = some (p, l)) :
    Calls Tryz.prog 19 #[.string s] (w.alloc (.cells Z 42)) fun e w' => ∃ A c, e = .returned (.tuple #[.string p, .slice A l.length c, .bool true]) ∧ WAt w' A l ∧ Below (w.alloc (.cells Z 42)).heap.size (w.alloc (.cells Z 42)) w' :=
  (refUnwords_any s (w.alloc (.cells Z 42)) hs).mono fun e w' h => by
    obtain ⟨A, c, h1, h2⟩ := h.2.1 p l hu
    exact ⟨A, c, h1, h2.wat, h.2.2⟩

set_option maxRecDepth 100000 in
set_option maxHeartbeats 2000000 in
theorem refUnline_none (s : ByteArray) (w : World) (hs : s.size ≤ 2000000) (hu : unwM s = none) : Calls Tryz.prog 22 #[.string s] w (RUnlPost s w) := by
  have hm := Lib.hid (show unlineM s = none by unfold unlineM; rw [hu])
  have hb0 := Lib.hid ((Below.refl w.heap.size w).alloc (Nat.le_refl _) (.cells zAsk 42))
  have hk := Lib.hid ((refUnwords_any s (w.alloc (.cells zAsk 42)) hs).mono fun e w' h => (show e = .returned (.tuple #[.string ⟨#[]⟩, .slice none 0 0, .bool false]) ∧ Below (w.alloc (.cells zAsk 42)).heap.size (w.alloc (.cells zAsk 42)) w' from ⟨h.1 hu, h.2.2⟩))
  clear hu hs
  unfold zAsk at hb0 hk
  go_enter Tryz.func22, Tryz.ntmps22
  go_wp2_with fail
  refine hk.out.mono ?_
  rintro e w1 ⟨rfl, hb1⟩
  obtain ⟨g0, g1, g2, g3, g4, gf⟩ := box5 (box_kept w _ hb1)
  have hsz := hb1.size
  have hsz2 : w.heap.size < w1.heap.size := by simp at hsz; omega
  have hfin := Lib.hid (hb0.out.trans (hb1.mono hb0.out.size))
  clear hb1 hsz
  go_wp2_with fail
  refine bodyPost_ret (v := .tuple #[.agg zAsk, .bool false]) (by simp [results, Tryz.results22, go_sem, zAsk, g0, g1, g2, g3, g4]) rfl ⟨fun _ => rfl, fun k st fu h => ?_, ?_⟩
  · rw [hm.out] at h; cases h
  · repeat (first | with_reducible exact hfin.out | with_reducible refine Below.alloc ?_ (by simp; omega) _ | with_reducible refine Below.setCell ?_ (by simp) _)
set_option maxRecDepth 100000 in
set_option maxHeartbeats 2000000 in
theorem refUnline_empty (s p : ByteArray) (w : World) (hs : s.size ≤ 2000000) (hu : unwM s = some (p, [])) : Calls Tryz.prog 22 #[.string s] w (RUnlPost s w) := by
  have hm := Lib.hid (show unlineM s = none by rw [unlineM_eq]; unfold refUnlM; rw [hu]; rfl)
  have hb0 := Lib.hid ((Below.refl w.heap.size w).alloc (Nat.le_refl _) (.cells zAsk 42))
  have hk := Lib.hid (show Calls Tryz.prog 19 #[.string s] (w.alloc (.cells zAsk 42)) fun e w' => ∃ A c, e = .returned (.tuple #[.string p, .slice A 0 c, .bool true]) ∧ WAt w' A [] ∧ Below (w.alloc (.cells zAsk 42)).heap.size (w.alloc (.cells zAsk 42)) w' from refUnl_hk s p [] w zAsk hs hu)
  clear hu hs
  unfold zAsk at hb0 hk
  go_enter Tryz.func22, Tryz.ntmps22
  go_wp2_with fail
  refine hk.out.mono ?_
  rintro e w1 ⟨A, c, rfl, hA, hb1⟩
  obtain ⟨g0, g1, g2, g3, g4, gf⟩ := box5 (box_kept w _ hb1)
  have hsz := hb1.size
  have hsz2 : w.heap.size < w1.heap.size := by simp at hsz; omega
  have hfin := Lib.hid (hb0.out.trans (hb1.mono hb0.out.size))
  clear hb1 hsz hA
  go_wp2_with fail
  refine bodyPost_ret (v := .tuple #[.agg zAsk, .bool false]) (by simp [results, Tryz.results22, go_sem, zAsk, g0, g1, g2, g3, g4]) rfl ⟨fun _ => rfl, fun k st fu h => ?_, ?_⟩
  · rw [hm.out] at h; cases h
  · repeat (first | with_reducible exact hfin.out | with_reducible refine Below.alloc ?_ (by simp; omega) _ | with_reducible refine Below.setCell ?_ (by simp) _)
set_option maxRecDepth 100000 in
set_option maxHeartbeats 2000000 in
theorem refUnline_big (s p : ByteArray) (l : List Int) (n : Nat) (x : Int) (w : World) (hs : s.size ≤ 2000000) (hu : unwM s = some (p, l)) (hn : l.length = n + 1) (hx : l[n]? = some x) (hbig : 1000000 < x) (hm : unlineM s = none) : Calls Tryz.prog 22 #[.string s] w (RUnlPost s w) := by
  have hm' := Lib.hid hm
  have hb0 := Lib.hid ((Below.refl w.heap.size w).alloc (Nat.le_refl _) (.cells zAsk 42))
  have hk := Lib.hid (refUnl_hk s p l w zAsk hs hu)
  have hn' := Lib.hid hn
  have hx' := Lib.hid hx
  rw [hn] at hk
  have hn1 : n ≤ 2000000 := by have := unw_len hu; omega
  clear hu hn hx hm hs
  unfold zAsk at hb0 hk
  go_enter Tryz.func22, Tryz.ntmps22
  go_wp2_with fail
  refine hk.out.mono ?_
  rintro e w1 ⟨A, c, rfl, hA, hb1⟩
  obtain ⟨blk, off, x', rfl, hxx, cx, x0, x1⟩ := hA.at_ (k := n) (by rw [hn'.out]; omega)
  rw [hx'.out] at hxx
  cases hxx
  obtain ⟨g0, g1, g2, g3, g4, gf⟩ := box5 (box_kept w _ hb1)
  have hsz := hb1.size
  have hsz2 : w.heap.size < w1.heap.size := by simp at hsz; omega
  have hfin := Lib.hid (hb0.out.trans (hb1.mono hb0.out.size))
  have e0 : ¬ (((n + 1 : Nat) : Int) < 1) := by omega
  clear hb1 hsz hA
  go_wp2_with fail
  refine bodyPost_ret (v := .tuple #[.agg zAsk, .bool false]) (by simp [results, Tryz.results22, go_sem, zAsk, g0, g1, g2, g3, g4]) rfl ⟨fun _ => rfl, fun k st fu h => ?_, ?_⟩
  · rw [hm'.out] at h; cases h
  · repeat (first | with_reducible exact hfin.out | with_reducible refine Below.alloc ?_ (by simp; omega) _ | with_reducible refine Below.setCell ?_ (by simp) _)
end Go.Proofs.YtkbmckmlnphpmaaGreatDoor
namespace Go.Proofs.YtkbmckmlnphpmaaGreatDoor
open Go.RowKit Go.Lib Go.Shelf

set_option maxRecDepth 100000 in
set_option maxHeartbeats 2000000 in
theorem refUnline_other (s : ByteArray) (p : ByteArray) (k1 : ¬ p.toList = [115, 111, 117, 114, 99, 101]) (k2 : ¬ p.toList = [109, 97, 99, 104, 105, 110, 101]) (k3 : ¬ p.toList = [108, 101, 97, 107]) (l : List Int) (n : Nat) (x : Int) (w : World) (hs : s.size ≤ 2000000) (hu : unwM s = some (p, l)) (hn : l.length = n + 1) (hx : l[n]? = some x) (hbig : ¬ 1000000 < x)
    (hm : unlineM s = none)  : Calls Tryz.prog 22 #[.string s] w (RUnlPost s w) := by
  have hm' := Lib.hid hm
  have hb0 := Lib.hid ((Below.refl w.heap.size w).alloc (Nat.le_refl _) (.cells zAsk 42))
  have hk := Lib.hid (refUnl_hk s p l w zAsk hs hu)
  have hn' := Lib.hid hn
  have hx' := Lib.hid hx
  rw [hn] at hk
  have hn1 : n ≤ 2000000 := by have := unw_len hu; omega
  clear hu hn hx hm
  unfold zAsk at hb0 hk
  go_enter Tryz.func22, Tryz.ntmps22
  go_wp2_with fail
  refine hk.out.mono ?_
  rintro e w1 ⟨A, c, rfl, hA, hb1⟩
  obtain ⟨blk, off, x', rfl, hxx, cx, x0, x1⟩ := hA.at_ (k := n) (by rw [hn'.out]; omega)
  rw [hx'.out] at hxx
  cases hxx
  have hw : IntKind.i64.wrap x = x := by rw [IntKind.wrap_i64]; omega
  obtain ⟨g0, g1, g2, g3, g4, gf⟩ := box5 (box_kept w _ hb1)
  have hsz := hb1.size
  have hsz2 : w.heap.size < w1.heap.size := by simp at hsz; omega
  have hfin := Lib.hid (hb0.out.trans (hb1.mono hb0.out.size))
  clear hb1 hsz hA
  have e0 : ¬ (((n + 1 : Nat) : Int) < 1) := by omega
  have ha : ∀ (W : World) (o : Obj) (k : Nat), W.heap.size = w1.heap.size → (W.alloc o).cell? ⟨w.heap.size, k, none⟩ = W.cell? ⟨w.heap.size, k, none⟩ := fun W o k h => World.cell?_alloc_past o _ _ (by omega)
  go_wp2_with fail
  refine bodyPost_ret (v := .tuple #[.agg zAsk, .bool false]) (by simp [results, Tryz.results22, go_sem, zAsk, ha, g0, g1, g2, g3, g4]) rfl ⟨fun _ => rfl, fun k st fu h => ?_, ?_⟩
  · rw [hm'.out] at h; cases h
  · repeat (first | with_reducible exact hfin.out | with_reducible refine Below.alloc ?_ (by simp; omega) _ | with_reducible refine Below.setCell ?_ (by simp) _)

set_option maxRecDepth 100000 in
set_option maxHeartbeats 2000000 in
theorem refUnline_src_no (s : ByteArray)  (l : List Int) (n : Nat) (x : Int) (w : World) (hs : s.size ≤ 2000000) (hu : unwM s = some (srcW, l)) (hn : l.length = n + 1) (hx : l[n]? = some x) (hbig : ¬ 1000000 < x)
    (hm : unlineM s = none) (hq : n ≠ 0) : Calls Tryz.prog 22 #[.string s] w (RUnlPost s w) := by
  have hm' := Lib.hid hm
  have hb0 := Lib.hid ((Below.refl w.heap.size w).alloc (Nat.le_refl _) (.cells zAsk 42))
  have hk := Lib.hid (refUnl_hk s srcW l w zAsk hs hu)
  have hn' := Lib.hid hn
  have hx' := Lib.hid hx
  rw [hn] at hk
  have hwd : srcW = ⟨#[115, 111, 117, 114, 99, 101]⟩ := rfl
  rw [hwd] at hk
  have hn1 : n ≤ 2000000 := by have := unw_len hu; omega
  have hq1 : (((n + 1 : Nat) : Int) == 1) = false := by simp; omega
  clear hu hn hx hm
  unfold zAsk at hb0 hk
  go_enter Tryz.func22, Tryz.ntmps22
  go_wp2_with fail
  refine hk.out.mono ?_
  rintro e w1 ⟨A, c, rfl, hA, hb1⟩
  obtain ⟨blk, off, x', rfl, hxx, cx, x0, x1⟩ := hA.at_ (k := n) (by rw [hn'.out]; omega)
  rw [hx'.out] at hxx
  cases hxx
  have hw : IntKind.i64.wrap x = x := by rw [IntKind.wrap_i64]; omega
  obtain ⟨g0, g1, g2, g3, g4, gf⟩ := box5 (box_kept w _ hb1)
  have hsz := hb1.size
  have hsz2 : w.heap.size < w1.heap.size := by simp at hsz; omega
  have hfin := Lib.hid (hb0.out.trans (hb1.mono hb0.out.size))
  clear hb1 hsz hA
  have e0 : ¬ (((n + 1 : Nat) : Int) < 1) := by omega
  have ha : ∀ (W : World) (o : Obj) (k : Nat), W.heap.size = w1.heap.size → (W.alloc o).cell? ⟨w.heap.size, k, none⟩ = W.cell? ⟨w.heap.size, k, none⟩ := fun W o k h => World.cell?_alloc_past o _ _ (by omega)
  go_wp2_with fail
  refine bodyPost_ret (v := .tuple #[.agg zAsk, .bool false]) (by simp [results, Tryz.results22, go_sem, zAsk, ha, g0, g1, g2, g3, g4]) rfl ⟨fun _ => rfl, fun k st fu h => ?_, ?_⟩
  · rw [hm'.out] at h; cases h
  · repeat (first | with_reducible exact hfin.out | with_reducible refine Below.alloc ?_ (by simp; omega) _ | with_reducible refine Below.setCell ?_ (by simp) _)

set_option maxRecDepth 100000 in
set_option maxHeartbeats 2000000 in
theorem refUnline_mac_no (s : ByteArray)  (l : List Int) (n : Nat) (x : Int) (w : World) (hs : s.size ≤ 2000000) (hu : unwM s = some (macW, l)) (hn : l.length = n + 1) (hx : l[n]? = some x) (hbig : ¬ 1000000 < x)
    (hm : unlineM s = none) (hq : n ≠ 1) : Calls Tryz.prog 22 #[.string s] w (RUnlPost s w) := by
  have hm' := Lib.hid hm
  have hb0 := Lib.hid ((Below.refl w.heap.size w).alloc (Nat.le_refl _) (.cells zAsk 42))
  have hk := Lib.hid (refUnl_hk s macW l w zAsk hs hu)
  have hn' := Lib.hid hn
  have hx' := Lib.hid hx
  rw [hn] at hk
  have hwd : macW = ⟨#[109, 97, 99, 104, 105, 110, 101]⟩ := rfl
  rw [hwd] at hk
  have hn1 : n ≤ 2000000 := by have := unw_len hu; omega
  have hq1 : (((n + 1 : Nat) : Int) == 2) = false := by simp; omega
  clear hu hn hx hm
  unfold zAsk at hb0 hk
  go_enter Tryz.func22, Tryz.ntmps22
  go_wp2_with fail
  refine hk.out.mono ?_
  rintro e w1 ⟨A, c, rfl, hA, hb1⟩
  obtain ⟨blk, off, x', rfl, hxx, cx, x0, x1⟩ := hA.at_ (k := n) (by rw [hn'.out]; omega)
  rw [hx'.out] at hxx
  cases hxx
  have hw : IntKind.i64.wrap x = x := by rw [IntKind.wrap_i64]; omega
  obtain ⟨g0, g1, g2, g3, g4, gf⟩ := box5 (box_kept w _ hb1)
  have hsz := hb1.size
  have hsz2 : w.heap.size < w1.heap.size := by simp at hsz; omega
  have hfin := Lib.hid (hb0.out.trans (hb1.mono hb0.out.size))
  clear hb1 hsz hA
  have e0 : ¬ (((n + 1 : Nat) : Int) < 1) := by omega
  have ha : ∀ (W : World) (o : Obj) (k : Nat), W.heap.size = w1.heap.size → (W.alloc o).cell? ⟨w.heap.size, k, none⟩ = W.cell? ⟨w.heap.size, k, none⟩ := fun W o k h => World.cell?_alloc_past o _ _ (by omega)
  go_wp2_with fail
  refine bodyPost_ret (v := .tuple #[.agg zAsk, .bool false]) (by simp [results, Tryz.results22, go_sem, zAsk, ha, g0, g1, g2, g3, g4]) rfl ⟨fun _ => rfl, fun k st fu h => ?_, ?_⟩
  · rw [hm'.out] at h; cases h
  · repeat (first | with_reducible exact hfin.out | with_reducible refine Below.alloc ?_ (by simp; omega) _ | with_reducible refine Below.setCell ?_ (by simp) _)

set_option maxRecDepth 100000 in
set_option maxHeartbeats 2000000 in
theorem refUnline_leak_no (s : ByteArray)  (l : List Int) (n : Nat) (x : Int) (w : World) (hs : s.size ≤ 2000000) (hu : unwM s = some (leakW, l)) (hn : l.length = n + 1) (hx : l[n]? = some x) (hbig : ¬ 1000000 < x)
    (hm : unlineM s = none) (hq : n ≠ 1) : Calls Tryz.prog 22 #[.string s] w (RUnlPost s w) := by
  have hm' := Lib.hid hm
  have hb0 := Lib.hid ((Below.refl w.heap.size w).alloc (Nat.le_refl _) (.cells zAsk 42))
  have hk := Lib.hid (refUnl_hk s leakW l w zAsk hs hu)
  have hn' := Lib.hid hn
  have hx' := Lib.hid hx
  rw [hn] at hk
  have hwd : leakW = ⟨#[108, 101, 97, 107]⟩ := rfl
  rw [hwd] at hk
  have hn1 : n ≤ 2000000 := by have := unw_len hu; omega
  have hq1 : (((n + 1 : Nat) : Int) == 2) = false := by simp; omega
  clear hu hn hx hm
  unfold zAsk at hb0 hk
  go_enter Tryz.func22, Tryz.ntmps22
  go_wp2_with fail
  refine hk.out.mono ?_
  rintro e w1 ⟨A, c, rfl, hA, hb1⟩
  obtain ⟨blk, off, x', rfl, hxx, cx, x0, x1⟩ := hA.at_ (k := n) (by rw [hn'.out]; omega)
  rw [hx'.out] at hxx
  cases hxx
  have hw : IntKind.i64.wrap x = x := by rw [IntKind.wrap_i64]; omega
  obtain ⟨g0, g1, g2, g3, g4, gf⟩ := box5 (box_kept w _ hb1)
  have hsz := hb1.size
  have hsz2 : w.heap.size < w1.heap.size := by simp at hsz; omega
  have hfin := Lib.hid (hb0.out.trans (hb1.mono hb0.out.size))
  clear hb1 hsz hA
  have e0 : ¬ (((n + 1 : Nat) : Int) < 1) := by omega
  have ha : ∀ (W : World) (o : Obj) (k : Nat), W.heap.size = w1.heap.size → (W.alloc o).cell? ⟨w.heap.size, k, none⟩ = W.cell? ⟨w.heap.size, k, none⟩ := fun W o k h => World.cell?_alloc_past o _ _ (by omega)
  go_wp2_with fail
  refine bodyPost_ret (v := .tuple #[.agg zAsk, .bool false]) (by simp [results, Tryz.results22, go_sem, zAsk, ha, g0, g1, g2, g3, g4]) rfl ⟨fun _ => rfl, fun k st fu h => ?_, ?_⟩
  · rw [hm'.out] at h; cases h
  · repeat (first | with_reducible exact hfin.out | with_reducible refine Below.alloc ?_ (by simp; omega) _ | with_reducible refine Below.setCell ?_ (by simp) _)

set_option maxRecDepth 100000 in
set_option maxHeartbeats 2000000 in
theorem refUnline_src (s : ByteArray) (x : Int) (w : World) (hs : s.size ≤ 2000000) (hu : unwM s = some (srcW, [x])) (hbig : ¬ 1000000 < x) : Calls Tryz.prog 22 #[.string s] w (RUnlPost s w) := by
  have hm' := Lib.hid (show unlineM s = some (1, 0, x) by rw [unlineM_eq]; unfold refUnlM; rw [hu]; dsimp only; rw [if_neg (show ¬ 1000000 < ([x] : List Int).getLastD 1000001 from hbig)]; rfl)
  have hr := unw_range hu
  have hx := hr x (by simp)
  have hb0 := Lib.hid ((Below.refl w.heap.size w).alloc (Nat.le_refl _) (.cells zAsk 42))
  have hk := Lib.hid (refUnl_hk s srcW [x] w zAsk hs hu)
  have hwd : srcW = ⟨#[115, 111, 117, 114, 99, 101]⟩ := rfl
  rw [hwd, show ([x] : List Int).length = 1 from rfl] at hk
  clear hu hr hwd
  unfold zAsk at hb0 hk
  go_enter Tryz.func22, Tryz.ntmps22
  go_wp2_with fail
  refine hk.out.mono ?_
  rintro e w1 ⟨A, c, rfl, hA, hb1⟩
  obtain ⟨blk, off, rfl, hc⟩ := hA.2 (by simp)
  have cx : w1.cell? ⟨blk, off, none⟩ = some (.int .u64 x) := hc 0 x rfl
  have hw : IntKind.i64.wrap x = x := by rw [IntKind.wrap_i64]; omega
  obtain ⟨g0, g1, g2, g3, g4, gf⟩ := box5 (box_kept w _ hb1)
  have hsz := hb1.size
  have hsz2 : w.heap.size < w1.heap.size := by simp at hsz; omega
  have hfin := Lib.hid (hb0.out.trans (hb1.mono hb0.out.size))
  clear hb1 hsz hA hc
  have ha : ∀ (W : World) (o : Obj) (k : Nat), W.heap.size = w1.heap.size → (W.alloc o).cell? ⟨w.heap.size, k, none⟩ = W.cell? ⟨w.heap.size, k, none⟩ := fun W o k h => World.cell?_alloc_past o _ _ (by omega)
  go_wp2_with fail
  refine bodyPost_ret (v := .tuple #[.agg #[.int .i64 1, .slice none 0 0, .slice none 0 0, .int .u64 0, .int .i64 x], .bool true]) (by simp [results, Tryz.results22, go_sem, ha, g0, g1, g2, g3, g4]) rfl ⟨fun h => ?_, fun k st fu h => ?_, ?_⟩
  · rw [hm'.out] at h; cases h
  · rw [hm'.out] at h; cases h; rfl
  · repeat (first | with_reducible exact hfin.out | with_reducible refine Below.alloc ?_ (by simp; omega) _ | with_reducible refine Below.setCell ?_ (by simp; omega) _ | with_reducible refine Below.setCell ?_ (by simp) _ | with_reducible refine Below.drew ?_)

set_option maxRecDepth 100000 in
set_option maxHeartbeats 2000000 in
theorem refUnline_mac (s : ByteArray) (a x : Int) (w : World) (hs : s.size ≤ 2000000) (hu : unwM s = some (macW, [a, x])) (hbig : ¬ 1000000 < x) : Calls Tryz.prog 22 #[.string s] w (RUnlPost s w) := by
  have hm' := Lib.hid (show unlineM s = some (2, a, x) by rw [unlineM_eq]; unfold refUnlM; rw [hu]; dsimp only; rw [if_neg (show ¬ 1000000 < ([a, x] : List Int).getLastD 1000001 from hbig)]; rfl)
  have hr := unw_range hu
  have hx := hr x (by simp)
  have hb0 := Lib.hid ((Below.refl w.heap.size w).alloc (Nat.le_refl _) (.cells zAsk 42))
  have hk := Lib.hid (refUnl_hk s macW [a, x] w zAsk hs hu)
  have hwd : macW = ⟨#[109, 97, 99, 104, 105, 110, 101]⟩ := rfl
  rw [hwd, show ([a, x] : List Int).length = 2 from rfl] at hk
  clear hu hr hwd
  unfold zAsk at hb0 hk
  go_enter Tryz.func22, Tryz.ntmps22
  go_wp2_with fail
  refine hk.out.mono ?_
  rintro e w1 ⟨A, c, rfl, hA, hb1⟩
  obtain ⟨blk, off, rfl, hc⟩ := hA.2 (by simp)
  have cx : w1.cell? ⟨blk, off + 1, none⟩ = some (.int .u64 x) := hc 1 x rfl
  have ca : w1.cell? ⟨blk, off, none⟩ = some (.int .u64 a) := hc 0 a rfl
  have hbl : blk < w1.heap.size := cell_some_lt cx
  have cxm : ∀ (W : World) (o : Obj) (k : Nat), W.heap.size = w1.heap.size → (W.alloc o).cell? ⟨blk, k, none⟩ = W.cell? ⟨blk, k, none⟩ := fun W o k h => World.cell?_alloc_past o _ _ (by omega)
  have hw : IntKind.i64.wrap x = x := by rw [IntKind.wrap_i64]; omega
  obtain ⟨g0, g1, g2, g3, g4, gf⟩ := box5 (box_kept w _ hb1)
  have hsz := hb1.size
  have hsz2 : w.heap.size < w1.heap.size := by simp at hsz; omega
  have hfin := Lib.hid (hb0.out.trans (hb1.mono hb0.out.size))
  clear hb1 hsz hA hc
  have ha : ∀ (W : World) (o : Obj) (k : Nat), W.heap.size = w1.heap.size → (W.alloc o).cell? ⟨w.heap.size, k, none⟩ = W.cell? ⟨w.heap.size, k, none⟩ := fun W o k h => World.cell?_alloc_past o _ _ (by omega)
  go_wp2_with fail
  have cat : ∀ (W : World), W.cell? ⟨blk, off, none⟩ = some (.int .u64 a) → True := fun _ _ => trivial
  trace_state
  go_region
  go_wp2_with fail
  refine bodyPost_ret (v := .tuple #[.agg #[.int .i64 2, .slice none 0 0, .slice none 0 0, .int .u64 a, .int .i64 x], .bool true]) (by simp [results, Tryz.results22, go_sem, ha, g0, g1, g2, g3, g4]) rfl ⟨fun h => ?_, fun k st fu h => ?_, ?_⟩
  · rw [hm'.out] at h; cases h
  · rw [hm'.out] at h; cases h; rfl
  · repeat (first | with_reducible exact hfin.out | with_reducible refine Below.alloc ?_ (by simp; omega) _ | with_reducible refine Below.setCell ?_ (by simp; omega) _ | with_reducible refine Below.setCell ?_ (by simp) _ | with_reducible refine Below.drew ?_)

set_option maxRecDepth 100000 in
set_option maxHeartbeats 2000000 in
theorem refUnline_leak (s : ByteArray) (a x : Int) (w : World) (hs : s.size ≤ 2000000) (hu : unwM s = some (leakW, [a, x])) (hbig : ¬ 1000000 < x) : Calls Tryz.prog 22 #[.string s] w (RUnlPost s w) := by
  have hm' := Lib.hid (show unlineM s = some (3, a, x) by rw [unlineM_eq]; unfold refUnlM; rw [hu]; dsimp only; rw [if_neg (show ¬ 1000000 < ([a, x] : List Int).getLastD 1000001 from hbig)]; rfl)
  have hr := unw_range hu
  have hx := hr x (by simp)
  have hb0 := Lib.hid ((Below.refl w.heap.size w).alloc (Nat.le_refl _) (.cells zAsk 42))
  have hk := Lib.hid (refUnl_hk s leakW [a, x] w zAsk hs hu)
  have hwd : leakW = ⟨#[108, 101, 97, 107]⟩ := rfl
  rw [hwd, show ([a, x] : List Int).length = 2 from rfl] at hk
  clear hu hr hwd
  unfold zAsk at hb0 hk
  go_enter Tryz.func22, Tryz.ntmps22
  go_wp2_with fail
  refine hk.out.mono ?_
  rintro e w1 ⟨A, c, rfl, hA, hb1⟩
  obtain ⟨blk, off, rfl, hc⟩ := hA.2 (by simp)
  have cx : w1.cell? ⟨blk, off + 1, none⟩ = some (.int .u64 x) := hc 1 x rfl
  have ca : w1.cell? ⟨blk, off, none⟩ = some (.int .u64 a) := hc 0 a rfl
  have hbl : blk < w1.heap.size := cell_some_lt cx
  have cxm : ∀ (W : World) (o : Obj) (k : Nat), W.heap.size = w1.heap.size → (W.alloc o).cell? ⟨blk, k, none⟩ = W.cell? ⟨blk, k, none⟩ := fun W o k h => World.cell?_alloc_past o _ _ (by omega)
  have hw : IntKind.i64.wrap x = x := by rw [IntKind.wrap_i64]; omega
  obtain ⟨g0, g1, g2, g3, g4, gf⟩ := box5 (box_kept w _ hb1)
  have hsz := hb1.size
  have hsz2 : w.heap.size < w1.heap.size := by simp at hsz; omega
  have hfin := Lib.hid (hb0.out.trans (hb1.mono hb0.out.size))
  clear hb1 hsz hA hc
  have ha : ∀ (W : World) (o : Obj) (k : Nat), W.heap.size = w1.heap.size → (W.alloc o).cell? ⟨w.heap.size, k, none⟩ = W.cell? ⟨w.heap.size, k, none⟩ := fun W o k h => World.cell?_alloc_past o _ _ (by omega)
  go_wp2_with fail
  have cat : ∀ (W : World), W.cell? ⟨blk, off, none⟩ = some (.int .u64 a) → True := fun _ _ => trivial
  trace_state
  go_region
  go_wp2_with fail
  refine bodyPost_ret (v := .tuple #[.agg #[.int .i64 3, .slice none 0 0, .slice none 0 0, .int .u64 a, .int .i64 x], .bool true]) (by simp [results, Tryz.results22, go_sem, ha, g0, g1, g2, g3, g4]) rfl ⟨fun h => ?_, fun k st fu h => ?_, ?_⟩
  · rw [hm'.out] at h; cases h
  · rw [hm'.out] at h; cases h; rfl
  · repeat (first | with_reducible exact hfin.out | with_reducible refine Below.alloc ?_ (by simp; omega) _ | with_reducible refine Below.setCell ?_ (by simp; omega) _ | with_reducible refine Below.setCell ?_ (by simp) _ | with_reducible refine Below.drew ?_)

end Go.Proofs.YtkbmckmlnphpmaaGreatDoor
namespace Go.Proofs.YtkbmckmlnphpmaaGreatDoor
open Go.RowKit Go.Lib Go.Shelf

theorem lastD_of {l : List Int} {n : Nat} {x : Int} (hn : l.length = n + 1) (hx : l[n]? = some x) (d : Int) : l.getLastD d = x := by
  rw [List.getLastD_eq_getLast?, List.getLast?_eq_getElem?, hn, Nat.add_sub_cancel, hx]; rfl
theorem refUnline_any (s : ByteArray) (w : World) (hs : s.size ≤ 2000000) : Calls Tryz.prog 22 #[.string s] w (RUnlPost s w) := by
  cases hu : unwM s with
  | none => exact refUnline_none s w hs hu
  | some pl =>
    obtain ⟨p, l⟩ := pl
    rcases Nat.eq_zero_or_pos l.length with h0 | h0
    · have : l = [] := List.length_eq_zero_iff.1 h0
      subst this
      exact refUnline_empty s p w hs hu
    · obtain ⟨n, hn⟩ : ∃ n, l.length = n + 1 := ⟨l.length - 1, by omega⟩
      obtain ⟨x, hx⟩ : ∃ x, l[n]? = some x := ⟨_, List.getElem?_eq_getElem (by omega)⟩
      have hlast := fun d => lastD_of hn hx d
      have hm : ∀ v, refUnlM s = v → unlineM s = v := fun v h => by rw [unlineM_eq, h]
      by_cases hbig : 1000000 < x
      · exact refUnline_big s p l n x w hs hu hn hx hbig (hm _ (by unfold refUnlM; rw [hu]; dsimp only; rw [hlast, if_pos hbig]))
      · have hnb : ∀ v, (if p = srcW ∧ l.length = 1 then some ((1 : Int), (0 : Int), l.getLastD 0) else if p = macW ∧ l.length = 2 then some (2, l.headD 0, l.getLastD 0) else if p = leakW ∧ l.length = 2 then some (3, l.headD 0, l.getLastD 0) else none) = v → unlineM s = v := fun v h => hm v (by unfold refUnlM; rw [hu]; dsimp only; rw [hlast, if_neg hbig]; exact h)
        have two : ∀ {l : List Int}, l.length = 2 → ∃ a b, l = [a, b] := fun {l} h => by
          match l, h with
          | [a, b], _ => exact ⟨a, b, rfl⟩
        by_cases h1 : p = srcW
        · subst h1
          by_cases hq : n = 0
          · subst hq
            obtain ⟨y, rfl⟩ := List.length_eq_one_iff.1 hn
            cases hx
            exact refUnline_src s x w hs hu hbig
          · exact refUnline_src_no s l n x w hs hu hn hx hbig (hnb _ (by rw [if_neg (by rintro ⟨_, h⟩; omega), if_neg (by rintro ⟨h, _⟩; revert h; decide), if_neg (by rintro ⟨h, _⟩; revert h; decide)])) hq
        · by_cases h2 : p = macW
          · subst h2
            by_cases hq : n = 1
            · subst hq
              obtain ⟨a, b, rfl⟩ := two hn
              cases hx
              exact refUnline_mac s a x w hs hu hbig
            · exact refUnline_mac_no s l n x w hs hu hn hx hbig (hnb _ (by rw [if_neg (by rintro ⟨h, _⟩; exact h1 h), if_neg (by rintro ⟨_, h⟩; omega), if_neg (by rintro ⟨h, _⟩; revert h; decide)])) hq
          · by_cases h3 : p = leakW
            · subst h3
              by_cases hq : n = 1
              · subst hq
                obtain ⟨a, b, rfl⟩ := two hn
                cases hx
                exact refUnline_leak s a x w hs hu hbig
              · exact refUnline_leak_no s l n x w hs hu hn hx hbig (hnb _ (by rw [if_neg (by rintro ⟨h, _⟩; exact h1 h), if_neg (by rintro ⟨h, _⟩; exact h2 h), if_neg (by rintro ⟨_, h⟩; omega)])) hq
            · have ne : ∀ {q : ByteArray}, p ≠ q → ¬ p.toList = q.data.toList := fun {q} h e => h (ext_bytes (by rw [← e, ByteArray.toList_eq]))
              exact refUnline_other s p (ne h1) (ne h2) (ne h3) l n x w hs hu hn hx hbig (hnb _ (by rw [if_neg (by rintro ⟨h, _⟩; exact h1 h), if_neg (by rintro ⟨h, _⟩; exact h2 h), if_neg (by rintro ⟨h, _⟩; exact h3 h)]))
end Go.Proofs.YtkbmckmlnphpmaaGreatDoor
