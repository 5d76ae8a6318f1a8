/- An expression's text tells which expression it is. Lines tell which statements, and which program, they are. A program's text tells which program it is. -/
import Derived.Test.YtnahgfdoiflacaaGreatDoorDW
import Derived.Test.YtnahgfdoiflacaaGreatDoorDN
set_option linter.unusedSimpArgs false
set_option linter.unusedVariables false
namespace Go.Proofs.YtnahgfdoiflacaaGreatDoor
open Go.RowKit Go.Lib Go.Shelf

/-- what stands behind an expression -/
def StopB (r : List UInt8) : Prop := ∀ b, r.head? = some b → partB b = false ∧ b ≠ 91
theorem StopB.part {r : List UInt8} (h : StopB r) : ∀ b, r.head? = some b → partB b = false := fun b hb => (h b hb).1
theorem stop_cons {c : UInt8} {r : List UInt8} (h : partB c = false ∧ c ≠ 91) : StopB (c :: r) := fun b hb => by
  obtain rfl : c = b := by simpa using hb
  exact h
theorem head_cons_part {c : UInt8} {r : List UInt8} (h : partB c = false) : ∀ b, (c :: r).head? = some b → partB b = false := fun b hb => by
  obtain rfl : c = b := by simpa using hb
  exact h
theorem span_pre : ∀ {a b r s : List UInt8}, (∀ x ∈ a, partB x = true) → (∀ x ∈ b, partB x = true) → (∀ x, r.head? = some x → partB x = false) → (∀ x, s.head? = some x → partB x = false) → a ++ r = b ++ s → a = b ∧ r = s
  | [], [], r, s, _, _, _, _, h => ⟨rfl, h⟩
  | [], y :: b, r, s, _, hb, hr, _, h => by
    rw [List.nil_append] at h
    have h1 := hr y (by rw [h]; rfl)
    rw [hb y List.mem_cons_self] at h1
    cases h1
  | x :: a, [], r, s, ha, _, _, hs, h => by
    rw [List.nil_append] at h
    have h1 := hs x (by rw [← h]; rfl)
    rw [ha x List.mem_cons_self] at h1
    cases h1
  | x :: a, y :: b, r, s, ha, hb, hr, hs, h => by
    rw [List.cons_append, List.cons_append] at h
    injection h with h1 h2
    obtain ⟨h3, h4⟩ := span_pre (fun z hz => ha z (List.mem_cons_of_mem _ hz)) (fun z hz => hb z (List.mem_cons_of_mem _ hz)) hr hs h2
    exact ⟨by rw [h1, h3], h4⟩
theorem take_part {a r : List UInt8} (ha : ∀ x ∈ a, partB x = true) (hr : ∀ x, r.head? = some x → partB x = false) : (a ++ r).takeWhile partB = a ∧ (a ++ r).dropWhile partB = r := by
  induction a with
  | nil =>
    cases r with
    | nil => exact ⟨rfl, rfl⟩
    | cons c r =>
      have h1 := hr c rfl
      rw [List.nil_append, List.takeWhile_cons, List.dropWhile_cons, h1]
      exact ⟨rfl, rfl⟩
  | cons x a ih =>
    have h1 := ha x List.mem_cons_self
    obtain ⟨h2, h3⟩ := ih (fun z hz => ha z (List.mem_cons_of_mem _ hz))
    rw [List.cons_append, List.takeWhile_cons, List.dropWhile_cons, h1]
    exact ⟨by simp [h2], by simp [h3]⟩
def pickL : List UInt8 := [112, 105, 99, 107]
theorem pick_part : ∀ x ∈ pickL, partB x = true := by decide
/-- names -/
structure NameOk (l : List UInt8) : Prop where
  part : ∀ x ∈ l, partB x = true
  low : ∃ c t, l = c :: t ∧ lowB c = true
  own : ∀ w ∈ ownW, l ≠ w.data.toList
theorem own_mem : ∀ w ∈ ownW, ownB w = true := List.all_eq_true.1 (by decide +kernel)
theorem name_ok {s : ByteArray} (h : nameB s = true) : NameOk s.data.toList := by
  unfold nameB at h
  simp only [Bool.and_eq_true, decide_eq_true_eq, Bool.not_eq_true'] at h
  obtain ⟨⟨⟨⟨h1, h2⟩, h3⟩, h4⟩, h5⟩ := h
  refine ⟨fun x hx => List.all_eq_true.1 h4 x hx, ?_, fun w hw e => ?_⟩
  · cases hl : s.data.toList with
    | nil => rw [← size_list, hl] at h1; simp at h1
    | cons c t => rw [hl] at h3; exact ⟨c, t, rfl, h3⟩
  · have : s = w := ba_ext e
    subst this
    rw [own_mem _ hw] at h5
    cases h5
theorem dig_part {c : UInt8} (h : digB c = true) : partB c = true := by unfold partB; rw [h]; simp
theorem low_part {c : UInt8} (h : lowB c = true) : partB c = true := by unfold partB; rw [h]; simp
theorem low_nodig {c : UInt8} (h : lowB c = true) : digB c = false := by
  unfold lowB at h
  unfold digB
  simp only [Bool.and_eq_true, decide_eq_true_eq] at h
  simp only [Bool.and_eq_false_iff, decide_eq_false_iff_not]
  omega
theorem dec_part (u : Nat) : ∀ x ∈ decDigits u, partB x = true := fun x hx => dig_part (List.all_eq_true.1 (dec_all u) x hx)
theorem dec_inj {u v : Nat} (h : decDigits u = decDigits v) : u = v := by
  have := congrArg (valF 0) h
  rwa [dec_val, dec_val] at this
/-- an expression's kinds, as the first byte, the first word and what stands behind tell them -/
def cls (l : List UInt8) : Nat :=
  if l.head? = some 126 then 1 else if l.head? = some 45 then 2 else if l.head? = some 40 then 3 else if digB (l.headD 0) = true then 4 else if l.takeWhile partB = pickL then 5 else if (l.dropWhile partB).head? = some 91 then 6 else 7
theorem part_no {c : UInt8} (h : partB c = true) : c ≠ 126 ∧ c ≠ 45 ∧ c ≠ 40 := by
  refine ⟨?_, ?_, ?_⟩ <;> (rintro rfl; revert h; decide)
theorem cls_word {a r : List UInt8} (hr : ∀ x, r.head? = some x → partB x = false) (ha : ∀ x ∈ a, partB x = true) (hl : ∃ c t, a = c :: t) :
    cls (a ++ r) = if digB (a.headD 0) = true then 4 else if a = pickL then 5 else if r.head? = some 91 then 6 else 7 := by
  obtain ⟨c, t, rfl⟩ := hl
  obtain ⟨h1, h2⟩ := take_part ha hr
  obtain ⟨n1, n2, n3⟩ := part_no (ha c List.mem_cons_self)
  unfold cls
  rw [h1, h2]
  simp only [List.cons_append, List.head?_cons, Option.some.injEq, n1, n2, n3, if_false, List.headD_cons]
  rfl
theorem cls_num (u : Nat) (r : List UInt8) (hr : StopB r) : cls (decDigits u ++ r) = 4 := by
  have hne := dec_ne u
  obtain ⟨c, t, h⟩ : ∃ c t, decDigits u = c :: t := by
    cases h : decDigits u with
    | nil => exact absurd h hne
    | cons c t => exact ⟨c, t, rfl⟩
  rw [cls_word hr.part (dec_part u) ⟨c, t, h⟩]
  have hd : digB ((decDigits u).headD 0) = true := by
    rw [h]
    exact List.all_eq_true.1 (dec_all u) c (by rw [h]; simp)
  rw [if_pos hd]
theorem pick_own {l : List UInt8} (h : NameOk l) : l ≠ pickL := h.own ⟨#[112, 105, 99, 107]⟩ (by simp [ownW])
theorem cls_name {l : List UInt8} (h : NameOk l) (r : List UInt8) (hr : ∀ x, r.head? = some x → partB x = false) : cls (l ++ r) = if r.head? = some 91 then 6 else 7 := by
  obtain ⟨c, t, hl, hc⟩ := h.low
  rw [cls_word hr h.part ⟨c, t, hl⟩, if_neg (by rw [hl]; rw [List.headD_cons, low_nodig hc]; simp), if_neg (pick_own h)]
theorem cls_var {l : List UInt8} (h : NameOk l) (r : List UInt8) (hr : StopB r) : cls (l ++ r) = 7 := by
  rw [cls_name h r hr.part, if_neg fun e => (hr 91 e).2 rfl]
theorem cls_idx {l : List UInt8} (h : NameOk l) (r : List UInt8) : cls (l ++ 91 :: r) = 6 := by
  rw [cls_name h _ (head_cons_part (by decide)), if_pos (show (91 :: r : List UInt8).head? = some 91 from rfl)]
theorem cls_pick (r : List UInt8) : cls (pickL ++ 40 :: r) = 5 := by
  rw [cls_word (head_cons_part (by decide)) pick_part ⟨_, _, rfl⟩, if_neg (by decide), if_pos rfl]
mutual
def uE : Ex → Bool | .node _ u _ ars => decide (u < 18446744073709551616) && uEs ars
def uEs : List Ex → Bool
  | [] => true
  | e :: es => uE e && uEs es
end
theorem uEs_all : ∀ es, uEs es = es.all uE
  | [] => rfl
  | e :: es => by rw [uEs, uEs_all es, List.all_cons]
theorem uE_at {w : World} {e : Ex} {A : Option Addr} (h : ExAt w e A) (hu : e.u < 18446744073709551616) : uE e = true := by
  revert hu
  refine ExAt.all (M := fun e _ => e.u < 18446744073709551616 → uE e = true) (fun e A h ih hu => ?_) e A h
  have hs := h.args
  obtain ⟨op, u, nm, ars⟩ := e
  rw [uE, uEs_all, Bool.and_eq_true]
  refine ⟨by simpa [Ex.u] using hu, ?_⟩
  rw [List.all_eq_true]
  intro x hx
  obtain ⟨i, hi⟩ := List.getElem?_of_mem hx
  obtain ⟨blk, off, y, B, C, _, hy, _, _, _, _, hye⟩ := hs.at_ (k := i) (List.getElem?_eq_some_iff.1 hi).1
  obtain rfl : y = x := Option.some.inj (hy.symm.trans hi)
  exact ih i y B hi hye (hs.u_lt hi)
theorem size0 {s : ByteArray} (h : s.size = 0) : s = ⟨#[]⟩ := ba_ext (List.length_eq_zero_iff.1 (by rw [size_list]; exact h))
theorem digD_of {u : Nat} (h : u < 18446744073709551616) : digD u = decDigits u := if_pos h
def tE (e : Ex) : List UInt8 := txtE digD e
/-- an expression's shapes, with its text and its kind -/
inductive Shp : Ex → Prop
  | c (u : Nat) (hu : u < 18446744073709551616) : Shp (.node 1 u ⟨#[]⟩ [])
  | v (nm : ByteArray) (hn : NameOk nm.data.toList) : Shp (.node 2 0 nm [])
  | i (nm : ByteArray) (x : Ex) (hn : NameOk nm.data.toList) (hx : mayE nameB x = true) (ux : uE x = true) : Shp (.node 3 0 nm [x])
  | n (x : Ex) (hx : mayE nameB x = true) (ux : uE x = true) : Shp (.node 4 0 ⟨#[]⟩ [x])
  | m (x : Ex) (hx : mayE nameB x = true) (ux : uE x = true) : Shp (.node 5 0 ⟨#[]⟩ [x])
  | p (x y z : Ex) (hx : mayE nameB x = true) (ux : uE x = true) (hy : mayE nameB y = true) (uy : uE y = true) (hz : mayE nameB z = true) (uz : uE z = true) : Shp (.node 21 0 ⟨#[]⟩ [x, y, z])
  | b (op : Int) (x y : Ex) (h1 : 6 ≤ op) (h2 : op ≤ 20) (hx : mayE nameB x = true) (ux : uE x = true) (hy : mayE nameB y = true) (uy : uE y = true) : Shp (.node op 0 ⟨#[]⟩ [x, y])
theorem shp_of {e : Ex} (h : mayE nameB e = true) (hu : uE e = true) : Shp e := by
  obtain ⟨op, u, nm, ars⟩ := e
  obtain ⟨h1, h2, h3, h4⟩ := mayE_node h
  rw [uE, uEs_all, Bool.and_eq_true, List.all_eq_true, decide_eq_true_eq] at hu
  obtain ⟨hu1, hu2⟩ := hu
  unfold mayN at h1
  unfold mayU at h2
  rcases op_cases h3 with ⟨rfl, rfl⟩ | ⟨rfl, rfl⟩ | ⟨rfl, x, rfl⟩ | ⟨rfl, x, rfl⟩ | ⟨rfl, x, rfl⟩ | ⟨rfl, x, y, z, rfl⟩ | ⟨k1, k2, x, y, rfl⟩
  · simp at h1
    obtain rfl : nm = ⟨#[]⟩ := h1
    exact .c u hu1
  · simp at h1 h2
    subst h2
    exact .v nm (name_ok h1)
  · simp at h1 h2
    subst h2
    exact .i nm x (name_ok h1) (h4 x (by simp)) (hu2 x (by simp))
  · simp at h1 h2
    subst h2
    obtain rfl : nm = ⟨#[]⟩ := h1
    exact .n x (h4 x (by simp)) (hu2 x (by simp))
  · simp at h1 h2
    subst h2
    obtain rfl : nm = ⟨#[]⟩ := h1
    exact .m x (h4 x (by simp)) (hu2 x (by simp))
  · simp at h1 h2
    subst h2
    obtain rfl : nm = ⟨#[]⟩ := h1
    exact .p x y z (h4 x (by simp)) (hu2 x (by simp)) (h4 y (by simp)) (hu2 y (by simp)) (h4 z (by simp)) (hu2 z (by simp))
  · rw [if_neg (by omega)] at h1
    simp at h1 h2
    have : u = 0 := by
      rcases h2 with h2 | h2
      · omega
      · exact h2
    subst this
    obtain rfl : nm = ⟨#[]⟩ := h1
    exact .b op x y k1 k2 (h4 x (by simp)) (hu2 x (by simp)) (h4 y (by simp)) (hu2 y (by simp))
theorem t_c {u : Nat} (hu : u < 18446744073709551616) : tE (.node 1 u ⟨#[]⟩ []) = decDigits u := by unfold tE; rw [txtE, if_pos rfl, digD_of hu]
theorem t_v (nm : ByteArray) : tE (.node 2 0 nm []) = nm.data.toList := by unfold tE; rw [txtE, if_neg (by decide), if_pos rfl]
theorem t_i (nm : ByteArray) (x : Ex) : tE (.node 3 0 nm [x]) = nm.data.toList ++ 91 :: (tE x ++ [93]) := by unfold tE; rw [txtE, if_neg (by decide), if_neg (by decide), if_pos rfl]; rfl
theorem t_n (x : Ex) : tE (.node 4 0 ⟨#[]⟩ [x]) = 126 :: tE x := by unfold tE; rw [txtE, if_neg (by decide), if_neg (by decide), if_neg (by decide), if_pos rfl]; rfl
theorem t_m (x : Ex) : tE (.node 5 0 ⟨#[]⟩ [x]) = 45 :: tE x := by unfold tE; rw [txtE, if_neg (by decide), if_neg (by decide), if_neg (by decide), if_neg (by decide), if_pos rfl]; rfl
theorem t_p (x y z : Ex) : tE (.node 21 0 ⟨#[]⟩ [x, y, z]) = pickL ++ 40 :: (tE x ++ 44 :: 32 :: (tE y ++ 44 :: 32 :: (tE z ++ [41]))) := by
  unfold tE
  rw [txtE, if_neg (by decide), if_neg (by decide), if_neg (by decide), if_neg (by decide), if_neg (by decide), if_pos rfl, txtL, txtL, txtL, txtL]
  simp [commas, pickL]
theorem t_b {op : Int} (h1 : 6 ≤ op) (h2 : op ≤ 20) (x y : Ex) : tE (.node op 0 ⟨#[]⟩ [x, y]) = 40 :: (tE x ++ 32 :: (signT op ++ 32 :: (tE y ++ [41]))) := by
  unfold tE
  rw [txtE, if_neg (by omega), if_neg (by omega), if_neg (by omega), if_neg (by omega), if_neg (by omega), if_neg (by omega)]
  rfl
theorem sign_inj {op o : Int} (h1 : 6 ≤ op) (h2 : op ≤ 20) (k1 : 6 ≤ o) (k2 : o ≤ 20) (h : signT op = signT o) : op = o := by
  have key : ∀ i j : Fin 15, signTab.getD i.val [] = signTab.getD j.val [] → i = j := by decide +kernel
  unfold signT at h
  have e1 : (op - 6).toNat < 15 := by omega
  have e2 : (o - 6).toNat < 15 := by omega
  have := congrArg Fin.val (key ⟨_, e1⟩ ⟨_, e2⟩ h)
  dsimp only at this
  omega
theorem sign_no32 (op : Int) : ∀ c ∈ signT op, c ≠ 32 := by
  unfold signT
  rw [List.getD_eq_getElem?_getD]
  cases h : signTab[(op - 6).toNat]? with
  | none => intro c hc; cases hc
  | some l =>
    have hm := List.mem_of_getElem? h
    have : ∀ l ∈ signTab, ∀ c ∈ l, c ≠ 32 := by decide
    exact this l hm
/-- texts without a byte, up to it -/
theorem split_at {d : UInt8} : ∀ {a b r s : List UInt8}, (∀ c ∈ a, c ≠ d) → (∀ c ∈ b, c ≠ d) → a ++ d :: r = b ++ d :: s → a = b ∧ r = s
  | [], [], r, s, _, _, h => ⟨rfl, by simpa using h⟩
  | [], y :: b, r, s, _, hb, h => by
    rw [List.nil_append, List.cons_append] at h
    injection h with h1 _
    exact absurd h1.symm (hb y List.mem_cons_self)
  | x :: a, [], r, s, ha, _, h => by
    rw [List.nil_append, List.cons_append] at h
    injection h with h1 _
    exact absurd h1 (ha x List.mem_cons_self)
  | x :: a, y :: b, r, s, ha, hb, h => by
    rw [List.cons_append, List.cons_append] at h
    injection h with h1 h2
    obtain ⟨h3, h4⟩ := split_at (fun z hz => ha z (List.mem_cons_of_mem _ hz)) (fun z hz => hb z (List.mem_cons_of_mem _ hz)) h2
    exact ⟨by rw [h1, h3], h4⟩
def kindO (op : Int) : Nat := if op = 4 then 1 else if op = 5 then 2 else if op = 1 then 4 else if op = 21 then 5 else if op = 3 then 6 else if op = 2 then 7 else 3
def kindX (e : Ex) : Nat := kindO e.op
theorem kindX_b {op : Int} (h1 : 6 ≤ op) (h2 : op ≤ 20) (l : List Ex) : kindX (.node op 0 ⟨#[]⟩ l) = 3 := by
  show kindO op = 3
  unfold kindO
  rw [if_neg (by omega), if_neg (by omega), if_neg (by omega), if_neg (by omega), if_neg (by omega), if_neg (by omega)]
theorem cls_tE {e : Ex} (h : Shp e) (r : List UInt8) (hr : StopB r) : cls (tE e ++ r) = kindX e := by
  cases h with
  | c u hu => rw [t_c hu, cls_num u r hr]; rfl
  | v nm hn => rw [t_v, cls_var hn r hr]; rfl
  | i nm x hn _ _ => rw [t_i, List.append_assoc, List.cons_append, cls_idx hn]; rfl
  | n x _ _ => rw [t_n]; rfl
  | m x _ _ => rw [t_m]; rfl
  | p x y z _ _ _ _ _ _ => rw [t_p, List.append_assoc, List.cons_append, cls_pick]; rfl
  | b op x y h1 h2 _ _ _ _ =>
    rw [t_b h1 h2, kindX_b h1 h2]
    rfl
theorem stop93 (r : List UInt8) : StopB (93 :: r) := stop_cons (by decide)
theorem stop41 (r : List UInt8) : StopB (41 :: r) := stop_cons (by decide)
theorem stop44 (r : List UInt8) : StopB (44 :: r) := stop_cons (by decide)
theorem stop32 (r : List UInt8) : StopB (32 :: r) := stop_cons (by decide)
theorem stop59 (r : List UInt8) : StopB (59 :: r) := stop_cons (by decide)
theorem tE_pre : ∀ (n : Nat) (e f : Ex), cntE e ≤ n → mayE nameB e = true → mayE nameB f = true → uE e = true → uE f = true → ∀ r s, StopB r → StopB s → tE e ++ r = tE f ++ s → e = f ∧ r = s := by
  intro n
  induction n with
  | zero => intro e f hc; have := cntE_pos e; omega
  | succ n ih =>
    intro e f hc he hf hue huf r s hr hs h
    have se := shp_of he hue
    have sf := shp_of hf huf
    have hk : kindX e = kindX f := by rw [← cls_tE se r hr, ← cls_tE sf s hs, h]
    have bad : ∀ {P : Prop}, kindX e = kindX f → kindX e ≠ kindX f → P := fun h1 h2 => absurd h1 h2
    clear he hf hue huf
    cases se with
    | c u hu =>
      cases sf with
      | c v hv =>
        rw [t_c hu, t_c hv] at h
        obtain ⟨h1, h2⟩ := span_pre (dec_part u) (dec_part v) hr.part hs.part h
        exact ⟨by rw [dec_inj h1], h2⟩
      | b op x y h1 h2 _ _ _ _ => rw [kindX_b h1 h2] at hk; exact absurd hk (by simp [kindX, kindO, Ex.op])
      | _ => exact absurd hk (by simp [kindX, kindO, Ex.op])
    | v nm hn =>
      cases sf with
      | v nm' hn' =>
        rw [t_v, t_v] at h
        obtain ⟨h1, h2⟩ := span_pre hn.part hn'.part hr.part hs.part h
        exact ⟨by rw [ba_ext h1], h2⟩
      | b op x y h1 h2 _ _ _ _ => rw [kindX_b h1 h2] at hk; exact absurd hk (by simp [kindX, kindO, Ex.op])
      | _ => exact absurd hk (by simp [kindX, kindO, Ex.op])
    | i nm x hn hx ux =>
      cases sf with
      | i nm' x' hn' hx' ux' =>
        rw [t_i, t_i, List.append_assoc, List.append_assoc, List.cons_append, List.cons_append] at h
        obtain ⟨h1, h2⟩ := span_pre hn.part hn'.part (head_cons_part (by decide)) (head_cons_part (by decide)) h
        injection h2 with _ h2
        rw [List.append_assoc, List.append_assoc] at h2
        have hcx : cntE x ≤ n := by rw [cntE, cntL, cntL] at hc; omega
        obtain ⟨h3, h4⟩ := ih x x' hcx hx hx' ux ux' _ _ (stop93 _) (stop93 _) h2
        injection h4 with _ h4
        exact ⟨by rw [ba_ext h1, h3], h4⟩
      | b op x y h1 h2 _ _ _ _ => rw [kindX_b h1 h2] at hk; exact absurd hk (by simp [kindX, kindO, Ex.op])
      | _ => exact absurd hk (by simp [kindX, kindO, Ex.op])
    | n x hx ux =>
      cases sf with
      | n x' hx' ux' =>
        rw [t_n, t_n, List.cons_append, List.cons_append] at h
        injection h with _ h
        have hcx : cntE x ≤ n := by rw [cntE, cntL, cntL] at hc; omega
        obtain ⟨h3, h4⟩ := ih x x' hcx hx hx' ux ux' _ _ hr hs h
        exact ⟨by rw [h3], h4⟩
      | b op x y h1 h2 _ _ _ _ => rw [kindX_b h1 h2] at hk; exact absurd hk (by simp [kindX, kindO, Ex.op])
      | _ => exact absurd hk (by simp [kindX, kindO, Ex.op])
    | m x hx ux =>
      cases sf with
      | m x' hx' ux' =>
        rw [t_m, t_m, List.cons_append, List.cons_append] at h
        injection h with _ h
        have hcx : cntE x ≤ n := by rw [cntE, cntL, cntL] at hc; omega
        obtain ⟨h3, h4⟩ := ih x x' hcx hx hx' ux ux' _ _ hr hs h
        exact ⟨by rw [h3], h4⟩
      | b op x y h1 h2 _ _ _ _ => rw [kindX_b h1 h2] at hk; exact absurd hk (by simp [kindX, kindO, Ex.op])
      | _ => exact absurd hk (by simp [kindX, kindO, Ex.op])
    | p x y z hx ux hy uy hz uz =>
      cases sf with
      | p x' y' z' hx' ux' hy' uy' hz' uz' =>
        rw [t_p, t_p, List.append_assoc, List.append_assoc] at h
        have h := List.append_cancel_left h
        simp only [List.cons_append, List.append_assoc, List.nil_append] at h
        injection h with _ h
        have hcx : cntE x ≤ n ∧ cntE y ≤ n ∧ cntE z ≤ n := by rw [cntE, cntL, cntL, cntL, cntL] at hc; omega
        obtain ⟨h3, h4⟩ := ih x x' hcx.1 hx hx' ux ux' _ _ (stop44 _) (stop44 _) h
        injection h4 with _ h4
        injection h4 with _ h4
        obtain ⟨h5, h6⟩ := ih y y' hcx.2.1 hy hy' uy uy' _ _ (stop44 _) (stop44 _) h4
        injection h6 with _ h6
        injection h6 with _ h6
        obtain ⟨h7, h8⟩ := ih z z' hcx.2.2 hz hz' uz uz' _ _ (stop41 _) (stop41 _) h6
        injection h8 with _ h8
        exact ⟨by rw [h3, h5, h7], h8⟩
      | b op x y h1 h2 _ _ _ _ => rw [kindX_b h1 h2] at hk; exact absurd hk (by simp [kindX, kindO, Ex.op])
      | _ => exact absurd hk (by simp [kindX, kindO, Ex.op])
    | b op x y h1 h2 hx ux hy uy =>
      rw [kindX_b h1 h2] at hk
      cases sf with
      | b op' x' y' k1 k2 hx' ux' hy' uy' =>
        rw [t_b h1 h2, t_b k1 k2] at h
        simp only [List.cons_append, List.append_assoc, List.nil_append] at h
        injection h with _ h
        have hcx : cntE x ≤ n ∧ cntE y ≤ n := by rw [cntE, cntL, cntL, cntL] at hc; omega
        obtain ⟨h3, h4⟩ := ih x x' hcx.1 hx hx' ux ux' _ _ (stop32 _) (stop32 _) h
        injection h4 with _ h4
        obtain ⟨h5, h6⟩ := split_at (sign_no32 op) (sign_no32 op') h4
        obtain ⟨h7, h8⟩ := ih y y' hcx.2 hy hy' uy uy' _ _ (stop41 _) (stop41 _) h6
        injection h8 with _ h8
        exact ⟨by rw [h3, h7, sign_inj h1 h2 k1 k2 h5], h8⟩
      | _ => exact absurd hk (by simp [kindX, kindO, Ex.op])
theorem tE_inj {e f : Ex} (he : mayE nameB e = true) (hf : mayE nameB f = true) (ue : uE e = true) (uf : uE f = true) {r s : List UInt8} (hr : StopB r) (hs : StopB s) (h : tE e ++ r = tE f ++ s) : e = f ∧ r = s :=
  tE_pre _ e f (Nat.le_refl _) he hf ue uf r s hr hs h
/-- an expression's text has a first byte; its bytes are none of the bytes of lines -/
theorem tE_ne {e : Ex} (h : Shp e) : ∃ c t, tE e = c :: t ∧ (partB c = true ∨ c = 126 ∨ c = 45 ∨ c = 40) := by
  cases h with
  | c u hu =>
    rw [t_c hu]
    have hne := dec_ne u
    have hp := dec_part u
    cases h : decDigits u with
    | nil => exact absurd h hne
    | cons c t => rw [h] at hp; exact ⟨c, t, rfl, .inl (hp c List.mem_cons_self)⟩
  | v nm hn => rw [t_v]; obtain ⟨c, t, hl, hc⟩ := hn.low; rw [hl]; exact ⟨c, t, rfl, .inl (low_part hc)⟩
  | i nm x hn _ _ => rw [t_i]; obtain ⟨c, t, hl, hc⟩ := hn.low; rw [hl]; exact ⟨c, _, rfl, .inl (low_part hc)⟩
  | n x _ _ => rw [t_n]; exact ⟨_, _, rfl, by simp⟩
  | m x _ _ => rw [t_m]; exact ⟨_, _, rfl, by simp⟩
  | p x y z _ _ _ _ _ _ => rw [t_p]; exact ⟨_, _, rfl, .inl (by decide)⟩
  | b op x y h1 h2 _ _ _ _ => rw [t_b h1 h2]; exact ⟨_, _, rfl, by simp⟩
def lineC (b : UInt8) : Prop := 32 ≤ b.toNat
theorem part_line {c : UInt8} (h : partB c = true) : lineC c := by
  unfold partB lowB digB at h
  unfold lineC
  simp only [Bool.or_eq_true, Bool.and_eq_true, decide_eq_true_eq] at h
  omega
theorem sign_line (op : Int) : ∀ c ∈ signT op, lineC c := by
  unfold signT
  rw [List.getD_eq_getElem?_getD]
  cases h : signTab[(op - 6).toNat]? with
  | none => intro c hc; cases hc
  | some l =>
    have hm := List.mem_of_getElem? h
    have : ∀ l ∈ signTab, ∀ c ∈ l, 32 ≤ c.toNat := by decide
    exact this l hm
theorem tE_line : ∀ (n : Nat) (e : Ex), cntE e ≤ n → mayE nameB e = true → uE e = true → ∀ c ∈ tE e, lineC c := by
  intro n
  induction n with
  | zero => intro e hc; have := cntE_pos e; omega
  | succ n ih =>
    intro e hc he hue c hm
    have se := shp_of he hue
    have q : ∀ k : UInt8, 32 ≤ k.toNat → c = k → lineC c := fun k hk e => by subst e; exact hk
    cases se with
    | c u hu => rw [t_c hu] at hm; exact part_line (dec_part u c hm)
    | v nm hn => rw [t_v] at hm; exact part_line (hn.part c hm)
    | i nm x hn hx ux =>
      have hcx : cntE x ≤ n := by rw [cntE, cntL, cntL] at hc; omega
      rw [t_i] at hm
      simp only [List.mem_append, List.mem_cons, List.not_mem_nil, or_false] at hm
      rcases hm with hm | hm | hm | hm
      · exact part_line (hn.part c hm)
      · exact q 91 (by decide) hm
      · exact ih x hcx hx ux c hm
      · exact q 93 (by decide) hm
    | n x hx ux =>
      have hcx : cntE x ≤ n := by rw [cntE, cntL, cntL] at hc; omega
      rw [t_n] at hm
      rcases List.mem_cons.1 hm with hm | hm
      · exact q 126 (by decide) hm
      · exact ih x hcx hx ux c hm
    | m x hx ux =>
      have hcx : cntE x ≤ n := by rw [cntE, cntL, cntL] at hc; omega
      rw [t_m] at hm
      rcases List.mem_cons.1 hm with hm | hm
      · exact q 45 (by decide) hm
      · exact ih x hcx hx ux c hm
    | p x y z hx ux hy uy hz uz =>
      have hcx : cntE x ≤ n ∧ cntE y ≤ n ∧ cntE z ≤ n := by rw [cntE, cntL, cntL, cntL, cntL] at hc; omega
      rw [t_p] at hm
      simp only [List.mem_append, List.mem_cons, List.not_mem_nil, or_false] at hm
      rcases hm with hm | hm | hm | hm | hm | hm | hm | hm | hm | hm
      · exact part_line (pick_part c hm)
      · exact q 40 (by decide) hm
      · exact ih x hcx.1 hx ux c hm
      · exact q 44 (by decide) hm
      · exact q 32 (by decide) hm
      · exact ih y hcx.2.1 hy uy c hm
      · exact q 44 (by decide) hm
      · exact q 32 (by decide) hm
      · exact ih z hcx.2.2 hz uz c hm
      · exact q 41 (by decide) hm
    | b op x y h1 h2 hx ux hy uy =>
      have hcx : cntE x ≤ n ∧ cntE y ≤ n := by rw [cntE, cntL, cntL, cntL] at hc; omega
      rw [t_b h1 h2] at hm
      simp only [List.mem_append, List.mem_cons, List.not_mem_nil, or_false] at hm
      rcases hm with hm | hm | hm | hm | hm | hm | hm
      · exact q 40 (by decide) hm
      · exact ih x hcx.1 hx ux c hm
      · exact q 32 (by decide) hm
      · exact sign_line op c hm
      · exact q 32 (by decide) hm
      · exact ih y hcx.2 hy uy c hm
      · exact q 41 (by decide) hm
end Go.Proofs.YtnahgfdoiflacaaGreatDoor
namespace Go.Proofs.YtnahgfdoiflacaaGreatDoor
open Go.RowKit Go.Lib Go.Shelf

def GoodE (e : Ex) : Prop := mayE nameB e = true ∧ uE e = true
def ctail : List Ex → List UInt8
  | [] => []
  | e :: es => 44 :: 32 :: (tE e ++ ctail es)
def aL : List Ex → List UInt8
  | [] => []
  | e :: es => tE e ++ ctail es
theorem ctail_stop (l : List Ex) (r : List UInt8) : StopB (ctail l ++ 41 :: r) := by
  cases l with
  | nil => exact stop41 r
  | cons e es => exact stop44 _
theorem ctail_pre : ∀ (l m : List Ex), (∀ e ∈ l, GoodE e) → (∀ e ∈ m, GoodE e) → ∀ r s, ctail l ++ 41 :: r = ctail m ++ 41 :: s → l = m ∧ r = s
  | [], [], _, _, r, s, h => ⟨rfl, by simpa [ctail] using h⟩
  | [], f :: m, _, _, r, s, h => by
    simp only [ctail, List.nil_append, List.cons_append] at h
    injection h with h _
    exact absurd h (by decide)
  | e :: l, [], _, _, r, s, h => by
    simp only [ctail, List.nil_append, List.cons_append] at h
    injection h with h _
    exact absurd h (by decide)
  | e :: l, f :: m, hl, hm, r, s, h => by
    simp only [ctail, List.cons_append, List.append_assoc] at h
    injection h with _ h
    injection h with _ h
    have ge := hl e List.mem_cons_self
    have gf := hm f List.mem_cons_self
    obtain ⟨h1, h2⟩ := tE_inj ge.1 gf.1 ge.2 gf.2 (ctail_stop l r) (ctail_stop m s) h
    obtain ⟨h3, h4⟩ := ctail_pre l m (fun x hx => hl x (List.mem_cons_of_mem _ hx)) (fun x hx => hm x (List.mem_cons_of_mem _ hx)) r s h2
    exact ⟨by rw [h1, h3], h4⟩
theorem tE_no41 {e : Ex} (h : GoodE e) {r s : List UInt8} (he : 41 :: r = tE e ++ s) : False := by
  obtain ⟨c, t, h1, h2⟩ := tE_ne (shp_of h.1 h.2)
  rw [h1, List.cons_append] at he
  injection he with he _
  subst he
  rcases h2 with h2 | h2 | h2 | h2
  · revert h2; decide
  · revert h2; decide
  · revert h2; decide
  · revert h2; decide
theorem aL_pre : ∀ (l m : List Ex), (∀ e ∈ l, GoodE e) → (∀ e ∈ m, GoodE e) → ∀ r s, aL l ++ 41 :: r = aL m ++ 41 :: s → l = m ∧ r = s
  | [], [], _, _, r, s, h => ⟨rfl, by simpa [aL] using h⟩
  | [], f :: m, _, hm, r, s, h => by
    simp only [aL, List.nil_append, List.append_assoc] at h
    exact (tE_no41 (hm f List.mem_cons_self) h).elim
  | e :: l, [], hl, _, r, s, h => by
    simp only [aL, List.nil_append, List.append_assoc] at h
    exact (tE_no41 (hl e List.mem_cons_self) h.symm).elim
  | e :: l, f :: m, hl, hm, r, s, h => by
    simp only [aL, List.append_assoc] at h
    have ge := hl e List.mem_cons_self
    have gf := hm f List.mem_cons_self
    obtain ⟨h1, h2⟩ := tE_inj ge.1 gf.1 ge.2 gf.2 (ctail_stop l r) (ctail_stop m s) h
    obtain ⟨h3, h4⟩ := ctail_pre l m (fun x hx => hl x (List.mem_cons_of_mem _ hx)) (fun x hx => hm x (List.mem_cons_of_mem _ hx)) r s h2
    exact ⟨by rw [h1, h3], h4⟩
theorem commas_aL : ∀ l : List Ex, commas (l.map tE) = aL l
  | [] => rfl
  | [e] => by simp [commas, aL, ctail]
  | e :: f :: r => by
    have h := commas_aL (f :: r)
    rw [List.map_cons, List.map_cons, commas]
    rw [List.map_cons] at h
    rw [h]
    rfl
/-! names with commas -/
def ntail : List ByteArray → List UInt8
  | [] => []
  | n :: ns => 44 :: 32 :: (n.data.toList ++ ntail ns)
def nL : List ByteArray → List UInt8
  | [] => []
  | n :: ns => n.data.toList ++ ntail ns
theorem commas_nL : ∀ l : List ByteArray, commas (l.map (·.data.toList)) = nL l
  | [] => rfl
  | [e] => by simp [commas, nL, ntail]
  | e :: f :: r => by
    have h := commas_nL (f :: r)
    rw [List.map_cons, List.map_cons, commas]
    rw [List.map_cons] at h
    rw [h]
    rfl
def GoodN (n : ByteArray) : Prop := nameB n = true
theorem ntail_head (l : List ByteArray) (c : UInt8) (hc : partB c = false) (r : List UInt8) : ∀ x, (ntail l ++ c :: r).head? = some x → partB x = false := by
  cases l with
  | nil => exact head_cons_part hc
  | cons n ns => exact head_cons_part (by decide)
theorem ntail_pre (c : UInt8) (hc : partB c = false) (h44 : c ≠ 44) : ∀ (l m : List ByteArray), (∀ e ∈ l, GoodN e) → (∀ e ∈ m, GoodN e) → ∀ r s, ntail l ++ c :: r = ntail m ++ c :: s → l = m ∧ r = s
  | [], [], _, _, r, s, h => ⟨rfl, by simpa [ntail] using h⟩
  | [], f :: m, _, _, r, s, h => by
    simp only [ntail, List.nil_append, List.cons_append] at h
    injection h with h _
    exact absurd h h44
  | e :: l, [], _, _, r, s, h => by
    simp only [ntail, List.nil_append, List.cons_append] at h
    injection h with h _
    exact absurd h.symm h44
  | e :: l, f :: m, hl, hm, r, s, h => by
    simp only [ntail, List.cons_append, List.append_assoc] at h
    injection h with _ h
    injection h with _ h
    obtain ⟨h1, h2⟩ := span_pre (name_ok (hl e List.mem_cons_self)).part (name_ok (hm f List.mem_cons_self)).part (ntail_head l c hc r) (ntail_head m c hc s) h
    obtain ⟨h3, h4⟩ := ntail_pre c hc h44 l m (fun x hx => hl x (List.mem_cons_of_mem _ hx)) (fun x hx => hm x (List.mem_cons_of_mem _ hx)) r s h2
    exact ⟨by rw [ba_ext h1, h3], h4⟩
theorem nL_pre {n m : ByteArray} {l k : List ByteArray} {c : UInt8} (hc : partB c = false) (h44 : c ≠ 44) (hl : ∀ e ∈ n :: l, GoodN e) (hm : ∀ e ∈ m :: k, GoodN e) {r s : List UInt8} (h : nL (n :: l) ++ c :: r = nL (m :: k) ++ c :: s) : n :: l = m :: k ∧ r = s := by
  simp only [nL, List.append_assoc] at h
  obtain ⟨h1, h2⟩ := span_pre (name_ok (hl n List.mem_cons_self)).part (name_ok (hm m List.mem_cons_self)).part (ntail_head l c hc r) (ntail_head k c hc s) h
  obtain ⟨h3, h4⟩ := ntail_pre c hc h44 l k (fun x hx => hl x (List.mem_cons_of_mem _ hx)) (fun x hx => hm x (List.mem_cons_of_mem _ hx)) r s h2
  exact ⟨by rw [ba_ext h1, h3], h4⟩
theorem listT_names (l : List ByteArray) : (listT l).data.toList = nL l := by rw [listT_commas, commas_nL]
theorem listT_args (l : List Ex) : (listT (l.map txS)).data.toList = aL l := by
  rw [listT_commas, List.map_map, ← commas_aL]
  rfl
/-! statements -/
def zE : Ex := .node 0 0 ⟨#[]⟩ []
theorem noneE_z {e : Ex} (h : noneE e = true) : e = zE := by
  obtain ⟨op, u, nm, ars⟩ := e
  unfold noneE noneN at h
  simp only [Bool.and_eq_true] at h
  obtain ⟨h1, h2, h3, h4⟩ := h
  obtain rfl : op = 0 := of_decide_eq_true h1
  obtain rfl : u = 0 := of_decide_eq_true h2
  obtain rfl := size0 (s := nm) (of_decide_eq_true h3)
  obtain rfl : ars = [] := List.length_eq_zero_iff.1 (of_decide_eq_true h4)
  rfl
mutual
def uS : St → Bool | .node _ _ _ e a ars lo hi bd el => (uE e && (uE a && uEs ars)) && ((decide (lo < 18446744073709551616) && decide (hi < 18446744073709551616)) && (uSs bd && uSs el))
def uSs : List St → Bool
  | [] => true
  | s :: r => uS s && uSs r
end
theorem uSs_all : ∀ es, uSs es = es.all uS
  | [] => rfl
  | e :: es => by rw [uSs, uSs_all es, List.all_cons]
theorem uS_eq (x : St) : uS x = ((uE x.e && (uE x.a && uEs x.ars)) && ((decide (x.lo < 18446744073709551616) && decide (x.hi < 18446744073709551616)) && (uSs x.bd && uSs x.el))) := by cases x; rw [uS]; rfl
theorem uE_exs {w : World} {ars : List Ex} {A : Option Addr} (h : ExsAt w ars A) : uEs ars = true := by
  rw [uEs_all, List.all_eq_true]
  intro x hx
  obtain ⟨i, hi⟩ := List.getElem?_of_mem hx
  obtain ⟨blk, off, y, B, C, _, hy, _, _, _, _, hye⟩ := h.at_ (k := i) (List.getElem?_eq_some_iff.1 hi).1
  obtain rfl : y = x := Option.some.inj (hy.symm.trans hi)
  exact uE_at hye (h.u_lt hi)
theorem uSs_at {w : World} {L : List St} {A : Option Addr} (h : StsAt w L A) : uSs L = true := by
  refine StsAt.all (M := fun L _ => uSs L = true) (fun L A h ih => ?_) L A h
  rw [uSs_all, List.all_eq_true]
  intro x hx
  obtain ⟨i, hi⟩ := List.getElem?_of_mem hx
  obtain ⟨blk, off, y, r, _, hy, _, hn, hb, he⟩ := h.at_ (List.getElem?_eq_some_iff.1 hi).1
  obtain rfl : y = x := Option.some.inj (hy.symm.trans hi)
  obtain ⟨_, _, _, _, exA, exu⟩ := hn.e
  obtain ⟨_, _, _, _, axA, axu⟩ := hn.a
  rw [uS_eq, uE_at exA exu, uE_at axA axu, uE_exs hn.arA, decide_eq_true hn.loh, decide_eq_true hn.hih, (ih i y r.bd.a hi).1 hb, (ih i y r.el.a hi).2 he]
  rfl
inductive ShpS : St → Prop
  | s1 (nm : ByteArray) (e : Ex) (hn : GoodN nm) (he : GoodE e) : ShpS (.node 1 nm [] e zE [] 0 0 [] [])
  | s2 (nm : ByteArray) (a e : Ex) (hn : GoodN nm) (ha : GoodE a) (he : GoodE e) : ShpS (.node 2 nm [] e a [] 0 0 [] [])
  | s3 (e : Ex) (bd el : List St) (he : GoodE e) : ShpS (.node 3 ⟨#[]⟩ [] e zE [] 0 0 bd el)
  | s4 (e : Ex) (bd : List St) (he : GoodE e) : ShpS (.node 4 ⟨#[]⟩ [] e zE [] 0 0 bd [])
  | s5 (nm : ByteArray) (lo hi : Nat) (bd : List St) (hn : GoodN nm) : ShpS (.node 5 nm [] zE zE [] lo hi bd [])
  | s6 (nm : ByteArray) (ns : List ByteArray) (ars : List Ex) (hn : GoodN nm) (hns : ∀ n ∈ ns, GoodN n) (ha : ∀ e ∈ ars, GoodE e) : ShpS (.node 6 nm ns zE zE ars 0 0 [] [])
theorem len0 {α : Type} {l : List α} (h : l.length = 0) : l = [] := List.length_eq_zero_iff.1 h
theorem shpS_of {x : St} (h : mayS x = true) (hu : uS x = true) : ShpS x ∧ maySs x.bd = true ∧ maySs x.el = true ∧ uSs x.bd = true ∧ uSs x.el = true := by
  rw [mayS_eq, Bool.and_eq_true, Bool.and_eq_true, Bool.and_eq_true] at h
  obtain ⟨hk, hH, hbd, hel⟩ := h
  rw [uS_eq] at hu
  simp only [Bool.and_eq_true, decide_eq_true_eq] at hu
  obtain ⟨⟨u1, u2, u3⟩, ⟨u4, u5⟩, u6, u7⟩ := hu
  refine ⟨?_, hbd, hel, u6, u7⟩
  have hb : 1 ≤ x.kd ∧ x.kd ≤ 6 := by simpa [kindOk] using hk
  rw [uEs_all, List.all_eq_true] at u3
  obtain ⟨kd, nm, ns, e, a, ars, lo, hi, bd, el⟩ := x
  unfold mayH bareX usesN usesE at hH
  simp only [St.kd, St.nm, St.ns, St.e, St.a, St.ars, St.lo, St.hi, St.bd, St.el] at hH hb u1 u2 u3
  simp only [Bool.and_eq_true, Bool.or_eq_true, beq_iff_eq, decide_eq_true_eq, Bool.not_eq_true', List.all_eq_true, Bool.or_eq_false_iff, beq_eq_false_iff_ne] at hH
  obtain ⟨⟨h1, h2, h3, h4, h5, h6, h7, h8, h9⟩, k1, k2, k3, k4, k5⟩ := hH
  rcases (show kd = 1 ∨ kd = 2 ∨ kd = 3 ∨ kd = 4 ∨ kd = 5 ∨ kd = 6 by omega) with rfl | rfl | rfl | rfl | rfl | rfl
  · simp at h1 h2 h3 h4 h9 k1 k3
    have h6 := h6.resolve_left (by decide)
    have h7 := h7.resolve_left (by decide)
    obtain rfl := h1; obtain rfl := h2; obtain rfl := h3; obtain rfl := h4; obtain rfl : lo = 0 := of_decide_eq_true h6; obtain rfl : hi = 0 := of_decide_eq_true h7; obtain rfl := noneE_z h9
    exact .s1 nm e k3 ⟨k1, u1⟩
  · simp at h1 h2 h3 h4 k1 k2 k3
    have h6 := h6.resolve_left (by decide)
    have h7 := h7.resolve_left (by decide)
    obtain rfl := h1; obtain rfl := h2; obtain rfl := h3; obtain rfl := h4; obtain rfl : lo = 0 := of_decide_eq_true h6; obtain rfl : hi = 0 := of_decide_eq_true h7
    exact .s2 nm a e k3 ⟨k2, u2⟩ ⟨k1, u1⟩
  · simp at h1 h2 h5 h9 k1
    have h6 := h6.resolve_left (by decide)
    have h7 := h7.resolve_left (by decide)
    obtain rfl := h1; obtain rfl := h2; obtain rfl : nm = ⟨#[]⟩ := h5; obtain rfl : lo = 0 := of_decide_eq_true h6; obtain rfl : hi = 0 := of_decide_eq_true h7; obtain rfl := noneE_z h9
    exact .s3 e bd el ⟨k1, u1⟩
  · simp at h1 h2 h4 h5 h9 k1
    have h6 := h6.resolve_left (by decide)
    have h7 := h7.resolve_left (by decide)
    obtain rfl := h1; obtain rfl := h2; obtain rfl := h4; obtain rfl : nm = ⟨#[]⟩ := h5; obtain rfl : lo = 0 := of_decide_eq_true h6; obtain rfl : hi = 0 := of_decide_eq_true h7; obtain rfl := noneE_z h9
    exact .s4 e bd ⟨k1, u1⟩
  · simp at h1 h2 h4 h8 h9 k3
    obtain rfl := h1; obtain rfl := h2; obtain rfl := h4; obtain rfl := noneE_z h8; obtain rfl := noneE_z h9
    exact .s5 nm lo hi bd k3
  · simp at h3 h4 h8 h9 k3
    have h6 := h6.resolve_left (by decide)
    have h7 := h7.resolve_left (by decide)
    obtain rfl := h3; obtain rfl := h4; obtain rfl : lo = 0 := of_decide_eq_true h6; obtain rfl : hi = 0 := of_decide_eq_true h7; obtain rfl := noneE_z h8; obtain rfl := noneE_z h9
    exact .s6 nm ns ars k3 k4 (fun e he => ⟨k5 e he, u3 e he⟩)
/-! first lines -/
def hL (x : St) : List UInt8 := (headB x).data.toList
def ifL : List UInt8 := [105, 102]
def whileL : List UInt8 := [119, 104, 105, 108, 101]
def forL : List UInt8 := [102, 111, 114]
theorem headB1 {x : St} (h : x.kd = 1) : headB x = x.nm ++ ⟨#[32, 61, 32]⟩ ++ txS x.e ++ ⟨#[59]⟩ := by unfold headB; rw [if_pos h]
theorem headB2 {x : St} (h : x.kd = 2) : headB x = x.nm ++ ⟨#[91]⟩ ++ txS x.a ++ ⟨#[93, 32, 61, 32]⟩ ++ txS x.e ++ ⟨#[59]⟩ := by unfold headB; rw [if_neg (by omega), if_pos h]
theorem headB3 {x : St} (h : x.kd = 3) : headB x = (⟨#[105, 102, 32]⟩ : ByteArray) ++ txS x.e ++ ⟨#[32, 123]⟩ := by unfold headB; rw [if_neg (by omega), if_neg (by omega), if_pos h]
theorem headB4 {x : St} (h : x.kd = 4) : headB x = (⟨#[119, 104, 105, 108, 101, 32]⟩ : ByteArray) ++ txS x.e ++ ⟨#[32, 123]⟩ := by unfold headB; rw [if_neg (by omega), if_neg (by omega), if_neg (by omega), if_pos h]
theorem headB5 {x : St} (h : x.kd = 5) : headB x = (⟨#[102, 111, 114, 32]⟩ : ByteArray) ++ x.nm ++ ⟨#[32]⟩ ++ numT x.lo ++ ⟨#[32]⟩ ++ numT x.hi ++ ⟨#[32, 123]⟩ := by unfold headB; rw [if_neg (by omega), if_neg (by omega), if_neg (by omega), if_neg (by omega), if_pos h]
theorem headB6 {x : St} (h : x.kd = 6) : headB x = if x.ns.length = 0 then callB x else listT x.ns ++ ⟨#[32, 61, 32]⟩ ++ callB x := by unfold headB; rw [if_neg (by omega), if_neg (by omega), if_neg (by omega), if_neg (by omega), if_neg (by omega)]
theorem h_1 (nm : ByteArray) (e : Ex) : hL (.node 1 nm [] e zE [] 0 0 [] []) = nm.data.toList ++ 32 :: 61 :: 32 :: (tE e ++ [59]) := by
  unfold hL
  rw [headB1 rfl]
  simp [St.nm, St.e, txS_list, tE]
theorem h_2 (nm : ByteArray) (a e : Ex) : hL (.node 2 nm [] e a [] 0 0 [] []) = nm.data.toList ++ 91 :: (tE a ++ 93 :: 32 :: 61 :: 32 :: (tE e ++ [59])) := by
  unfold hL
  rw [headB2 rfl]
  simp [St.nm, St.e, St.a, txS_list, tE]
theorem h_3 (e : Ex) (bd el : List St) : hL (.node 3 ⟨#[]⟩ [] e zE [] 0 0 bd el) = ifL ++ 32 :: (tE e ++ [32, 123]) := by
  unfold hL
  rw [headB3 rfl]
  simp [St.e, txS_list, tE, ifL]
theorem h_4 (e : Ex) (bd : List St) : hL (.node 4 ⟨#[]⟩ [] e zE [] 0 0 bd []) = whileL ++ 32 :: (tE e ++ [32, 123]) := by
  unfold hL
  rw [headB4 rfl]
  simp [St.e, txS_list, tE, whileL]
theorem h_5 (nm : ByteArray) (lo hi : Nat) (bd : List St) : hL (.node 5 nm [] zE zE [] lo hi bd []) = forL ++ 32 :: (nm.data.toList ++ 32 :: (decDigits lo ++ 32 :: (decDigits hi ++ [32, 123]))) := by
  unfold hL
  rw [headB5 rfl]
  simp [St.nm, St.lo, St.hi, forL, numT]
def callL (nm : ByteArray) (ars : List Ex) : List UInt8 := nm.data.toList ++ 40 :: (aL ars ++ [41, 59])
theorem h_6 (nm : ByteArray) (ns : List ByteArray) (ars : List Ex) : hL (.node 6 nm ns zE zE ars 0 0 [] []) = match ns with | [] => callL nm ars | n :: r => nL (n :: r) ++ 32 :: 61 :: 32 :: callL nm ars := by
  unfold hL
  rw [headB6 rfl]
  unfold callB
  cases ns with
  | nil =>
    rw [if_pos (show (St.node 6 nm [] zE zE ars 0 0 [] []).ns.length = 0 from rfl)]
    simp only [St.nm, St.ars, ba_app, listT_args, callL]
    simp
  | cons n r =>
    rw [if_neg (by simp [St.ns])]
    simp only [St.nm, St.ars, St.ns, ba_app, listT_args, callL]
    rw [listT_names]
    simp
/-- does a text go on as a call does? -/
def isCall (q : List UInt8) : Bool := lowB (q.headD 0) && (decide (q.takeWhile partB ≠ pickL) && decide ((q.dropWhile partB).head? = some 40))
theorem isCall_call {nm : ByteArray} (h : GoodN nm) (r : List UInt8) : isCall (nm.data.toList ++ 40 :: r) = true := by
  have hn := name_ok h
  obtain ⟨h1, h2⟩ := take_part (r := 40 :: r) hn.part (head_cons_part (by decide))
  obtain ⟨c, t, hl, hc⟩ := hn.low
  have hp := pick_own hn
  unfold isCall
  rw [h1, h2]
  rw [hl] at hp ⊢
  rw [List.cons_append, List.headD_cons, hc]
  simp [hp]
theorem isCall_expr {e : Ex} (h : GoodE e) (r : List UInt8) : isCall (tE e ++ 59 :: r) = false := by
  have hs := shp_of h.1 h.2
  have hst := stop59 r
  unfold isCall
  cases hs with
  | c u hu =>
    rw [t_c hu]
    have hne := dec_ne u
    have ha := dec_all u
    cases h : decDigits u with
    | nil => exact absurd h hne
    | cons c t =>
      rw [h] at ha
      have hd := List.all_eq_true.1 ha c List.mem_cons_self
      have : lowB c = false := by
        cases hl : lowB c with
        | false => rfl
        | true => rw [low_nodig hl] at hd; cases hd
      rw [List.cons_append, List.headD_cons, this]
      rfl
  | v nm hn =>
    rw [t_v]
    obtain ⟨h1, h2⟩ := take_part hn.part hst.part
    rw [h1, h2]
    simp
  | i nm x hn _ _ =>
    rw [t_i, List.append_assoc, List.cons_append]
    obtain ⟨h1, h2⟩ := take_part (r := 91 :: (tE x ++ [93] ++ 59 :: r)) hn.part (head_cons_part (by decide))
    rw [h1, h2]
    simp
  | n x _ _ => rw [t_n, List.cons_append, List.headD_cons]; rfl
  | m x _ _ => rw [t_m, List.cons_append, List.headD_cons]; rfl
  | p x y z _ _ _ _ _ _ =>
    rw [t_p, List.append_assoc, List.cons_append]
    obtain ⟨h1, h2⟩ := take_part (r := 40 :: (tE x ++ 44 :: 32 :: (tE y ++ 44 :: 32 :: (tE z ++ [41])) ++ 59 :: r)) pick_part (head_cons_part (by decide))
    rw [h1, h2]
    simp
  | b op x y h1 h2 _ _ _ _ => rw [t_b h1 h2, List.cons_append, List.headD_cons]; rfl
/-- which kind of statement a line begins -/
def clsS (l : List UInt8) : Int :=
  if l.takeWhile partB = ifL then 3 else if l.takeWhile partB = whileL then 4 else if l.takeWhile partB = forL then 5 else if (l.dropWhile partB).head? = some 91 then 2 else if (l.dropWhile partB).head? = some 40 then 6 else if (l.dropWhile partB).head? = some 44 then 6
  else if isCall ((l.dropWhile partB).drop 3) = true then 6 else 1
theorem own_words {l : List UInt8} (h : NameOk l) : l ≠ ifL ∧ l ≠ whileL ∧ l ≠ forL :=
  ⟨h.own ⟨#[105, 102]⟩ (by simp [ownW]), h.own ⟨#[119, 104, 105, 108, 101]⟩ (by simp [ownW]), h.own ⟨#[102, 111, 114]⟩ (by simp [ownW])⟩
theorem clsS_name {l r : List UInt8} (h : NameOk l) (hr : ∀ x, r.head? = some x → partB x = false) :
    clsS (l ++ r) = if r.head? = some 91 then 2 else if r.head? = some 40 then 6 else if r.head? = some 44 then 6 else if isCall (r.drop 3) = true then 6 else 1 := by
  obtain ⟨h1, h2⟩ := take_part h.part hr
  obtain ⟨n1, n2, n3⟩ := own_words h
  unfold clsS
  rw [h1, h2, if_neg n1, if_neg n2, if_neg n3]
theorem clsS_hL {x : St} (h : ShpS x) : clsS (hL x) = x.kd := by
  cases h with
  | s1 nm e hn he =>
    rw [h_1, clsS_name (name_ok hn) (head_cons_part (by decide)), if_neg (by simp), if_neg (by simp), if_neg (by simp)]
    rw [show (32 :: 61 :: 32 :: (tE e ++ [59]) : List UInt8).drop 3 = tE e ++ [59] from rfl, isCall_expr he]
    rfl
  | s2 nm a e hn ha he => rw [h_2, clsS_name (name_ok hn) (head_cons_part (by decide)), if_pos (by simp)]; rfl
  | s3 e bd el he =>
    rw [h_3]
    obtain ⟨h1, h2⟩ := take_part (a := ifL) (r := 32 :: (tE e ++ [32, 123])) (by decide) (head_cons_part (by decide))
    unfold clsS
    rw [h1, if_pos rfl]
    rfl
  | s4 e bd he =>
    rw [h_4]
    obtain ⟨h1, h2⟩ := take_part (a := whileL) (r := 32 :: (tE e ++ [32, 123])) (by decide) (head_cons_part (by decide))
    unfold clsS
    rw [h1, if_neg (by decide), if_pos rfl]
    rfl
  | s5 nm lo hi bd hn =>
    rw [h_5]
    obtain ⟨h1, h2⟩ := take_part (a := forL) (r := 32 :: (nm.data.toList ++ 32 :: (decDigits lo ++ 32 :: (decDigits hi ++ [32, 123])))) (by decide) (head_cons_part (by decide))
    unfold clsS
    rw [h1, if_neg (by decide), if_neg (by decide), if_pos rfl]
    rfl
  | s6 nm ns ars hn hns ha =>
    rw [h_6]
    cases ns with
    | nil =>
      show clsS (callL nm ars) = _
      unfold callL
      rw [clsS_name (name_ok hn) (head_cons_part (by decide)), if_neg (by simp), if_pos (by simp)]
      rfl
    | cons n r =>
      show clsS (nL (n :: r) ++ 32 :: 61 :: 32 :: callL nm ars) = _
      rw [nL, List.append_assoc, clsS_name (name_ok (hns n List.mem_cons_self)) (ntail_head r 32 (by decide) _)]
      cases r with
      | nil =>
        rw [ntail, List.nil_append, if_neg (by simp), if_neg (by simp), if_neg (by simp)]
        rw [show (32 :: 61 :: 32 :: callL nm ars : List UInt8).drop 3 = callL nm ars from rfl]
        unfold callL
        rw [isCall_call hn]
        rfl
      | cons m r => rw [ntail, if_neg (by simp), if_neg (by simp), if_pos (by simp)]; rfl
/-- two statements alike but for their bodies -/
def headOf (x : St) : St := match x with | .node kd nm ns e a ars lo hi _ _ => .node kd nm ns e a ars lo hi [] []
theorem end59 {e f : Ex} (he : GoodE e) (hf : GoodE f) {r s : List UInt8} (h : tE e ++ 59 :: r = tE f ++ 59 :: s) : e = f ∧ r = s := by
  obtain ⟨h1, h2⟩ := tE_inj he.1 hf.1 he.2 hf.2 (stop59 r) (stop59 s) h
  injection h2 with _ h2
  exact ⟨h1, h2⟩
theorem end32 {e f : Ex} (he : GoodE e) (hf : GoodE f) {r s : List UInt8} (h : tE e ++ 32 :: r = tE f ++ 32 :: s) : e = f ∧ r = s := by
  obtain ⟨h1, h2⟩ := tE_inj he.1 hf.1 he.2 hf.2 (stop32 r) (stop32 s) h
  injection h2 with _ h2
  exact ⟨h1, h2⟩
theorem call_inj {nm nm' : ByteArray} {ars ars' : List Ex} (hn : GoodN nm) (hn' : GoodN nm') (ha : ∀ e ∈ ars, GoodE e) (ha' : ∀ e ∈ ars', GoodE e) (h : callL nm ars = callL nm' ars') : nm = nm' ∧ ars = ars' := by
  unfold callL at h
  obtain ⟨h1, h2⟩ := span_pre (name_ok hn).part (name_ok hn').part (head_cons_part (by decide)) (head_cons_part (by decide)) h
  injection h2 with _ h2
  obtain ⟨h3, _⟩ := aL_pre ars ars' ha ha' [59] [59] h2
  exact ⟨ba_ext h1, h3⟩
theorem hL_inj {x y : St} (hx : ShpS x) (hy : ShpS y) (h : hL x = hL y) : headOf x = headOf y := by
  have hk : x.kd = y.kd := by rw [← clsS_hL hx, ← clsS_hL hy, h]
  cases hx with
  | s1 nm e hn he =>
    cases hy with
    | s1 nm' e' hn' he' =>
      rw [h_1, h_1] at h
      obtain ⟨h1, h2⟩ := span_pre (name_ok hn).part (name_ok hn').part (head_cons_part (by decide)) (head_cons_part (by decide)) h
      simp only [List.cons.injEq, true_and] at h2
      obtain ⟨h3, _⟩ := end59 he he' h2
      rw [ba_ext h1, h3]
    | _ => simp [St.kd] at hk
  | s2 nm a e hn ha he =>
    cases hy with
    | s2 nm' a' e' hn' ha' he' =>
      rw [h_2, h_2] at h
      obtain ⟨h1, h2⟩ := span_pre (name_ok hn).part (name_ok hn').part (head_cons_part (by decide)) (head_cons_part (by decide)) h
      simp only [List.cons.injEq, true_and] at h2
      obtain ⟨h3, h4⟩ := tE_inj ha.1 ha'.1 ha.2 ha'.2 (stop93 _) (stop93 _) h2
      simp only [List.cons.injEq, true_and] at h4
      obtain ⟨h5, _⟩ := end59 he he' h4
      rw [ba_ext h1, h3, h5]
    | _ => simp [St.kd] at hk
  | s3 e bd el he =>
    cases hy with
    | s3 e' bd' el' he' =>
      rw [h_3, h_3] at h
      have h := List.append_cancel_left h
      simp only [List.cons.injEq, true_and] at h
      obtain ⟨h3, _⟩ := end32 he he' h
      simp only [headOf, h3]
    | _ => simp [St.kd] at hk
  | s4 e bd he =>
    cases hy with
    | s4 e' bd' he' =>
      rw [h_4, h_4] at h
      have h := List.append_cancel_left h
      simp only [List.cons.injEq, true_and] at h
      obtain ⟨h3, _⟩ := end32 he he' h
      simp only [headOf, h3]
    | _ => simp [St.kd] at hk
  | s5 nm lo hi bd hn =>
    cases hy with
    | s5 nm' lo' hi' bd' hn' =>
      rw [h_5, h_5] at h
      have h := List.append_cancel_left h
      simp only [List.cons.injEq, true_and] at h
      obtain ⟨h1, h2⟩ := span_pre (name_ok hn).part (name_ok hn').part (head_cons_part (by decide)) (head_cons_part (by decide)) h
      simp only [List.cons.injEq, true_and] at h2
      obtain ⟨h3, h4⟩ := span_pre (dec_part lo) (dec_part lo') (head_cons_part (by decide)) (head_cons_part (by decide)) h2
      simp only [List.cons.injEq, true_and] at h4
      obtain ⟨h5, _⟩ := span_pre (dec_part hi) (dec_part hi') (head_cons_part (by decide)) (head_cons_part (by decide)) h4
      simp only [headOf, ba_ext h1, dec_inj h3, dec_inj h5]
    | _ => simp [St.kd] at hk
  | s6 nm ns ars hn hns ha =>
    cases hy with
    | s6 nm' ns' ars' hn' hns' ha' =>
      rw [h_6, h_6] at h
      cases ns with
      | nil =>
        cases ns' with
        | nil =>
          obtain ⟨h1, h2⟩ := call_inj hn hn' ha ha' h
          rw [h1, h2]
        | cons n r =>
          exfalso
          replace h : callL nm ars = nL (n :: r) ++ 32 :: 61 :: 32 :: callL nm' ars' := h
          unfold callL at h
          rw [nL, List.append_assoc] at h
          obtain ⟨_, h2⟩ := span_pre (name_ok hn).part (name_ok (hns' n List.mem_cons_self)).part (head_cons_part (by decide)) (ntail_head r 32 (by decide) _) h
          cases r with
          | nil => rw [ntail, List.nil_append] at h2; injection h2 with h2 _; exact absurd h2 (by decide)
          | cons m r => rw [ntail, List.cons_append] at h2; injection h2 with h2 _; exact absurd h2 (by decide)
      | cons n r =>
        cases ns' with
        | nil =>
          exfalso
          replace h : nL (n :: r) ++ 32 :: 61 :: 32 :: callL nm ars = callL nm' ars' := h
          unfold callL at h
          rw [nL, List.append_assoc] at h
          obtain ⟨_, h2⟩ := span_pre (name_ok (hns n List.mem_cons_self)).part (name_ok hn').part (ntail_head r 32 (by decide) _) (head_cons_part (by decide)) h
          cases r with
          | nil => rw [ntail, List.nil_append] at h2; injection h2 with h2 _; exact absurd h2 (by decide)
          | cons m r => rw [ntail, List.cons_append] at h2; injection h2 with h2 _; exact absurd h2 (by decide)
        | cons n' r' =>
          replace h : nL (n :: r) ++ 32 :: 61 :: 32 :: callL nm ars = nL (n' :: r') ++ 32 :: 61 :: 32 :: callL nm' ars' := h
          obtain ⟨h1, h2⟩ := nL_pre (by decide) (by decide) hns hns' h
          simp only [List.cons.injEq, true_and] at h2
          obtain ⟨h3, h4⟩ := call_inj hn hn' ha ha' h2
          rw [h1, h3, h4]
    | _ => simp [St.kd] at hk
/-! lines of statements -/
def StopL (t : Nat) (R : List Ln) : Prop := ∀ x, R.head? = some x → x.1 < t
theorem else_ne_end : elseB ≠ endB := by decide +kernel
theorem headB_of {x y : St} (h : headB x = headB y) : hL x = hL y := by unfold hL; rw [h]
theorem headOf_inj {x y : St} (h : headOf x = headOf y) (hb : x.bd = y.bd) (he : x.el = y.el) : x = y := by
  cases x; cases y
  simp only [headOf, St.node.injEq] at h
  simp only [St.bd, St.el] at hb he
  obtain ⟨h1, h2, h3, h4, h5, h6, h7, h8, _⟩ := h
  rw [h1, h2, h3, h4, h5, h6, h7, h8, hb, he]
theorem headOf_kd {x y : St} (h : headOf x = headOf y) : x.kd = y.kd := by
  cases x; cases y
  simp only [headOf, St.node.injEq] at h
  exact h.1
theorem flat_shp {x : St} (h : ShpS x) (hf : flatK x.kd = true) : x.bd = [] ∧ x.el = [] := by
  cases h with
  | s3 => simp [flatK, St.kd] at hf
  | s4 => simp [flatK, St.kd] at hf
  | s5 => simp [flatK, St.kd] at hf
  | _ => exact ⟨rfl, rfl⟩
theorem lines_pre : ∀ (n : Nat) (L M : List St), cntSs L ≤ n → maySs L = true → maySs M = true → uSs L = true → uSs M = true → ∀ t R S, StopL t R → StopL t S → linesL t L ++ R = linesL t M ++ S → L = M ∧ R = S := by
  intro n
  induction n with
  | zero =>
    intro L M hc _ _ _ _ t R S hR hS h
    cases L with
    | cons x l => rw [cntSs] at hc; have := cntS_pos x; omega
    | nil =>
      cases M with
      | nil => rw [linesL_nil] at h; exact ⟨rfl, by simpa using h⟩
      | cons y m =>
        rw [linesL_nil, List.nil_append, linesL, linesS_eq] at h
        have := hR (t, headB y) (by rw [h]; rfl)
        exact absurd this (Nat.lt_irrefl t)
  | succ n ih =>
    intro L M hc hL hM uL uM t R S hR hS h
    cases L with
    | nil =>
      cases M with
      | nil => rw [linesL_nil] at h; exact ⟨rfl, by simpa using h⟩
      | cons y m =>
        rw [linesL_nil, List.nil_append, linesL, linesS_eq] at h
        have := hR (t, headB y) (by rw [h]; rfl)
        exact absurd this (Nat.lt_irrefl t)
    | cons x l =>
      cases M with
      | nil =>
        rw [linesL_nil, List.nil_append, linesL, linesS_eq] at h
        have := hS (t, headB x) (by rw [← h]; rfl)
        exact absurd this (Nat.lt_irrefl t)
      | cons y m =>
        rw [maySs, Bool.and_eq_true] at hL hM
        rw [uSs, Bool.and_eq_true] at uL uM
        obtain ⟨sx, xb, xe, ub, ue⟩ := shpS_of hL.1 uL.1
        obtain ⟨sy, yb, ye, vb, ve⟩ := shpS_of hM.1 uM.1
        have hcx := cntS_bd x
        rw [cntSs] at hc
        have hpx := cntS_pos x
        rw [linesL, linesL, linesS_eq, linesS_eq, List.append_assoc, List.append_assoc, List.cons_append, List.cons_append] at h
        injection h with h0 h
        have hh := hL_inj sx sy (headB_of (Prod.mk.inj h0).2)
        have hk := headOf_kd hh
        rw [← hk] at h
        cases hf : flatK x.kd with
        | true =>
          rw [hf] at h
          simp only [if_true, List.nil_append] at h
          obtain ⟨h1, h2⟩ := ih l m (by omega) hL.2 hM.2 uL.2 uM.2 t R S hR hS h
          obtain ⟨b1, b2⟩ := flat_shp sx hf
          obtain ⟨b3, b4⟩ := flat_shp sy (by rw [← hk]; exact hf)
          exact ⟨by rw [headOf_inj hh (by rw [b1, b3]) (by rw [b2, b4]), h1], h2⟩
        | false =>
          rw [hf] at h
          simp only [Bool.false_eq_true, if_false, List.append_assoc] at h
          have st : ∀ (e : List St) (Z : List Ln), StopL (t + 1) ((if e.isEmpty = true then [] else (t, elseB) :: linesL (t + 1) e) ++ ([(t, endB)] ++ Z)) := fun e Z q hq => by
            cases e with
            | nil => simp at hq; subst hq; exact Nat.lt_succ_self t
            | cons a b => simp at hq; subst hq; exact Nat.lt_succ_self t
          obtain ⟨h1, h2⟩ := ih x.bd y.bd (by omega) xb yb ub vb (t + 1) _ _ (st _ _) (st _ _) h
          have st2 : ∀ Z : List Ln, StopL (t + 1) ([(t, endB)] ++ Z) := fun Z q hq => by simp at hq; subst hq; exact Nat.lt_succ_self t
          have key : x.el = y.el ∧ linesL t l ++ R = linesL t m ++ S := by
            cases ex : x.el with
            | nil =>
              cases ey : y.el with
              | nil =>
                rw [ex, ey] at h2
                simp at h2
                exact ⟨rfl, h2⟩
              | cons b r =>
                rw [ex, ey] at h2
                simp at h2
                exact absurd h2.1.symm else_ne_end
            | cons a q =>
              cases ey : y.el with
              | nil =>
                rw [ex, ey] at h2
                simp at h2
                exact absurd h2.1 else_ne_end
              | cons b r =>
                rw [← ex, ← ey]
                rw [ex, ey] at h2
                simp only [List.isEmpty_cons, Bool.false_eq_true, if_false, List.cons_append, List.cons.injEq, true_and] at h2
                rw [← ex, ← ey] at h2
                obtain ⟨h3, h4⟩ := ih x.el y.el (by omega) xe ye ue ve (t + 1) _ _ (st2 _) (st2 _) h2
                exact ⟨h3, by simpa using h4⟩
          obtain ⟨h5, h6⟩ := key
          obtain ⟨h7, h8⟩ := ih l m (by omega) hL.2 hM.2 uL.2 uM.2 t R S hR hS h6
          exact ⟨by rw [headOf_inj hh h1 h5, h7], h8⟩
end Go.Proofs.YtnahgfdoiflacaaGreatDoor
namespace Go.Proofs.YtnahgfdoiflacaaGreatDoor
open Go.RowKit Go.Lib Go.Shelf

def baL (b : ByteArray) : List UInt8 := b.data.toList
theorem itoa_nat {n : Int} (h : 0 ≤ n) : (itoaB n).data.toList = decDigits n.toNat := by
  show Lib.itoa n = _
  unfold Lib.itoa
  rw [if_neg (by omega)]
theorem sec_part (b : Bool) (r : List UInt8) (hr : ∀ x, r.head? = some x → partB x = false) : ∀ x, (secT b ++ r).head? = some x → partB x = false := by
  cases b with
  | false => simpa [secT] using hr
  | true => exact head_cons_part (by decide)
theorem sec_split {a b : Bool} {X Y : List UInt8} (hX : ∀ x, X.head? = some x → x ≠ 32) (hY : ∀ x, Y.head? = some x → x ≠ 32) (h : secT a ++ X = secT b ++ Y) : a = b ∧ X = Y := by
  cases a with
  | false =>
    cases b with
    | false => exact ⟨rfl, by simpa [secT] using h⟩
    | true =>
      simp only [secT, List.nil_append] at h
      exact absurd rfl (hX 32 (by rw [show X = 32 :: _ from h]; rfl))
  | true =>
    cases b with
    | true => exact ⟨rfl, by simpa [secT] using h⟩
    | false =>
      simp only [secT, List.nil_append] at h
      exact absurd rfl (hY 32 (by rw [show Y = 32 :: _ from h.symm]; rfl))
theorem no32 {c : UInt8} {r : List UInt8} (h : c ≠ 32) : ∀ x, (c :: r).head? = some x → x ≠ 32 := fun b hb => by
  obtain rfl : c = b := by simpa using hb
  exact h
/-! regions -/
def regionL : List UInt8 := [114, 101, 103, 105, 111, 110]
structure RgOk (r : RegC) : Prop where
  nm : GoodN r.nm
  ad : 0 ≤ r.ad
  sz : 0 ≤ r.sz
theorem rg_ok {r : RegC} (h : mayRg r = true) : RgOk r := by
  unfold mayRg at h
  simp only [Bool.and_eq_true, decide_eq_true_eq] at h
  exact ⟨h.1, h.2.1, h.2.2⟩
theorem regB_l {r : RegC} (h : RgOk r) : (regB r).data.toList = regionL ++ 32 :: (r.nm.data.toList ++ 32 :: (decDigits r.ad.toNat ++ 32 :: (decDigits r.sz.toNat ++ (secT r.sc ++ [59])))) := by
  unfold regB
  simp only [ba_app, itoa_nat h.ad, itoa_nat h.sz]
  simp [regionL]
theorem reg_inj {r s : RegC} (hr : RgOk r) (hs : RgOk s) (h : regB r = regB s) : r = s := by
  have h := congrArg baL h
  unfold baL at h
  rw [regB_l hr, regB_l hs] at h
  have h := List.append_cancel_left h
  simp only [List.cons.injEq, true_and] at h
  obtain ⟨h1, h2⟩ := span_pre (name_ok hr.nm).part (name_ok hs.nm).part (head_cons_part (by decide)) (head_cons_part (by decide)) h
  simp only [List.cons.injEq, true_and] at h2
  obtain ⟨h3, h4⟩ := span_pre (dec_part _) (dec_part _) (head_cons_part (by decide)) (head_cons_part (by decide)) h2
  simp only [List.cons.injEq, true_and] at h4
  obtain ⟨h5, h6⟩ := span_pre (dec_part _) (dec_part _) (sec_part r.sc [59] (head_cons_part (by decide))) (sec_part s.sc [59] (head_cons_part (by decide))) h4
  obtain ⟨h7, _⟩ := sec_split (no32 (by decide)) (no32 (by decide)) h6
  have e1 := ba_ext h1
  have e2 := dec_inj h3
  have e3 := dec_inj h5
  have := hr.ad; have := hr.sz; have := hs.ad; have := hs.sz
  cases r; cases s
  dsimp only at *
  simp only [RegC.mk.injEq]
  exact ⟨e1, by omega, by omega, h7⟩
/-! parameters -/
def pB (v : VarC) : List UInt8 := v.nm.data.toList ++ secT v.sc
def ptail : List VarC → List UInt8
  | [] => []
  | v :: r => 44 :: 32 :: (pB v ++ ptail r)
def pL : List VarC → List UInt8
  | [] => []
  | v :: r => pB v ++ ptail r
theorem commas_pL : ∀ l : List VarC, commas (l.map pB) = pL l
  | [] => rfl
  | [e] => by simp [commas, pL, ptail]
  | e :: f :: r => by
    have h := commas_pL (f :: r)
    rw [List.map_cons, List.map_cons, commas]
    rw [List.map_cons] at h
    rw [h]
    rfl
structure PmOk (v : VarC) : Prop where
  nm : GoodN v.nm
  kd : v.kd = 1
  sz : v.sz = 0
theorem pm_ok {v : VarC} (h : mayPm v = true) : PmOk v := by
  unfold mayPm at h
  simp only [Bool.and_eq_true, beq_iff_eq] at h
  exact ⟨h.1, h.2.1, h.2.2⟩
theorem pm_eq {v u : VarC} (hv : PmOk v) (hu : PmOk u) (h1 : v.nm = u.nm) (h2 : v.sc = u.sc) : v = u := by
  have := hv.kd; have := hv.sz; have := hu.kd; have := hu.sz
  cases v; cases u
  dsimp only at *
  simp only [VarC.mk.injEq]
  exact ⟨h1, by omega, by omega, h2⟩
theorem ptail_part (l : List VarC) (r : List UInt8) : ∀ x, (ptail l ++ 41 :: r).head? = some x → partB x = false := by
  cases l with
  | nil => exact head_cons_part (by decide)
  | cons n ns => exact head_cons_part (by decide)
theorem ptail_no32 (l : List VarC) (r : List UInt8) : ∀ x, (ptail l ++ 41 :: r).head? = some x → x ≠ 32 := by
  cases l with
  | nil => exact no32 (by decide)
  | cons n ns => exact no32 (by decide)
theorem pB_pre {v u : VarC} {l m : List VarC} {r s : List UInt8} (hv : PmOk v) (hu : PmOk u) (h : pB v ++ (ptail l ++ 41 :: r) = pB u ++ (ptail m ++ 41 :: s)) : v = u ∧ ptail l ++ 41 :: r = ptail m ++ 41 :: s := by
  unfold pB at h
  rw [List.append_assoc, List.append_assoc] at h
  obtain ⟨h1, h2⟩ := span_pre (name_ok hv.nm).part (name_ok hu.nm).part (sec_part v.sc _ (ptail_part l r)) (sec_part u.sc _ (ptail_part m s)) h
  obtain ⟨h3, h4⟩ := sec_split (ptail_no32 l r) (ptail_no32 m s) h2
  exact ⟨pm_eq hv hu (ba_ext h1) h3, h4⟩
theorem ptail_pre : ∀ (l m : List VarC), (∀ v ∈ l, PmOk v) → (∀ v ∈ m, PmOk v) → ∀ r s, ptail l ++ 41 :: r = ptail m ++ 41 :: s → l = m ∧ r = s
  | [], [], _, _, r, s, h => ⟨rfl, by simpa [ptail] using h⟩
  | [], f :: m, _, _, r, s, h => by
    simp only [ptail, List.nil_append, List.cons_append] at h
    injection h with h _
    exact absurd h (by decide)
  | e :: l, [], _, _, r, s, h => by
    simp only [ptail, List.nil_append, List.cons_append] at h
    injection h with h _
    exact absurd h (by decide)
  | e :: l, f :: m, hl, hm, r, s, h => by
    simp only [ptail, List.cons_append, List.append_assoc] at h
    injection h with _ h
    injection h with _ h
    obtain ⟨h1, h2⟩ := pB_pre (hl e List.mem_cons_self) (hm f List.mem_cons_self) h
    obtain ⟨h3, h4⟩ := ptail_pre l m (fun x hx => hl x (List.mem_cons_of_mem _ hx)) (fun x hx => hm x (List.mem_cons_of_mem _ hx)) r s h2
    exact ⟨by rw [h1, h3], h4⟩
theorem pL_pre : ∀ (l m : List VarC), (∀ v ∈ l, PmOk v) → (∀ v ∈ m, PmOk v) → ∀ r s, pL l ++ 41 :: r = pL m ++ 41 :: s → l = m ∧ r = s
  | [], [], _, _, r, s, h => ⟨rfl, by simpa [pL] using h⟩
  | [], f :: m, _, hm, r, s, h => by
    obtain ⟨c, t, hc, hl⟩ := (name_ok (hm f List.mem_cons_self).nm).low
    simp only [pL, pB, List.nil_append, hc, List.cons_append] at h
    injection h with h _
    rw [← h] at hl
    exact absurd hl (by decide)
  | e :: l, [], hl, _, r, s, h => by
    obtain ⟨c, t, hc, hl⟩ := (name_ok (hl e List.mem_cons_self).nm).low
    simp only [pL, pB, List.nil_append, hc, List.cons_append] at h
    injection h with h _
    rw [h] at hl
    exact absurd hl (by decide)
  | e :: l, f :: m, hl, hm, r, s, h => by
    simp only [pL, List.append_assoc] at h
    obtain ⟨h1, h2⟩ := pB_pre (hl e List.mem_cons_self) (hm f List.mem_cons_self) h
    obtain ⟨h3, h4⟩ := ptail_pre l m (fun x hx => hl x (List.mem_cons_of_mem _ hx)) (fun x hx => hm x (List.mem_cons_of_mem _ hx)) r s h2
    exact ⟨by rw [h1, h3], h4⟩
/-! variables -/
def varL : List UInt8 := [118, 97, 114]
def arrayL : List UInt8 := [97, 114, 114, 97, 121]
def stackL : List UInt8 := [115, 116, 97, 99, 107]
inductive ShpV : VarC → Prop
  | v1 (nm : ByteArray) (hn : GoodN nm) : ShpV ⟨nm, 1, 0, false⟩
  | v2 (nm : ByteArray) (sz : Int) (sc : Bool) (hn : GoodN nm) (h0 : 0 ≤ sz) : ShpV ⟨nm, 2, sz, sc⟩
  | v3 (nm : ByteArray) (sz : Int) (sc : Bool) (hn : GoodN nm) (h0 : 0 ≤ sz) : ShpV ⟨nm, 3, sz, sc⟩
theorem shpV_of {v : VarC} (h : mayVr v = true) : ShpV v := by
  unfold mayVr at h
  simp only [Bool.and_eq_true, Bool.or_eq_true, beq_iff_eq, decide_eq_true_eq, Bool.not_eq_true'] at h
  obtain ⟨nm, kd, sz, sc⟩ := v
  dsimp only at h
  obtain ⟨hn, ⟨hk | hk, h0⟩ | ⟨hk, h0, hs⟩⟩ := h
  · subst hk; exact .v2 nm sz sc hn h0
  · subst hk; exact .v3 nm sz sc hn h0
  · subst hk; subst h0; subst hs; exact .v1 nm hn
theorem v_1 (nm : ByteArray) : (varB ⟨nm, 1, 0, false⟩).data.toList = varL ++ 32 :: (nm.data.toList ++ [59]) := by
  unfold varB
  rw [if_neg (by simp), if_neg (by simp)]
  simp [varL]
theorem v_2 (nm : ByteArray) {sz : Int} (sc : Bool) (h0 : 0 ≤ sz) : (varB ⟨nm, 2, sz, sc⟩).data.toList = arrayL ++ 32 :: (nm.data.toList ++ 32 :: (decDigits sz.toNat ++ (secT sc ++ [59]))) := by
  unfold varB
  rw [if_pos rfl]
  simp only [ba_app, itoa_nat h0]
  simp [arrayL]
theorem v_3 (nm : ByteArray) {sz : Int} (sc : Bool) (h0 : 0 ≤ sz) : (varB ⟨nm, 3, sz, sc⟩).data.toList = stackL ++ 32 :: (nm.data.toList ++ 32 :: (decDigits sz.toNat ++ (secT sc ++ [59]))) := by
  unfold varB
  rw [if_neg (by simp), if_pos rfl]
  simp only [ba_app, itoa_nat h0]
  simp [stackL]
/-- a line's first word -/
def fw (l : List UInt8) : List UInt8 := l.takeWhile partB
theorem fw_app {a : List UInt8} {c : UInt8} {r : List UInt8} (ha : ∀ x ∈ a, partB x = true) (hc : partB c = false) : fw (a ++ c :: r) = a := (take_part ha (head_cons_part hc)).1
theorem fw_var {v : VarC} (h : ShpV v) : fw (varB v).data.toList = if v.kd = 1 then varL else if v.kd = 2 then arrayL else stackL := by
  cases h with
  | v1 nm hn => rw [v_1, fw_app (by decide) (by decide)]; rfl
  | v2 nm sz sc hn h0 => rw [v_2 nm sc h0, fw_app (by decide) (by decide)]; rfl
  | v3 nm sz sc hn h0 => rw [v_3 nm sc h0, fw_app (by decide) (by decide)]; rfl
theorem var_inj {v u : VarC} (hv : ShpV v) (hu : ShpV u) (h : varB v = varB u) : v = u := by
  have hf : fw (varB v).data.toList = fw (varB u).data.toList := by rw [h]
  rw [fw_var hv, fw_var hu] at hf
  have h := congrArg baL h
  unfold baL at h
  have two : ∀ {nm nm' : ByteArray} {sz sz' : Int} {sc sc' : Bool}, GoodN nm → GoodN nm' → 0 ≤ sz → 0 ≤ sz' → nm.data.toList ++ 32 :: (decDigits sz.toNat ++ (secT sc ++ [59])) = nm'.data.toList ++ 32 :: (decDigits sz'.toNat ++ (secT sc' ++ [59])) → nm = nm' ∧ sz = sz' ∧ sc = sc' := by
    intro nm nm' sz sz' sc sc' hn hn' h0 h0' h
    obtain ⟨h1, h2⟩ := span_pre (name_ok hn).part (name_ok hn').part (head_cons_part (by decide)) (head_cons_part (by decide)) h
    simp only [List.cons.injEq, true_and] at h2
    obtain ⟨h5, h6⟩ := span_pre (dec_part _) (dec_part _) (sec_part sc [59] (head_cons_part (by decide))) (sec_part sc' [59] (head_cons_part (by decide))) h2
    obtain ⟨h7, _⟩ := sec_split (no32 (by decide)) (no32 (by decide)) h6
    have := dec_inj h5
    exact ⟨ba_ext h1, by omega, h7⟩
  cases hv with
  | v1 nm hn =>
    cases hu with
    | v1 nm' hn' =>
      rw [v_1, v_1] at h
      have h := List.append_cancel_left h
      simp only [List.cons.injEq, true_and] at h
      obtain ⟨h1, _⟩ := span_pre (name_ok hn).part (name_ok hn').part (head_cons_part (by decide)) (head_cons_part (by decide)) h
      rw [ba_ext h1]
    | v2 _ _ _ _ _ => exact absurd hf (by simp [varL, arrayL])
    | v3 _ _ _ _ _ => exact absurd hf (by simp [varL, stackL])
  | v2 nm sz sc hn h0 =>
    cases hu with
    | v2 nm' sz' sc' hn' h0' =>
      rw [v_2 nm sc h0, v_2 nm' sc' h0'] at h
      have h := List.append_cancel_left h
      simp only [List.cons.injEq, true_and] at h
      obtain ⟨e1, e2, e3⟩ := two hn hn' h0 h0' h
      rw [e1, e2, e3]
    | v1 _ _ => exact absurd hf (by simp [varL, arrayL])
    | v3 _ _ _ _ _ => exact absurd hf (by simp [arrayL, stackL])
  | v3 nm sz sc hn h0 =>
    cases hu with
    | v3 nm' sz' sc' hn' h0' =>
      rw [v_3 nm sc h0, v_3 nm' sc' h0'] at h
      have h := List.append_cancel_left h
      simp only [List.cons.injEq, true_and] at h
      obtain ⟨e1, e2, e3⟩ := two hn hn' h0 h0' h
      rw [e1, e2, e3]
    | v1 _ _ => exact absurd hf (by simp [varL, stackL])
    | v2 _ _ _ _ _ => exact absurd hf (by simp [arrayL, stackL])
theorem own3 {l : List UInt8} (h : NameOk l) : l ≠ varL ∧ l ≠ arrayL ∧ l ≠ stackL :=
  ⟨h.own ⟨#[118, 97, 114]⟩ (by simp [ownW]), h.own ⟨#[97, 114, 114, 97, 121]⟩ (by simp [ownW]), h.own ⟨#[115, 116, 97, 99, 107]⟩ (by simp [ownW])⟩
theorem fw_head {x : St} (h : ShpS x) : fw (hL x) ≠ varL ∧ fw (hL x) ≠ arrayL ∧ fw (hL x) ≠ stackL := by
  cases h with
  | s1 nm e hn he => rw [h_1, fw_app (name_ok hn).part (by decide)]; exact own3 (name_ok hn)
  | s2 nm a e hn ha he => rw [h_2, fw_app (name_ok hn).part (by decide)]; exact own3 (name_ok hn)
  | s3 e bd el he => rw [h_3, fw_app (by decide) (by decide)]; exact ⟨by decide, by decide, by decide⟩
  | s4 e bd he => rw [h_4, fw_app (by decide) (by decide)]; exact ⟨by decide, by decide, by decide⟩
  | s5 nm lo hi bd hn => rw [h_5, fw_app (by decide) (by decide)]; exact ⟨by decide, by decide, by decide⟩
  | s6 nm ns ars hn hns ha =>
    rw [h_6]
    cases ns with
    | nil =>
      show fw (callL nm ars) ≠ _ ∧ fw (callL nm ars) ≠ _ ∧ fw (callL nm ars) ≠ _
      unfold callL
      rw [fw_app (name_ok hn).part (by decide)]
      exact own3 (name_ok hn)
    | cons n r =>
      have e : fw (nL (n :: r) ++ 32 :: 61 :: 32 :: callL nm ars) = n.data.toList := by
        rw [nL, List.append_assoc]
        exact (take_part (name_ok (hns n List.mem_cons_self)).part (ntail_head r 32 (by decide) _)).1
      show fw (nL (n :: r) ++ 32 :: 61 :: 32 :: callL nm ars) ≠ _ ∧ fw (nL (n :: r) ++ 32 :: 61 :: 32 :: callL nm ars) ≠ _ ∧ fw (nL (n :: r) ++ 32 :: 61 :: 32 :: callL nm ars) ≠ _
      rw [e]
      exact own3 (name_ok (hns n List.mem_cons_self))
theorem var_no_head {v : VarC} {x : St} (hv : ShpV v) (hx : ShpS x) (h : varB v = headB x) : False := by
  obtain ⟨h1, h2, h3⟩ := fw_head hx
  have e : fw (varB v).data.toList = fw (hL x) := by rw [h]; rfl
  rw [fw_var hv] at e
  split at e
  · exact h1 e.symm
  · split at e
    · exact h2 e.symm
    · exact h3 e.symm
/-! functions -/
structure FnOk (f : Fn) : Prop where
  nm : GoodN f.nm
  ps : ∀ v ∈ f.ps, PmOk v
  vs : ∀ v ∈ f.vs, ShpV v
  rs : ∀ n ∈ f.rs, GoodN n
  bd : maySs f.bd = true
  ub : uSs f.bd = true
theorem fn_ok {f : Fn} (h : mayFn f = true) (hu : uSs f.bd = true) : FnOk f := by
  unfold mayFn mayT at h
  simp only [Bool.and_eq_true, List.all_eq_true, decide_eq_true_eq] at h
  exact ⟨h.1, fun v hv => pm_ok (h.2.1 v hv), fun v hv => shpV_of (h.2.2.1 v hv), h.2.2.2.1, h.2.2.2.2.2, hu⟩
def fnW : List UInt8 := [102, 110]
def rtL (rs : List ByteArray) : List UInt8 := match rs with | [] => [] | n :: r => 32 :: 45 :: 62 :: 32 :: nL (n :: r)
theorem fnB_l (f : Fn) : (fnB f).data.toList = fnW ++ 32 :: (f.nm.data.toList ++ 40 :: (pL f.ps ++ 41 :: (rtL f.rs ++ [32, 123]))) := by
  have e1 : (listT (f.ps.map paramB)).data.toList = pL f.ps := by
    rw [listT_commas, List.map_map, ← commas_pL]
    congr 1
  unfold fnB fnRt fnHd
  cases hr : f.rs with
  | nil =>
    rw [if_pos (show ([] : List ByteArray).length = 0 from rfl)]
    simp only [ba_app, e1]
    simp [fnW, rtL]
  | cons n r =>
    rw [if_neg (by simp)]
    simp only [ba_app, e1]
    rw [listT_names]
    simp [fnW, rtL]
theorem fn_inj {f g : Fn} (hf : FnOk f) (hg : FnOk g) (h : fnB f = fnB g) : f.nm = g.nm ∧ f.ps = g.ps ∧ f.rs = g.rs := by
  have h := congrArg baL h
  unfold baL at h
  rw [fnB_l, fnB_l] at h
  have h := List.append_cancel_left h
  simp only [List.cons.injEq, true_and] at h
  obtain ⟨h1, h2⟩ := span_pre (name_ok hf.nm).part (name_ok hg.nm).part (head_cons_part (by decide)) (head_cons_part (by decide)) h
  simp only [List.cons.injEq, true_and] at h2
  obtain ⟨h3, h4⟩ := pL_pre f.ps g.ps hf.ps hg.ps _ _ h2
  refine ⟨ba_ext h1, h3, ?_⟩
  have r1 := hf.rs
  have r2 := hg.rs
  cases e1 : f.rs with
  | nil =>
    cases e2 : g.rs with
    | nil => rfl
    | cons m k =>
      rw [e1, e2] at h4
      simp [rtL] at h4
  | cons n l =>
    rw [e1] at r1
    cases e2 : g.rs with
    | nil =>
      rw [e1, e2] at h4
      simp [rtL] at h4
    | cons m k =>
      rw [e2] at r2
      rw [e1, e2] at h4
      simp only [rtL, List.cons_append, List.cons.injEq, true_and] at h4
      exact (nL_pre (by decide) (by decide) r1 r2 h4).1
def NotVar (X : List Ln) : Prop := ∀ x, X.head? = some x → x.1 = 0 ∨ ∃ s, ShpS s ∧ x.2 = headB s
theorem vars_pre : ∀ (l m : List VarC), (∀ v ∈ l, ShpV v) → (∀ v ∈ m, ShpV v) → ∀ X Y, NotVar X → NotVar Y → l.map (fun v => ((1, varB v) : Ln)) ++ X = m.map (fun v => ((1, varB v) : Ln)) ++ Y → l = m ∧ X = Y
  | [], [], _, _, X, Y, _, _, h => ⟨rfl, by simpa using h⟩
  | [], u :: m, _, hm, X, Y, hX, _, h => by
    simp only [List.map_nil, List.nil_append, List.map_cons, List.cons_append] at h
    rcases hX (1, varB u) (by rw [h]; rfl) with h1 | ⟨s, hs, h1⟩
    · cases h1
    · exact (var_no_head (hm u List.mem_cons_self) hs h1).elim
  | v :: l, [], hl, _, X, Y, _, hY, h => by
    simp only [List.map_nil, List.nil_append, List.map_cons, List.cons_append] at h
    rcases hY (1, varB v) (by rw [← h]; rfl) with h1 | ⟨s, hs, h1⟩
    · cases h1
    · exact (var_no_head (hl v List.mem_cons_self) hs h1).elim
  | v :: l, u :: m, hl, hm, X, Y, hX, hY, h => by
    simp only [List.map_cons, List.cons_append] at h
    injection h with h0 h
    have e := var_inj (hl v List.mem_cons_self) (hm u List.mem_cons_self) (Prod.mk.inj h0).2
    obtain ⟨h1, h2⟩ := vars_pre l m (fun x hx => hl x (List.mem_cons_of_mem _ hx)) (fun x hx => hm x (List.mem_cons_of_mem _ hx)) X Y hX hY h
    exact ⟨by rw [e, h1], h2⟩
theorem notVar_body {L : List St} (hm : maySs L = true) (hu : uSs L = true) (R : List Ln) : NotVar (linesL 1 L ++ ((0, endB) :: R)) := by
  intro x hx
  cases L with
  | nil =>
    rw [linesL_nil] at hx
    simp at hx
    subst hx
    exact .inl rfl
  | cons s l =>
    rw [maySs, Bool.and_eq_true] at hm
    rw [uSs, Bool.and_eq_true] at hu
    rw [linesL, linesS_eq] at hx
    simp at hx
    subst hx
    exact .inr ⟨s, (shpS_of hm.1 hu.1).1, rfl⟩
theorem linesF_pre {f g : Fn} (hf : FnOk f) (hg : FnOk g) {R S : List Ln} (h : linesF f ++ R = linesF g ++ S) : f = g ∧ R = S := by
  unfold linesF at h
  simp only [List.cons_append, List.append_assoc, List.nil_append] at h
  injection h with h0 h
  obtain ⟨e1, e2, e3⟩ := fn_inj hf hg (Prod.mk.inj h0).2
  obtain ⟨e4, h⟩ := vars_pre f.vs g.vs hf.vs hg.vs _ _ (notVar_body hf.bd hf.ub R) (notVar_body hg.bd hg.ub S) h
  have st : ∀ Z : List Ln, StopL 1 ((0, endB) :: Z) := fun Z q hq => by simp at hq; subst hq; exact Nat.zero_lt_one
  obtain ⟨e5, h⟩ := lines_pre _ f.bd g.bd (Nat.le_refl _) hf.bd hg.bd hf.ub hg.ub 1 _ _ (st R) (st S) h
  injection h with _ h
  refine ⟨?_, h⟩
  cases f; cases g
  dsimp only at *
  rw [e1, e2, e3, e4, e5]
theorem linesFs_inj : ∀ (l m : List Fn), (∀ f ∈ l, FnOk f) → (∀ f ∈ m, FnOk f) → linesFs l = linesFs m → l = m
  | [], [], _, _, _ => rfl
  | [], g :: m, _, _, h => by simp [linesFs, linesF] at h
  | f :: l, [], _, _, h => by simp [linesFs, linesF] at h
  | f :: l, g :: m, hl, hm, h => by
    have e : ∀ (f : Fn) (l : List Fn), linesFs (f :: l) = linesF f ++ linesFs l := fun f l => by simp [linesFs]
    rw [e, e] at h
    obtain ⟨h1, h2⟩ := linesF_pre (hl f List.mem_cons_self) (hm g List.mem_cons_self) h
    rw [h1, linesFs_inj l m (fun x hx => hl x (List.mem_cons_of_mem _ hx)) (fun x hx => hm x (List.mem_cons_of_mem _ hx)) h2]
theorem reg_no_fn (r : RegC) (f : Fn) (hr : RgOk r) : regB r ≠ fnB f := by
  intro h
  have h := congrArg baL h
  unfold baL at h
  rw [regB_l hr, fnB_l] at h
  simp [regionL, fnW] at h
theorem regs_pre : ∀ (l m : List RegC) (fs gs : List Fn), (∀ r ∈ l, RgOk r) → (∀ r ∈ m, RgOk r) → l.map (fun r => ((0, regB r) : Ln)) ++ linesFs fs = m.map (fun r => ((0, regB r) : Ln)) ++ linesFs gs → l = m ∧ linesFs fs = linesFs gs
  | [], [], fs, gs, _, _, h => ⟨rfl, by simpa using h⟩
  | [], s :: m, fs, gs, _, hm, h => by
    cases fs with
    | nil => simp [linesFs] at h
    | cons f fs =>
      simp only [linesFs, linesF, List.map_nil, List.nil_append, List.map_cons, List.flatten_cons, List.cons_append] at h
      injection h with h _
      exact absurd (Prod.mk.inj h).2.symm (reg_no_fn s f (hm s List.mem_cons_self))
  | r :: l, [], fs, gs, hl, _, h => by
    cases gs with
    | nil => simp [linesFs] at h
    | cons f gs =>
      simp only [linesFs, linesF, List.map_nil, List.nil_append, List.map_cons, List.flatten_cons, List.cons_append] at h
      injection h with h _
      exact absurd (Prod.mk.inj h).2 (reg_no_fn r f (hl r List.mem_cons_self))
  | r :: l, s :: m, fs, gs, hl, hm, h => by
    simp only [List.map_cons, List.cons_append] at h
    injection h with h0 h
    have e := reg_inj (hl r List.mem_cons_self) (hm s List.mem_cons_self) (Prod.mk.inj h0).2
    obtain ⟨h1, h2⟩ := regs_pre l m fs gs (fun x hx => hl x (List.mem_cons_of_mem _ hx)) (fun x hx => hm x (List.mem_cons_of_mem _ hx)) h
    exact ⟨by rw [e, h1], h2⟩
def uP (p : Pg) : Prop := ∀ f ∈ p.fs, uSs f.bd = true
theorem linesP_inj {p q : Pg} (hp : mayPg p = true) (hq : mayPg q = true) (up : uP p) (uq : uP q) (h : linesP p = linesP q) : p = q := by
  unfold mayPg at hp hq
  simp only [Bool.and_eq_true, List.all_eq_true] at hp hq
  obtain ⟨h1, h2⟩ := regs_pre p.rs q.rs p.fs q.fs (fun r hr => rg_ok (hp.1 r hr)) (fun r hr => rg_ok (hq.1 r hr)) h
  have h3 := linesFs_inj p.fs q.fs (fun f hf => fn_ok (hp.2 f hf) (up f hf)) (fun f hf => fn_ok (hq.2 f hf) (uq f hf)) h2
  cases p; cases q
  simp only [Pg.mk.injEq]
  exact ⟨h1, h3⟩
/-! lines' bytes -/
def LineOk (s : ByteArray) : Prop := ∀ c ∈ s.data.toList, lineC c
theorem mem_lit {l : List UInt8} (h : ∀ c ∈ l, 32 ≤ c.toNat) : ∀ c ∈ l, lineC c := h
theorem goodE_line {e : Ex} (h : GoodE e) : ∀ c ∈ tE e, lineC c := tE_line _ e (Nat.le_refl _) h.1 h.2
theorem name_line {n : ByteArray} (h : GoodN n) : ∀ c ∈ n.data.toList, lineC c := fun c hc => part_line ((name_ok h).part c hc)
theorem dec_line (u : Nat) : ∀ c ∈ decDigits u, lineC c := fun c hc => part_line (dec_part u c hc)
theorem sec_line (b : Bool) : ∀ c ∈ secT b, lineC c := by
  cases b
  · intro c hc; cases hc
  · show ∀ c ∈ secT true, 32 ≤ c.toNat
    decide
theorem line_app {a b : List UInt8} (ha : ∀ c ∈ a, lineC c) (hb : ∀ c ∈ b, lineC c) : ∀ c ∈ a ++ b, lineC c := fun c hc => (List.mem_append.1 hc).elim (ha c) (hb c)
theorem line_cons {x : UInt8} {b : List UInt8} (hx : 32 ≤ x.toNat) (hb : ∀ c ∈ b, lineC c) : ∀ c ∈ x :: b, lineC c := fun c hc => (List.mem_cons.1 hc).elim (fun e => by subst e; exact hx) (hb c)
theorem line_nil : ∀ c ∈ ([] : List UInt8), lineC c := fun c hc => by cases hc
theorem ctail_line : ∀ l : List Ex, (∀ e ∈ l, GoodE e) → ∀ c ∈ ctail l, lineC c
  | [], _ => line_nil
  | e :: l, h => line_cons (by decide) (line_cons (by decide) (line_app (goodE_line (h e List.mem_cons_self)) (ctail_line l fun x hx => h x (List.mem_cons_of_mem _ hx))))
theorem aL_line : ∀ l : List Ex, (∀ e ∈ l, GoodE e) → ∀ c ∈ aL l, lineC c
  | [], _ => line_nil
  | e :: l, h => line_app (goodE_line (h e List.mem_cons_self)) (ctail_line l fun x hx => h x (List.mem_cons_of_mem _ hx))
theorem ntail_line : ∀ l : List ByteArray, (∀ e ∈ l, GoodN e) → ∀ c ∈ ntail l, lineC c
  | [], _ => line_nil
  | e :: l, h => line_cons (by decide) (line_cons (by decide) (line_app (name_line (h e List.mem_cons_self)) (ntail_line l fun x hx => h x (List.mem_cons_of_mem _ hx))))
theorem nL_line : ∀ l : List ByteArray, (∀ e ∈ l, GoodN e) → ∀ c ∈ nL l, lineC c
  | [], _ => line_nil
  | e :: l, h => line_app (name_line (h e List.mem_cons_self)) (ntail_line l fun x hx => h x (List.mem_cons_of_mem _ hx))
theorem pB_line {v : VarC} (h : PmOk v) : ∀ c ∈ pB v, lineC c := line_app (name_line h.nm) (sec_line _)
theorem ptail_line : ∀ l : List VarC, (∀ e ∈ l, PmOk e) → ∀ c ∈ ptail l, lineC c
  | [], _ => line_nil
  | e :: l, h => line_cons (by decide) (line_cons (by decide) (line_app (pB_line (h e List.mem_cons_self)) (ptail_line l fun x hx => h x (List.mem_cons_of_mem _ hx))))
theorem pL_line : ∀ l : List VarC, (∀ e ∈ l, PmOk e) → ∀ c ∈ pL l, lineC c
  | [], _ => line_nil
  | e :: l, h => line_app (pB_line (h e List.mem_cons_self)) (ptail_line l fun x hx => h x (List.mem_cons_of_mem _ hx))
theorem call_line {nm : ByteArray} {ars : List Ex} (hn : GoodN nm) (ha : ∀ e ∈ ars, GoodE e) : ∀ c ∈ callL nm ars, lineC c :=
  line_app (name_line hn) (line_cons (by decide) (line_app (aL_line ars ha) (mem_lit (by decide))))
theorem head_line {x : St} (h : ShpS x) : LineOk (headB x) := by
  show ∀ c ∈ hL x, lineC c
  cases h with
  | s1 nm e hn he => rw [h_1]; exact line_app (name_line hn) (line_cons (by decide) (line_cons (by decide) (line_cons (by decide) (line_app (goodE_line he) (mem_lit (by decide))))))
  | s2 nm a e hn ha he => rw [h_2]; exact line_app (name_line hn) (line_cons (by decide) (line_app (goodE_line ha) (line_cons (by decide) (line_cons (by decide) (line_cons (by decide) (line_cons (by decide) (line_app (goodE_line he) (mem_lit (by decide)))))))))
  | s3 e bd el he => rw [h_3]; exact line_app (mem_lit (by decide)) (line_cons (by decide) (line_app (goodE_line he) (mem_lit (by decide))))
  | s4 e bd he => rw [h_4]; exact line_app (mem_lit (by decide)) (line_cons (by decide) (line_app (goodE_line he) (mem_lit (by decide))))
  | s5 nm lo hi bd hn => rw [h_5]; exact line_app (mem_lit (by decide)) (line_cons (by decide) (line_app (name_line hn) (line_cons (by decide) (line_app (dec_line lo) (line_cons (by decide) (line_app (dec_line hi) (mem_lit (by decide))))))))
  | s6 nm ns ars hn hns ha =>
    rw [h_6]
    cases ns with
    | nil => exact call_line hn ha
    | cons n r => exact line_app (nL_line _ hns) (line_cons (by decide) (line_cons (by decide) (line_cons (by decide) (call_line hn ha))))
theorem linesL_good : ∀ (n : Nat) (L : List St), cntSs L ≤ n → maySs L = true → uSs L = true → ∀ t, ∀ x ∈ linesL t L, LineOk x.2 := by
  intro n
  induction n with
  | zero =>
    intro L hc _ _ t x hx
    cases L with
    | nil => rw [linesL_nil] at hx; cases hx
    | cons y l => rw [cntSs] at hc; have := cntS_pos y; omega
  | succ n ih =>
    intro L hc hm hu t x hx
    cases L with
    | nil => rw [linesL_nil] at hx; cases hx
    | cons y l =>
      rw [maySs, Bool.and_eq_true] at hm
      rw [uSs, Bool.and_eq_true] at hu
      rw [cntSs] at hc
      have hp := cntS_pos y
      have hb := cntS_bd y
      obtain ⟨sy, m1, m2, u1, u2⟩ := shpS_of hm.1 hu.1
      rw [linesL, List.mem_append, linesS_eq, List.mem_cons] at hx
      rcases hx with (rfl | hx) | hx
      · exact head_line sy
      · split at hx
        · cases hx
        · rw [List.mem_append, List.mem_append] at hx
          rcases hx with hx | hx | hx
          · exact ih y.bd (by omega) m1 u1 (t + 1) x hx
          · split at hx
            · cases hx
            · rcases List.mem_cons.1 hx with rfl | hx
              · exact (mem_lit (by decide +kernel) : LineOk elseB)
              · exact ih y.el (by omega) m2 u2 (t + 1) x hx
          · obtain rfl := List.mem_singleton.1 hx
            exact (mem_lit (by decide +kernel) : LineOk endB)
      · exact ih l (by omega) hm.2 hu.2 t x hx
theorem var_line {v : VarC} (h : ShpV v) : LineOk (varB v) := by
  unfold LineOk
  cases h with
  | v1 nm hn => rw [v_1]; exact line_app (mem_lit (by decide)) (line_cons (by decide) (line_app (name_line hn) (mem_lit (by decide))))
  | v2 nm sz sc hn h0 => rw [v_2 nm sc h0]; exact line_app (mem_lit (by decide)) (line_cons (by decide) (line_app (name_line hn) (line_cons (by decide) (line_app (dec_line _) (line_app (sec_line _) (mem_lit (by decide)))))))
  | v3 nm sz sc hn h0 => rw [v_3 nm sc h0]; exact line_app (mem_lit (by decide)) (line_cons (by decide) (line_app (name_line hn) (line_cons (by decide) (line_app (dec_line _) (line_app (sec_line _) (mem_lit (by decide)))))))
theorem rt_line : ∀ rs : List ByteArray, (∀ n ∈ rs, GoodN n) → ∀ c ∈ rtL rs, lineC c
  | [], _ => line_nil
  | n :: r, h => line_cons (by decide) (line_cons (by decide) (line_cons (by decide) (line_cons (by decide) (nL_line _ h))))
theorem linesP_good {p : Pg} (hp : mayPg p = true) (up : uP p) : ∀ x ∈ linesP p, LineOk x.2 := by
  intro x hx
  unfold mayPg at hp
  simp only [Bool.and_eq_true, List.all_eq_true] at hp
  unfold linesP linesFs at hx
  rw [List.mem_append] at hx
  rcases hx with hx | hx
  · obtain ⟨r, hr, rfl⟩ := List.mem_map.1 hx
    have ho := rg_ok (hp.1 r hr)
    show LineOk (regB r)
    unfold LineOk
    rw [regB_l ho]
    exact line_app (mem_lit (by decide)) (line_cons (by decide) (line_app (name_line ho.nm) (line_cons (by decide) (line_app (dec_line _) (line_cons (by decide) (line_app (dec_line _) (line_app (sec_line _) (mem_lit (by decide)))))))))
  · obtain ⟨l, hl, hx⟩ := List.mem_flatten.1 hx
    obtain ⟨f, hf, rfl⟩ := List.mem_map.1 hl
    have ho := fn_ok (hp.2 f hf) (up f hf)
    unfold linesF at hx
    rcases List.mem_cons.1 hx with rfl | hx
    · show LineOk (fnB f)
      unfold LineOk
      rw [fnB_l]
      exact line_app (mem_lit (by decide)) (line_cons (by decide) (line_app (name_line ho.nm) (line_cons (by decide) (line_app (pL_line _ ho.ps) (line_cons (by decide) (line_app (rt_line _ ho.rs) (mem_lit (by decide))))))))
    · rw [List.mem_append, List.mem_append] at hx
      rcases hx with hx | hx | hx
      · obtain ⟨v, hv, rfl⟩ := List.mem_map.1 hx
        exact var_line (ho.vs v hv)
      · exact linesL_good _ f.bd (Nat.le_refl _) ho.bd ho.ub 1 x hx
      · obtain rfl := List.mem_singleton.1 hx
        exact (mem_lit (by decide +kernel) : LineOk endB)
/-! lines out of their text -/
theorem lineT_l (t : Nat) (s : ByteArray) : (lineT t s).data.toList = List.replicate t 9 ++ (s.data.toList ++ [10]) := by
  unfold lineT
  have e : Lib.repeatL [9] t = List.replicate t 9 := by
    have := Lib.repeatL_replicate 9 1 t
    rw [Nat.mul_one] at this
    exact this
  rw [ba_app, ba_app, e]
  simp
theorem line_no {s : ByteArray} (h : LineOk s) : (∀ c ∈ s.data.toList, c ≠ 10) ∧ ∀ c ∈ s.data.toList, c ≠ 9 := by
  refine ⟨fun c hc e => ?_, fun c hc e => ?_⟩
  · have := h c hc
    subst e
    exact absurd this (by unfold lineC; decide)
  · have := h c hc
    subst e
    exact absurd this (by unfold lineC; decide)
theorem tabs_pre : ∀ (t u : Nat) (X Y : List UInt8), (∀ x, X.head? = some x → x ≠ 9) → (∀ x, Y.head? = some x → x ≠ 9) → List.replicate t 9 ++ X = List.replicate u 9 ++ Y → t = u ∧ X = Y
  | 0, 0, X, Y, _, _, h => ⟨rfl, by simpa using h⟩
  | 0, u + 1, X, Y, hX, _, h => by
    rw [List.replicate_succ, List.replicate_zero, List.nil_append, List.cons_append] at h
    exact absurd rfl (hX 9 (by rw [h]; rfl))
  | t + 1, 0, X, Y, _, hY, h => by
    rw [List.replicate_succ, List.replicate_zero, List.nil_append, List.cons_append] at h
    exact absurd rfl (hY 9 (by rw [← h]; rfl))
  | t + 1, u + 1, X, Y, hX, hY, h => by
    rw [List.replicate_succ, List.replicate_succ, List.cons_append, List.cons_append] at h
    injection h with _ h
    obtain ⟨h1, h2⟩ := tabs_pre t u X Y hX hY h
    exact ⟨by rw [h1], h2⟩
theorem head_no9 {s : ByteArray} (h : LineOk s) (r : List UInt8) : ∀ x, (s.data.toList ++ 10 :: r).head? = some x → x ≠ 9 := by
  obtain ⟨_, h9⟩ := line_no h
  cases hs : s.data.toList with
  | nil =>
    intro x hx
    simp at hx
    subst hx
    decide
  | cons c t =>
    intro x hx
    simp at hx
    subst hx
    exact h9 c (by rw [hs]; exact List.mem_cons_self)
theorem textL_inj : ∀ (l m : List Ln), (∀ x ∈ l, LineOk x.2) → (∀ x ∈ m, LineOk x.2) → textL l = textL m → l = m
  | [], [], _, _, _ => rfl
  | [], y :: m, _, _, h => by
    exfalso
    have := congrArg List.length h
    simp [textL, lineT_l] at this
  | x :: l, [], _, _, h => by
    exfalso
    have := congrArg List.length h
    simp [textL, lineT_l] at this
  | x :: l, y :: m, hl, hm, h => by
    have e : ∀ (x : Ln) (l : List Ln), textL (x :: l) = List.replicate x.1 9 ++ (x.2.data.toList ++ 10 :: textL l) := fun x l => by
      simp [textL, lineT_l]
    rw [e, e] at h
    have hx := hl x List.mem_cons_self
    have hy := hm y List.mem_cons_self
    obtain ⟨h1, h2⟩ := tabs_pre _ _ _ _ (head_no9 hx _) (head_no9 hy _) h
    obtain ⟨h3, h4⟩ := split_at (line_no hx).1 (line_no hy).1 h2
    have h5 := textL_inj l m (fun z hz => hl z (List.mem_cons_of_mem _ hz)) (fun z hz => hm z (List.mem_cons_of_mem _ hz)) h4
    rw [h5, show x = y from Prod.ext h1 (ba_ext h3)]
/-- unlike programs that may be told have unlike texts -/
theorem text_inj {p q : Pg} (hp : mayPg p = true) (hq : mayPg q = true) (up : uP p) (uq : uP q) (h : textP p = textP q) : p = q := by
  have h : textL (linesP p) = textL (linesP q) := by
    have h := congrArg baL h
    unfold baL textP at h
    simpa using h
  exact linesP_inj hp hq up uq (textL_inj _ _ (linesP_good hp up) (linesP_good hq uq) h)
end Go.Proofs.YtnahgfdoiflacaaGreatDoor
