/- Plain laws: tokens' texts told again, with blanks between; what lies between tokens. -/
import Derived.Test.YtmkfoknhjjgipaaGreatDoorI
set_option linter.unusedSimpArgs false
set_option linter.unusedVariables false
namespace Go.Proofs.YtmkfoknhjjgipaaGreatDoor
open Go.RowKit Go.Lib Go.Shelf

theorem span_cons_t {p : UInt8 → Bool} {c : UInt8} {l : List UInt8} (h : p c = true) : spanN p (c :: l) = spanN p l + 1 := by
  unfold spanN; rw [List.takeWhile_cons, h]; rfl
theorem span_cons_f {p : UInt8 → Bool} {c : UInt8} {l : List UInt8} (h : p c = false) : spanN p (c :: l) = 0 := by
  unfold spanN; rw [List.takeWhile_cons, h]; rfl
theorem span_none {p : UInt8 → Bool} {m : List UInt8} (h : m = [] ∨ p (m.headD 0) = false) : spanN p m = 0 := by
  cases m with
  | nil => rfl
  | cons c m =>
    rcases h with h | h
    · cases h
    · exact span_cons_f h
theorem span_take (p : UInt8 → Bool) : ∀ (l m : List UInt8), (m = [] ∨ p (m.headD 0) = false) → spanN p (l.take (spanN p l) ++ m) = spanN p l
  | [], m, h => span_none h
  | c :: l, m, h => by
    cases hc : p c
    · rw [span_cons_f hc, List.take_zero, List.nil_append]
      exact span_none h
    · rw [span_cons_t hc, List.take_succ_cons, List.cons_append, span_cons_t hc, span_take p l m h]
theorem blank_part {b : UInt8} (h : blankB b = true) : partB b = false := by
  unfold blankB at h
  simp only [Bool.or_eq_true, beq_iff_eq] at h
  unfold partB lowB digB
  simp
  omega
theorem sgDown_le2 : ∀ (n : Nat) (l : List UInt8), sgDown n l ≤ n := sgDown_le
theorem sgDown_eq {k : Nat} {l : List UInt8} (hk : 0 < k) (h1 : Lib.containsS signS (mkB (l.take k)) = true) : ∀ (n : Nat), k ≤ n → (∀ j, k < j → j ≤ n → Lib.containsS signS (mkB (l.take j)) = false) → sgDown n l = k
  | 0, h, _ => absurd h (by omega)
  | n + 1, h, h2 => by
    rcases Nat.lt_or_ge k (n + 1) with hlt | hge
    · rw [sgDown_miss (h2 (n + 1) hlt (Nat.le_refl _))]
      exact sgDown_eq hk h1 n (by omega) fun j hj hjn => h2 j hj (by omega)
    · obtain rfl : k = n + 1 := by omega
      exact sgDown_hit h1
theorem sgDown_is : ∀ (n : Nat) (l : List UInt8), 0 < sgDown n l → Lib.containsS signS (mkB (l.take (sgDown n l))) = true
  | 0, l, h => absurd h (by unfold sgDown; omega)
  | n + 1, l, h => by
    cases hc : Lib.containsS signS (mkB (l.take (n + 1)))
    · rw [sgDown_miss hc] at h ⊢
      exact sgDown_is n l h
    · rw [sgDown_hit hc]; exact hc
theorem sgDown_above : ∀ (n : Nat) (l : List UInt8) (j : Nat), sgDown n l < j → j ≤ n → Lib.containsS signS (mkB (l.take j)) = false
  | 0, l, j, h, hj => absurd h (by omega)
  | n + 1, l, j, h, hj => by
    cases hc : Lib.containsS signS (mkB (l.take (n + 1)))
    · rw [sgDown_miss hc] at h
      rcases Nat.lt_or_ge j (n + 1) with hlt | hge
      · exact sgDown_above n l j h (by omega)
      · obtain rfl : j = n + 1 := by omega
        exact hc
    · rw [sgDown_hit hc] at h; omega
/-- no sign has a blank, or begins a note -/
theorem sign_calm {l : List UInt8} (h : Lib.containsS signS (mkB l) = true) : l ≠ [] ∧ l.length ≤ 4 ∧ ∀ b ∈ l, blankB b = false ∧ b.toNat ≠ 35 := by
  have hm := (Lib.containsS_iff _ _).1 h
  unfold signS at hm
  obtain ⟨q, hq, he⟩ := List.mem_map.1 hm
  have e : q = l := mkB_inj he
  subst e
  have hall : ∀ l ∈ signL, l ≠ [] ∧ l.length ≤ 4 ∧ ∀ b ∈ l, blankB b = false ∧ b.toNat ≠ 35 := by decide +kernel
  exact hall q hq
theorem sgN_eq {l : List UInt8} {k : Nat} (hk : 0 < k) (hkl : k ≤ l.length) (h1 : Lib.containsS signS (mkB (l.take k)) = true) (h2 : ∀ j, k < j → j ≤ min 4 l.length → Lib.containsS signS (mkB (l.take j)) = false) : sgN l = k := by
  have h4 := (sign_calm h1).2.1
  rw [List.length_take] at h4
  exact sgDown_eq hk h1 _ (by omega) h2
theorem sgN_again {l m : List UInt8} (h : 0 < sgN l) (hm : m = [] ∨ blankB (m.headD 0) = true) : sgN (l.take (sgN l) ++ m) = sgN l := by
  have h1 := sgDown_is _ l h
  have hle := sgN_le l
  obtain ⟨k, hk⟩ : ∃ k, sgN l = k := ⟨_, rfl⟩
  have h1 : Lib.containsS signS (mkB (l.take k)) = true := by rw [← hk]; exact h1
  rw [hk] at h hle ⊢
  have hl : (l.take k).length = k := by rw [List.length_take]; omega
  refine sgN_eq h (by rw [List.length_append, hl]; omega) ?_ ?_
  · rw [List.take_append_of_le_length (by omega), List.take_of_length_le (by omega)]
    exact h1
  · intro j hj hj2
    rw [List.length_append, hl] at hj2
    cases hc : Lib.containsS signS (mkB ((l.take k ++ m).take j)) with
    | false => rfl
    | true =>
      cases m with
      | nil => simp at hj2; omega
      | cons c m =>
        rcases hm with hm | hm
        · cases hm
        · have hb : blankB c = true := hm
          have hin : c ∈ (l.take k ++ c :: m).take j := by
            rw [List.take_append, hl]
            obtain ⟨d, hd⟩ : ∃ d, j - k = d + 1 := ⟨j - k - 1, by omega⟩
            rw [hd, List.take_succ_cons]
            simp
          rw [((sign_calm hc).2.2 c hin).1] at hb
          cases hb
theorem take_head {l m : List UInt8} {n : Nat} (h : 0 < n) (hl : l ≠ []) : (l.take n ++ m).headD 0 = l.headD 0 := by
  cases l with
  | nil => exact absurd rfl hl
  | cons c l =>
    obtain ⟨k, rfl⟩ : ∃ k, n = k + 1 := ⟨n - 1, by omega⟩
    rfl
theorem head_ne {p : UInt8 → Bool} {l : List UInt8} (h0 : p 0 = false) (h : p (l.headD 0) = true) : l ≠ [] := by
  rintro rfl
  rw [show ([] : List UInt8).headD 0 = 0 from rfl, h0] at h
  cases h
theorem oneR_again {l m : List UInt8} {x : Tk} (h : oneR l = .ok x) (hm : m = [] ∨ blankB (m.headD 0) = true) : oneR (x.t ++ m) = .ok x := by
  have hmp : m = [] ∨ partB (m.headD 0) = false := hm.imp id blank_part
  unfold oneR at h
  dsimp only at h
  split at h
  · rename_i hlow
    have hne := head_ne (p := lowB) (by decide) hlow
    have hp := span_pos hne (part_low hlow)
    split at h
    · rename_i h16
      cases h
      dsimp only
      have e1 := take_head (m := m) hp hne
      have e2 := span_take partB l m hmp
      have e3 : (l.take (spanN partB l) ++ m).take (spanN partB l) = l.take (spanN partB l) := by
        rw [List.take_append_of_le_length (by rw [List.length_take]; have := span_le partB l; omega), List.take_take, Nat.min_self]
      unfold oneR
      dsimp only
      rw [e1, if_pos hlow, e2, e3, if_pos h16]
    · cases h
  · rename_i hlow
    split at h
    · rename_i hdig
      have hne := head_ne (p := digB) (by decide) hdig
      have hp := span_pos hne (part_dig hdig)
      split at h
      · rename_i u hu
        cases h
        dsimp only
        have e1 := take_head (m := m) hp hne
        have e2 := span_take partB l m hmp
        have e3 : (l.take (spanN partB l) ++ m).take (spanN partB l) = l.take (spanN partB l) := by
          rw [List.take_append_of_le_length (by rw [List.length_take]; have := span_le partB l; omega), List.take_take, Nat.min_self]
        unfold oneR
        dsimp only
        rw [e1, if_neg hlow, if_pos hdig, e2, e3, hu]
      · cases h
    · rename_i hdig
      split at h
      · cases h
      · rename_i hs
        cases h
        dsimp only
        have hp : 0 < sgN l := Nat.pos_of_ne_zero hs
        have hle := sgN_le l
        have hne : l ≠ [] := by rintro rfl; exact absurd (show ([] : List UInt8).length = 0 from rfl) (by omega)
        have e1 := take_head (m := m) hp hne
        have e2 := sgN_again hp hm
        have e3 : (l.take (sgN l) ++ m).take (sgN l) = l.take (sgN l) := by
          rw [List.take_append_of_le_length (by rw [List.length_take]; omega), List.take_take, Nat.min_self]
        unfold oneR
        dsimp only
        rw [e1, if_neg hlow, if_neg hdig, e2, if_neg hs, e3]
/-- no token begins with a blank, or a note -/
theorem oneR_calm {l : List UInt8} {x : Tk} (h : oneR l = .ok x) : l ≠ [] ∧ blankB (l.headD 0) = false ∧ (l.headD 0).toNat ≠ 35 := by
  have key : ∀ b : UInt8, lowB b = true ∨ digB b = true → blankB b = false ∧ b.toNat ≠ 35 := by
    intro b hb
    unfold lowB digB at hb
    simp at hb
    unfold blankB
    simp
    omega
  unfold oneR at h
  dsimp only at h
  split at h
  · rename_i hlow
    exact ⟨head_ne (p := lowB) (by decide) hlow, key _ (.inl hlow)⟩
  · split at h
    · rename_i hdig
      exact ⟨head_ne (p := digB) (by decide) hdig, key _ (.inr hdig)⟩
    · split at h
      · cases h
      · rename_i hs
        have hp : 0 < sgN l := Nat.pos_of_ne_zero hs
        have hle := sgN_le l
        have hne : l ≠ [] := by rintro rfl; exact absurd (show ([] : List UInt8).length = 0 from rfl) (by omega)
        have h1 := sgDown_is _ l hp
        refine ⟨hne, (sign_calm h1).2.2 _ ?_⟩
        cases l with
        | nil => exact absurd rfl hne
        | cons c l =>
          obtain ⟨k, hk⟩ : ∃ k, sgDown (min 4 (c :: l).length) (c :: l) = k + 1 := ⟨sgDown (min 4 (c :: l).length) (c :: l) - 1, by have : 0 < sgDown (min 4 (c :: l).length) (c :: l) := hp; omega⟩
          rw [hk, List.take_succ_cons]
          exact List.mem_cons_self
theorem skip_zero {l : List UInt8} (h : blankB (l.headD 0) = false ∧ (l.headD 0).toNat ≠ 35) : skipL false l = 0 := by
  cases l with
  | nil => rfl
  | cons c l =>
    obtain ⟨h1, h2⟩ := h
    have h1 : blankB c = false := h1
    have h2 : c.toNat ≠ 35 := h2
    rw [skipL, if_neg h2, if_neg (by rw [h1]; decide)]
/-- a gap: blanks and notes, whole -/
def Gap (g : List UInt8) : Prop := ∀ m, skipL false (g ++ m) = g.length + skipL false m
/-- a token's text is told again, whatever blank follows -/
structure Good (x : Tk) : Prop where
  again : ∀ m : List UInt8, (m = [] ∨ blankB (m.headD 0) = true) → oneR (x.t ++ m) = .ok x
theorem Good.of {l : List UInt8} {x : Tk} (h : oneR l = .ok x) : Good x := ⟨fun m hm => oneR_again h hm⟩
theorem Good.ne {x : Tk} (h : Good x) : x.t ≠ [] := by
  have := (oneR_calm (h.again [] (.inl rfl))).1
  rwa [List.append_nil] at this
theorem Good.calm {x : Tk} (h : Good x) (m : List UInt8) : skipL false (x.t ++ m) = 0 := by
  have h2 := (oneR_calm (h.again [] (.inl rfl))).2
  rw [List.append_nil] at h2
  have hne := h.ne
  refine skip_zero ?_
  cases hx : x.t with
  | nil => exact absurd hx hne
  | cons c l => rw [hx] at h2; exact h2
/-- tokens, each behind a gap; what follows each is blank, or nothing -/
inductive Sep : List Tk → List UInt8 → Prop
  | nil {g : List UInt8} : Gap g → Sep [] g
  | cons {x : Tk} {xs : List Tk} {g m : List UInt8} : Gap g → Good x → (m = [] ∨ blankB (m.headD 0) = true) → Sep xs m → Sep (x :: xs) (g ++ (x.t ++ m))
theorem gap_nil : Gap [] := fun m => by simp
theorem scanF_sep {xs : List Tk} {r : List UInt8} (h : Sep xs r) : ∀ (n a : Nat) (p : Nat × Nat), r.length ≤ n → (scanF n r a p).2 = none ∧ (scanF n r a p).1.map Tp.x = xs := by
  induction h with
  | nil hg =>
    rename_i g
    intro n a p _
    have e := hg []
    rw [List.append_nil] at e
    have e : skipL false g = g.length := by rw [e]; rfl
    rw [scanF_end (List.drop_eq_nil_iff.2 (by rw [e]; exact Nat.le_refl _))]
    exact ⟨rfl, rfl⟩
  | cons hg hx hm hs ih =>
    rename_i x xs g m
    intro n a p hn
    have hne := hx.ne
    have hxl : 0 < x.t.length := List.length_pos_iff.2 hne
    rw [List.length_append, List.length_append] at hn
    obtain ⟨k, rfl⟩ : ∃ k, n = k + 1 := ⟨n - 1, by omega⟩
    have e : skipL false (g ++ (x.t ++ m)) = g.length := by rw [hg, hx.calm, Nat.add_zero]
    have e2 : (g ++ (x.t ++ m)).drop g.length = x.t ++ m := by rw [List.drop_left]
    rw [scanF, e, e2, if_neg (by simp [hne]), hx.again m hm]
    dsimp only
    rw [List.drop_left]
    obtain ⟨i1, i2⟩ := ih k (a + g.length + x.t.length) (lcF (lcF p ((g ++ (x.t ++ m)).take g.length)) x.t) (by omega)
    exact ⟨i1, by rw [List.map_cons, i2]⟩
/-- every token that was told is good -/
theorem scanF_good : ∀ (n : Nat) (r : List UInt8) (a : Nat) (p : Nat × Nat), ∀ t ∈ (scanF n r a p).1, Good t.x
  | 0, _, _, _, t, h => by cases h
  | n + 1, r, a, p, t, h => by
    rw [scanF] at h
    split at h
    · cases h
    · split at h
      · cases h
      · rename_i x hx
        rcases List.mem_cons.1 h with rfl | h
        · exact Good.of hx
        · exact scanF_good n _ _ _ t h
theorem scanA_good (s : ByteArray) : ∀ t ∈ (scanA s).1, Good t.x := scanF_good _ _ _ _
/-- where a list of tokens ends -/
def endN (e : Nat) (pre : List Tp) : Nat := (pre.map fun t => t.a + t.x.t.length).getLastD e
theorem endN_nil (e : Nat) : endN e [] = e := rfl
theorem endN_cons (e : Nat) (t : Tp) (pre : List Tp) : endN e (t :: pre) = endN (t.a + t.x.t.length) pre := by
  cases pre <;> rfl
theorem endN_snoc (e : Nat) (t : Tp) (pre : List Tp) : endN e (pre ++ [t]) = t.a + t.x.t.length := by
  unfold endN; simp
theorem skip_take : ∀ (l : List UInt8) (b : Bool), skipL b (l.take (skipL b l)) = skipL b l
  | [], b => by cases b <;> rfl
  | c :: l, true => by
    have h1 := skip_take l true
    have h2 := skip_take l false
    rw [skipL]
    split
    · rename_i hc; rw [List.take_succ_cons, skipL, if_pos hc, h2]
    · rename_i hc; rw [List.take_succ_cons, skipL, if_neg hc, h1]
  | c :: l, false => by
    have h1 := skip_take l true
    have h2 := skip_take l false
    rw [skipL]
    split
    · rename_i hc; rw [List.take_succ_cons, skipL, if_pos hc, h1]
    · rename_i hc
      split
      · rename_i hb; rw [List.take_succ_cons, skipL, if_neg hc, if_pos hb, h2]
      · rfl
/-- what lies ahead of a token, and what it is -/
theorem scanF_lies : ∀ (n : Nat) (r : List UInt8) (a : Nat) (p : Nat × Nat) (pre rest : List Tp) (t : Tp), pre ++ t :: rest = (scanF n r a p).1 →
    endN a pre ≤ t.a ∧ a ≤ endN a pre ∧ t.a + t.x.t.length ≤ a + r.length ∧ (r.drop (t.a - a)).take t.x.t.length = t.x.t ∧ skipL false ((r.take (t.a - a)).drop (endN a pre - a)) = t.a - endN a pre
  | 0, _, _, _, pre, rest, t, h => by
    have h : pre ++ t :: rest = [] := h
    simp at h
  | n + 1, r, a, p, pre, rest, t, h => by
    rw [scanF] at h
    split at h
    · simp at h
    · rename_i hne
      split at h
      · simp at h
      · rename_i x hx
        obtain ⟨k, hk, hkl, hxt, hxk⟩ := oneR_text hne hx
        have hsl := skip_le r false
        rw [List.length_drop] at hkl
        cases pre with
        | nil =>
          rw [List.nil_append] at h
          injection h with h1 h2
          subst h1
          dsimp only
          rw [endN_nil]
          refine ⟨by omega, Nat.le_refl _, by omega, ?_, ?_⟩
          · rw [Nat.add_sub_cancel_left, hxk, ← hxt]
          · rw [Nat.add_sub_cancel_left, Nat.sub_self, List.drop_zero]
            exact skip_take r false
        | cons t0 pre =>
          rw [List.cons_append] at h
          injection h with h1 h2
          subst h1
          obtain ⟨i1, i2, i3, i4, i5⟩ := scanF_lies n _ _ _ pre rest t h2
          rw [endN_cons]
          dsimp only
          obtain ⟨e, he⟩ : ∃ e, endN (a + skipL false r + x.t.length) pre = e := ⟨_, rfl⟩
          rw [he] at i1 i2 i5 ⊢
          rw [List.length_drop, List.length_drop] at i3
          refine ⟨i1, by omega, by omega, ?_, ?_⟩
          · rw [List.drop_drop, List.drop_drop] at i4
            rw [show skipL false r + (x.t.length + (t.a - (a + skipL false r + x.t.length))) = t.a - a by omega] at i4
            exact i4
          · rw [List.drop_drop, List.drop_take, List.drop_drop] at i5
            rw [List.drop_take]
            rw [show skipL false r + x.t.length + (e - (a + skipL false r + x.t.length)) = e - a by omega, show t.a - (a + skipL false r + x.t.length) - (e - (a + skipL false r + x.t.length)) = t.a - a - (e - a) by omega] at i5
            exact i5
/-- what lies behind the last -/
theorem scanF_last : ∀ (n : Nat) (r : List UInt8) (a : Nat) (p : Nat × Nat), r.length ≤ n → (scanF n r a p).2 = none →
    endN a (scanF n r a p).1 ≤ a + r.length ∧ a ≤ endN a (scanF n r a p).1 ∧ skipL false (r.drop (endN a (scanF n r a p).1 - a)) = a + r.length - endN a (scanF n r a p).1
  | 0, r, a, p, hn, h => by
    obtain rfl : r = [] := List.length_eq_zero_iff.1 (by omega)
    have e : (scanF 0 [] a p).1 = [] := rfl
    rw [e, endN_nil]
    exact ⟨Nat.le_refl _, Nat.le_refl _, by simp [skipL]⟩
  | n + 1, r, a, p, hn, h => by
    rw [scanF] at h ⊢
    split at h
    · rename_i hd
      rw [if_pos hd, endN_nil]
      refine ⟨by omega, Nat.le_refl _, ?_⟩
      rw [Nat.sub_self, List.drop_zero, Nat.add_sub_cancel_left]
      have := skip_le r false
      have := List.drop_eq_nil_iff.1 hd
      omega
    · rename_i hne
      rw [if_neg hne]
      split at h
      · cases h
      · rename_i x hx
        dsimp only at h ⊢
        obtain ⟨k, hk, hkl, hxt, hxk⟩ := oneR_text hne hx
        have hsl := skip_le r false
        rw [List.length_drop] at hkl
        have hl : ((r.drop (skipL false r)).drop x.t.length).length ≤ n := by rw [List.length_drop, List.length_drop]; omega
        obtain ⟨i1, i2, i3⟩ := scanF_last n _ _ _ hl h
        rw [endN_cons]
        dsimp only
        obtain ⟨e, he⟩ : ∃ e, endN (a + skipL false r + x.t.length) (scanF n ((r.drop (skipL false r)).drop x.t.length) (a + skipL false r + x.t.length) (lcF (lcF p (r.take (skipL false r))) x.t)).1 = e := ⟨_, rfl⟩
        rw [he] at i1 i2 i3 ⊢
        rw [List.length_drop, List.length_drop] at i1 i3
        refine ⟨by omega, by omega, ?_⟩
        rw [List.drop_drop, List.drop_drop, show skipL false r + (x.t.length + (e - (a + skipL false r + x.t.length))) = e - a by omega] at i3
        rw [i3]
        omega
/-- a sign that fits is longer than those before -/
def bStep (l : List UInt8) (b : Nat) (x : ByteArray) : Nat := if b < x.size ∧ x.size ≤ l.length ∧ mkB (l.take x.size) = x then x.size else b
theorem bStep_spec (l : List UInt8) : ∀ (ss : List ByteArray) (b0 : Nat), b0 ≤ ss.foldl (bStep l) b0 ∧ (∀ x ∈ ss, x.size ≤ l.length → mkB (l.take x.size) = x → x.size ≤ ss.foldl (bStep l) b0) ∧
    (ss.foldl (bStep l) b0 = b0 ∨ ∃ x ∈ ss, x.size = ss.foldl (bStep l) b0 ∧ x.size ≤ l.length ∧ mkB (l.take x.size) = x)
  | [], b0 => ⟨Nat.le_refl _, fun x h => (by cases h), .inl rfl⟩
  | x :: ss, b0 => by
    obtain ⟨h1, h2, h3⟩ := bStep_spec l ss (bStep l b0 x)
    rw [List.foldl_cons]
    have hb : b0 ≤ bStep l b0 x := by unfold bStep; split <;> omega
    refine ⟨Nat.le_trans hb h1, fun y hy hl he => ?_, ?_⟩
    · rcases List.mem_cons.1 hy with rfl | hy
      · have : y.size ≤ bStep l b0 y := by
          unfold bStep
          split
          · exact Nat.le_refl _
          · rename_i hn
            rcases Nat.lt_or_ge b0 y.size with h | h
            · exact absurd ⟨h, hl, he⟩ hn
            · exact h
        exact Nat.le_trans this h1
      · exact h2 y hy hl he
    · rcases h3 with h3 | ⟨y, hy, he⟩
      · rw [h3]
        by_cases hc : b0 < x.size ∧ x.size ≤ l.length ∧ mkB (l.take x.size) = x
        · right
          exact ⟨x, List.mem_cons_self, by unfold bStep; rw [if_pos hc], hc.2.1, hc.2.2⟩
        · left
          unfold bStep
          rw [if_neg hc]
      · exact .inr ⟨y, List.mem_cons_of_mem _ hy, he⟩
theorem best_sg (l : List UInt8) : signS.foldl (bStep l) 0 = sgN l := by
  obtain ⟨_, h2, h3⟩ := bStep_spec l signS 0
  obtain ⟨b, hb⟩ : ∃ b, signS.foldl (bStep l) 0 = b := ⟨_, rfl⟩
  rw [hb] at h2 h3 ⊢
  have up : ∀ j, j ≤ l.length → Lib.containsS signS (mkB (l.take j)) = true → j ≤ b := fun j hj hc => by
    have hm := (Lib.containsS_iff _ _).1 hc
    have hz : (mkB (l.take j)).size = j := by rw [← size_list, mkB_list, List.length_take]; omega
    have := h2 _ hm (by rw [hz]; exact hj) (by rw [hz])
    rwa [hz] at this
  have hle := sgN_le l
  rcases Nat.eq_zero_or_pos b with h0 | hp
  · rcases Nat.eq_zero_or_pos (sgN l) with hs | hs
    · rw [h0, hs]
    · have := up _ hle (sgDown_is _ l hs)
      omega
  · rcases h3 with h3 | ⟨x, hx, hxb, hxl, hxe⟩
    · omega
    · rw [hxb] at hxl hxe
      refine (sgN_eq hp hxl ((Lib.containsS_iff _ _).2 (by rw [hxe]; exact hx)) fun j hj hj2 => ?_).symm
      cases hc : Lib.containsS signS (mkB (l.take j)) with
      | false => rfl
      | true => have := up j (by omega) hc; omega
theorem skip_stop : ∀ (l : List UInt8) (b : Bool), l.drop (skipL b l) = [] ∨ skipL false (l.drop (skipL b l)) = 0
  | [], b => .inl (by simp)
  | c :: l, true => by
    have h1 := skip_stop l true
    have h2 := skip_stop l false
    rw [skipL]
    split
    · rw [List.drop_succ_cons]; exact h2
    · rw [List.drop_succ_cons]; exact h1
  | c :: l, false => by
    have h1 := skip_stop l true
    have h2 := skip_stop l false
    rw [skipL]
    split
    · rw [List.drop_succ_cons]; exact h1
    · rename_i hc
      split
      · rw [List.drop_succ_cons]; exact h2
      · rename_i hb
        right
        rw [List.drop_zero, skipL, if_neg hc, if_neg hb]
theorem skip_stop0 (l : List UInt8) : skipL false (l.drop (skipL false l)) = 0 := by
  rcases skip_stop l false with h | h
  · rw [h]; rfl
  · exact h
theorem skip_zero_iff {c : UInt8} {l : List UInt8} (h : skipL false (c :: l) = 0) : c.toNat ≠ 35 ∧ blankB c = false := by
  rw [skipL] at h
  split at h
  · omega
  · rename_i hc
    split at h
    · omega
    · rename_i hb
      exact ⟨hc, by simpa using hb⟩
theorem scanR_skip (s : ByteArray) (a : Nat) : scanR s a = scanR s (a + skipL false (s.data.toList.drop a)) := by
  rcases Nat.lt_or_ge a s.size with hlt | hge
  · obtain ⟨n, hz⟩ := scanR_up hlt
    unfold scanR
    rw [take_lc, ← List.drop_drop, hz]
    generalize s.data.toList.drop a = r
    generalize lcF (1, 1) (s.data.toList.take a) = p
    rw [scanF, scanF, skip_stop0, List.drop_zero, Nat.add_zero, List.take_zero]
    rfl
  · have e : s.data.toList.drop a = [] := List.drop_eq_nil_iff.2 (by rw [size_list]; exact hge)
    rw [e]
    rfl
theorem skip_at {s : ByteArray} {i : Nat} (hi : i < s.size) (h : skipL false (s.data.toList.drop i) = 0) : (s[i]'hi).toNat ≠ 35 ∧ blankB (s[i]'hi) = false := by
  rw [drop_cons hi] at h
  exact skip_zero_iff h
end Go.Proofs.YtmkfoknhjjgipaaGreatDoor
