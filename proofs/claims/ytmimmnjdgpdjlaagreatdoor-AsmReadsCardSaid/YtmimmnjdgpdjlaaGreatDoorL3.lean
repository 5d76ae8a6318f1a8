/- The library's words on single bytes; worlds that stay but for some blocks; a reader. The reader's lowest bytes and addresses. The table of meanings as it lies: its boxes, its rows, its map. The table of meanings: one more meaning (add). The table of meanings: add, walked. -/
import Derived.Test.YtmimmnjdgpdjlaaGreatDoorP2
import Derived.Lib.SplitLaws
import Derived.Lib.IndexMore
import Derived.Laws.Rows
import Derived.Test.YtmimmnjdgpdjlaaGreatDoorE
import Derived.Test.YtmimmnjdgpdjlaaGreatDoorP1
import Derived.OneCell
import Derived.ChangeMaps5
import Derived.ChangeKeysEq
import Derived.Maps.OwnOps
import Derived.Maps.AppendAt
import Derived.Deep.AppendLies
import Derived.Deep.RegionHeldLaw
import Derived.Deep.RegionHeld3
set_option linter.unusedSimpArgs false
set_option linter.unusedVariables false
namespace Go.Proofs.YtmimmnjdgpdjlaaGreatDoor
open Go.RowKit Go.Lib Go.Shelf

theorem trimP_eq (c : UInt8) (l : List UInt8) : Lib.trimPrefix l [c] = trimP c l := by
  unfold Lib.trimPrefix Lib.hasPrefix
  cases l with
  | nil => simp [trimP, List.isPrefixOf]
  | cons b l =>
    unfold trimP
    by_cases h : b = c
    · subst h; simp [List.isPrefixOf]
    · simp [List.isPrefixOf, h, Ne.symm h]
theorem hasP_eq (c : UInt8) (l : List UInt8) : Lib.hasPrefix l [c] = decide (l.head? = some c) := by
  unfold Lib.hasPrefix
  cases l with
  | nil => simp [List.isPrefixOf]
  | cons b l =>
    by_cases h : b = c
    · subst h; simp [List.isPrefixOf]
    · simp [List.isPrefixOf, h, Ne.symm h]
theorem hasS_eq (c : UInt8) (l : List UInt8) : Lib.hasSuffix l [c] = decide (l.getLast? = some c) := by
  have h := hasP_eq c l.reverse
  unfold Lib.hasPrefix at h
  unfold Lib.hasSuffix
  rw [List.isSuffixOf, List.reverse_singleton, h, List.head?_reverse]
theorem trimS_eq (c : UInt8) (l : List UInt8) : Lib.trimSuffix l [c] = trimS c l := by
  unfold Lib.trimSuffix trimS
  rw [hasS_eq]
  by_cases h : l.getLast? = some c
  · rw [if_pos (by simpa using h), if_pos h, List.dropLast_eq_take]; rfl
  · rw [if_neg (by simpa using h), if_neg h]
theorem index_nil (c : UInt8) : Lib.index [] [c] = -1 := by simp [Lib.index]
theorem index_eq (c : UInt8) (l : List UInt8) : Lib.index (c :: l) [c] = 0 := by rw [Lib.index]; simp [List.isPrefixOf]
theorem index_ne {b c : UInt8} (l : List UInt8) (h : b ≠ c) : Lib.index (b :: l) [c] = if Lib.index l [c] == -1 then -1 else Lib.index l [c] + 1 := by
  have hp : ([c] : List UInt8).isPrefixOf (b :: l) = false := by simp [List.isPrefixOf, Ne.symm h]
  rw [Lib.index, hp]; simp
theorem cut_eq (c : UInt8) : ∀ l : List UInt8, Lib.cut l [c] = ((cutL c l).1, (cutL c l).2, l.contains c)
  | [] => by simp [Lib.cut, index_nil, cutL]
  | b :: l => by
    have ih := cut_eq c l
    by_cases h : b = c
    · subst h
      unfold Lib.cut
      rw [index_eq, cutL, if_pos rfl]
      simp
    · have hge := Lib.index_ge l [c]
      unfold Lib.cut at ih ⊢
      rw [index_ne l h, cutL, if_neg h]
      by_cases hm : Lib.index l [c] = -1
      · rw [hm] at ih ⊢
        have hc : (b :: l).contains c = false := by
          have : l.contains c = false := by
            have := (Prod.mk.inj ih).2
            simpa using (Prod.mk.inj this).2.symm
          rw [List.contains_cons, this]
          simp [Ne.symm h]
        simp only [beq_self_eq_true, if_true]
        rw [hc]
        simp at ih
        simp [← ih.1, ← ih.2.1]
      · have hb : (Lib.index l [c] == -1) = false := by simpa using hm
        rw [hb]
        rw [if_pos (by omega)] at ih
        simp only [Bool.false_eq_true, if_false]
        rw [if_pos (by omega), show (Lib.index l [c] + 1).toNat = (Lib.index l [c]).toNat + 1 by omega]
        obtain ⟨h1, h2⟩ := Prod.mk.inj ih
        obtain ⟨h2, h3⟩ := Prod.mk.inj h2
        rw [List.take_succ_cons, h1]
        have e2 : (b :: l).drop ((Lib.index l [c]).toNat + 1 + [c].length) = l.drop ((Lib.index l [c]).toNat + [c].length) := by simp
        rw [e2, h2, List.contains_cons, ← h3, Bool.or_true]
theorem split_parts (c : UInt8) : ∀ l : List UInt8, Lib.splitK [c] 0 (l.count c) l = partsC c l
  | [] => rfl
  | b :: l => by
    by_cases h : b = c
    · subst h
      rw [List.count_cons_self, Lib.splitK, index_eq]
      simp [partsC, split_parts b l]
    · rw [List.count_cons_of_ne (by simpa using h)]
      have ih := split_parts c l
      have hge := Lib.index_ge l [c]
      unfold partsC
      rw [if_neg h, ← ih]
      cases hc : l.count c with
      | zero => simp [Lib.splitK]
      | succ k =>
        by_cases hm : Lib.index l [c] = -1
        · rw [Lib.splitK, Lib.splitK, index_ne l h, hm]; simp
        · have h1 : ¬ ((if Lib.index l [c] == -1 then -1 else Lib.index l [c] + 1) == -1) = true := by
            rw [if_neg (by simpa using hm)]
            simp; omega
          rw [Lib.splitK, Lib.splitK, index_ne l h, if_neg h1, if_neg (by simpa using hm), if_neg (by simpa using hm)]
          have e1 : (Lib.index l [c] + 1).toNat = (Lib.index l [c]).toNat + 1 := by omega
          rw [e1]
          simp [Nat.add_right_comm]
theorem list_bt (L : List ByteArray) : L = (L.map (·.data.toList)).map bt := by
  rw [List.map_map]
  have e3 : (bt ∘ fun s : ByteArray => s.data.toList) = id := by
    funext x; exact bt_data x
  rw [e3, List.map_id]
theorem splitB_parts (c : UInt8) (s : ByteArray) : Lib.splitB ⟨#[c]⟩ 0 (Lib.countB s ⟨#[c]⟩) s = (partsC c s.data.toList).map bt := by
  have h := Lib.splitB_data ⟨#[c]⟩ 0 (Lib.countB s ⟨#[c]⟩) s
  have e : Lib.countB s ⟨#[c]⟩ = s.data.toList.count c := Lib.count_one c _
  rw [list_bt (Lib.splitB ⟨#[c]⟩ 0 (Lib.countB s ⟨#[c]⟩) s), h]
  show (Lib.splitK [c] 0 _ _).map bt = _
  rw [e, split_parts]
theorem parts_len (c : UInt8) (s : ByteArray) : Lib.countB s ⟨#[c]⟩ + 1 = (partsC c s.data.toList).length := by
  have h := Lib.splitB_all ⟨#[c]⟩ (Nat.le_refl 1) 0 (Lib.countB s ⟨#[c]⟩) s rfl
  rw [splitB_parts, List.length_map] at h
  exact h.symm
theorem splitB_CS (s : ByteArray) : Lib.splitB ⟨#[44, 32]⟩ 0 (Lib.countB s ⟨#[44, 32]⟩) s = (splitCS s.data.toList).map bt := by
  have h := Lib.splitB_data ⟨#[44, 32]⟩ 0 (Lib.countB s ⟨#[44, 32]⟩) s
  rw [list_bt (Lib.splitB ⟨#[44, 32]⟩ 0 (Lib.countB s ⟨#[44, 32]⟩) s), h]
  rfl
theorem CS_len (s : ByteArray) : Lib.countB s ⟨#[44, 32]⟩ + 1 = (splitCS s.data.toList).length := by
  have h := Lib.splitB_all ⟨#[44, 32]⟩ (by show 1 ≤ 2; omega) 0 (Lib.countB s ⟨#[44, 32]⟩) s rfl
  rw [splitB_CS, List.length_map] at h
  exact h.symm

/-! ## worlds that stay but for some blocks -/
def Keep (S : Nat → Prop) (w w' : World) : Prop := w'.os = w.os ∧ w'.tape = w.tape ∧ w'.output = w.output ∧ w.heap.size ≤ w'.heap.size ∧ ∀ k, k < w.heap.size → ¬ S k → w'.heap[k]? = w.heap[k]?
theorem Keep.refl (S : Nat → Prop) (w : World) : Keep S w w := ⟨rfl, rfl, rfl, Nat.le_refl _, fun _ _ _ => rfl⟩
theorem Keep.trans {S : Nat → Prop} {a b c : World} (h : Keep S a b) (k : Keep S b c) : Keep S a c :=
  ⟨k.1.trans h.1, k.2.1.trans h.2.1, k.2.2.1.trans h.2.2.1, Nat.le_trans h.2.2.2.1 k.2.2.2.1, fun i hi hs => (k.2.2.2.2 i (Nat.lt_of_lt_of_le hi h.2.2.2.1) hs).trans (h.2.2.2.2 i hi hs)⟩
theorem Keep.mono {S T : Nat → Prop} {a b : World} (h : Keep S a b) (hST : ∀ k, k < a.heap.size → S k → T k) : Keep T a b := ⟨h.1, h.2.1, h.2.2.1, h.2.2.2.1, fun i hi hs => h.2.2.2.2 i hi fun e => hs (hST i hi e)⟩
theorem Keep.of_below {S : Nat → Prop} {a b : World} (h : Below a.heap.size a b) : Keep S a b := ⟨h.os, h.tape, h.output, h.size, fun i hi _ => h.block i hi⟩
theorem Keep.below {S : Nat → Prop} {a b : World} {B : Nat} (h : Keep S a b) (hB : B ≤ a.heap.size) (hS : ∀ k, S k → B ≤ k) : Below B a b :=
  ⟨h.1, h.2.1, h.2.2.1, h.2.2.2.1, fun k hk => h.2.2.2.2 k (Nat.lt_of_lt_of_le hk hB) fun e => by have := hS k e; omega⟩
theorem Keep.next {S : Nat → Prop} {a b c : World} (h : Keep S a b) (k : Below b.heap.size b c) : Keep S a c := h.trans (Keep.of_below k)
theorem Keep.on {S : Nat → Prop} {w0 a b : World} (hB : Below w0.heap.size w0 a) (h : Keep S a b) (hS : ∀ k, S k → w0.heap.size ≤ k) : Below w0.heap.size w0 b := hB.trans (h.below hB.size hS)
theorem Keep.at {S : Nat → Prop} {a b : World} {k : Nat} {o : Obj} (h : Keep S a b) (ho : a.heap[k]? = some o) (hs : ¬ S k) : b.heap[k]? = some o := (h.2.2.2.2 k (blk_lt ho) hs).trans ho
theorem Keep.set (w : World) (b o : Nat) (v : Value) : Keep (fun k => k = b) w (w.setCell ⟨b, o, none⟩ v) :=
  ⟨rfl, rfl, rfl, by simp [World.setCell], fun k _ hk => Below.heap_setCell w _ v k hk⟩

/-! ## rows of texts -/
/-- the cells of a row of texts lie -/
def TxAt (w : World) (A : Option Addr) (l : List (List UInt8)) : Prop := ∀ (k : Nat) (x : List UInt8), l[k]? = some x → ∃ b o, A = some ⟨b, o, none⟩ ∧ w.cell? ⟨b, o + k, none⟩ = some (.string (bt x))
theorem TxAt.keep {S : Nat → Prop} {w w' : World} {A : Option Addr} {l : List (List UInt8)} (h : TxAt w A l) (hk : Keep S w w') (hA : ∀ b o, A = some ⟨b, o, none⟩ → ¬ S b) : TxAt w' A l := fun k x hx => by
  obtain ⟨b, o, e, hc⟩ := h k x hx
  refine ⟨b, o, e, ?_⟩
  have hlt := cell_some_lt hc
  have hb := hk.2.2.2.2 b hlt (hA b o e)
  rw [← hc]
  unfold World.cell?
  simp only [hb]
/-- a reader's box lies: what is left of its operands -/
def RdAt (F : Nat → Prop) (w : World) (rb : Nat) (l : List (List UInt8)) : Prop :=
  ∃ A c t, w.heap[rb]? = some (.cells #[.slice A l.length c] t (0, 0)) ∧ TxAt w A l ∧ l.length ≤ c ∧ l.length ≤ 4000000 ∧ (∀ x ∈ l, x.length ≤ 2000000) ∧ ∀ b o, A = some ⟨b, o, none⟩ → b ≠ rb ∧ F b
theorem RdAt.keep {F S : Nat → Prop} {w w' : World} {rb : Nat} {l : List (List UInt8)} (h : RdAt F w rb l) (hk : Keep S w w') (hrb : ¬ S rb) (hS : ∀ k, S k → ¬ F k) : RdAt F w' rb l := by
  obtain ⟨A, c, t, h1, h2, h3, h4, h5, h6⟩ := h
  exact ⟨A, c, t, hk.at h1 hrb, h2.keep hk fun b o e hs => hS b hs (h6 b o e).2, h3, h4, h5, h6⟩
theorem RdAt.below {F : Nat → Prop} {w w' : World} {rb : Nat} {l : List (List UInt8)} (h : RdAt F w rb l) (hb : Below w.heap.size w w') : RdAt F w' rb l := h.keep (S := fun _ => False) (Keep.of_below hb) (fun e => e) (fun _ e => e.elim)
theorem box1 {W : World} {b : Nat} {t : TypeId} {c0 : Value} (h : W.heap[b]? = some (.cells #[c0] t (0, 0))) : W.cell? ⟨b, 0, none⟩ = some c0 := by rw [blk_cell h]; rfl
def TextPost (F : Nat → Prop) (rb : Nat) (l : List (List UInt8)) (w : World) (e : Ending) (w' : World) : Prop := e = .returned (.string (bt (l.headD []))) ∧ RdAt F w' rb l.tail ∧ Keep (fun k => k = rb) w w'
set_option maxRecDepth 100000 in
set_option maxHeartbeats 4000000 in
theorem text86_any (F : Nat → Prop) (rb : Nat) (l : List (List UInt8)) (w : World) (h : RdAt F w rb l) : Calls Tryz.prog 86 #[.pointer (some ⟨rb, 0, none⟩)] w (TextPost F rb l w) := by
  obtain ⟨A, c, t, h1, h2, h3, h4, h5, h6⟩ := h
  have hb := box1 h1
  cases l with
  | nil =>
    have hfin := Lib.hid (show RdAt F w rb [] from ⟨A, c, t, h1, h2, h3, h4, h5, h6⟩)
    simp only [List.length_nil] at hb
    clear h1 h2 h3 h4 h5 h6
    go_enter Tryz.func86, Tryz.ntmps86
    go_wp2
    go_ret
    exact ⟨rfl, hfin.out, Keep.refl _ _⟩
  | cons x l =>
    obtain ⟨b, o, rfl, hc⟩ := h2 0 x rfl
    have hne := (h6 b o rfl).1
    have hF := (h6 b o rfl).2
    have hfz : w.frozen? ⟨rb, 0, none⟩ = false := by simp [World.frozen?, h1]
    have key : ∀ v : Value, (∃ o2 c2, v = .slice (some ⟨b, o2, none⟩) l.length c2 ∧ l.length ≤ c2 ∧ (l = [] ∨ o2 = o + 1)) → RdAt F (w.setCell ⟨rb, 0, none⟩ v) rb l := by
      rintro v ⟨o2, c2, rfl, hc2, ho⟩
      refine ⟨some ⟨b, o2, none⟩, c2, t, ?_, ?_, hc2, by simp only [List.length_cons] at h4; omega, fun y hy => h5 y (by simp [hy]), ?_⟩
      · rw [heap_setCell_same _ _ _ _ _ _ h1]; rfl
      · intro k y hy
        rcases ho with rfl | rfl
        · simp at hy
        · obtain ⟨b', o', e, hc'⟩ := h2 (k + 1) y (by simpa using hy)
          obtain ⟨rfl, rfl⟩ : b = b' ∧ o = o' := by simpa using e
          refine ⟨b, o + 1, rfl, ?_⟩
          have hh := Below.heap_setCell w ⟨rb, 0, none⟩ (.slice (some ⟨b, o + 1, none⟩) l.length c2) b hne
          rw [show o + 1 + k = o + (k + 1) by omega, ← hc']
          unfold World.cell?
          simp only [hh]
      · intro b' o' e
        obtain ⟨rfl, rfl⟩ : b = b' ∧ o2 = o' := by simpa using e
        exact ⟨hne, hF⟩
    have key := Lib.hid key
    have hc : w.cell? ⟨b, o, none⟩ = some (.string (bt x)) := hc
    obtain ⟨y, hy⟩ : ∃ y, bt x = y := ⟨_, rfl⟩
    rw [hy] at hc
    show Calls Tryz.prog 86 _ w (fun e w' => e = .returned (.string (bt x)) ∧ RdAt F w' rb l ∧ Keep (fun k => k = rb) w w')
    rw [hy]
    by_cases hc1 : c = 1
    · subst hc1
      have hl : l = [] := List.length_eq_zero_iff.1 (by simp only [List.length_cons] at h3; omega)
      subst hl
      simp only [List.length_cons, List.length_nil] at hb
      clear h1 h2 h3 h4 h5 h6 hy
      go_enter Tryz.func86, Tryz.ntmps86
      go_wp2
      go_ret
      exact ⟨rfl, key.out _ ⟨o, 0, by simp⟩, Keep.set _ _ _ _⟩
    · obtain ⟨n, hn⟩ : ∃ n, l.length = n := ⟨_, rfl⟩
      have hk2 := Lib.hid hn
      simp only [List.length_cons, hn] at hb h3 h4
      have e1 : (1 : Int) ≤ (n : Int) + 1 := by omega
      have e2 : (n : Int) + 1 ≤ (c : Int) := by omega
      have e3 : (n : Int) ≤ 4000000 := by omega
      have e4 : ((n : Int) + 1 == 0) = false := by simp; omega
      have e5 := Lib.hid (show n ≤ c - 1 by omega)
      clear h1 h2 h3 h4 h5 h6 hn hy
      go_enter Tryz.func86, Tryz.ntmps86
      go_wp2
      go_ret
      exact ⟨rfl, key.out _ ⟨o + 1, c - 1, by rw [hk2.out], by rw [hk2.out]; exact e5.out, .inr rfl⟩, Keep.set _ _ _ _⟩

/-! ## what operands say -/
theorem trimP_len (c : UInt8) (l : List UInt8) : (trimP c l).length ≤ l.length := by
  cases l with
  | nil => simp [trimP]
  | cons b l =>
    by_cases h : b = c
    · rw [trimP, if_pos h]; simp
    · rw [trimP, if_neg h]; exact Nat.le_refl _
theorem head_le {l : List (List UInt8)} (h : ∀ x ∈ l, x.length ≤ 2000000) : (l.headD []).length ≤ 2000000 := by
  cases l with
  | nil => simp
  | cons x l => exact h x (by simp)
def NumPostB (n : Nat) (w : World) (e : Ending) (w' : World) : Prop := e = .returned (.int .u64 (n : Int)) ∧ Below w.heap.size w w'
theorem neg_wrap (n : Nat) (hn : n < 18446744073709551616) : IntKind.wrap .u64 (-(n : Int)) = ((neg64 n : Nat) : Int) := by
  rw [wrap_u64]
  unfold neg64
  split <;> omega
theorem numS_lt {l : List UInt8} {u : Nat} (h : numS l = some u) : u < 18446744073709551616 := numI_lt h
set_option maxRecDepth 100000 in
set_option maxHeartbeats 4000000 in
theorem number112_any (x : List UInt8) (hx : x.length ≤ 2000000) (w : World) (hE : Env w) : Calls Tryz.prog 112 #[.string (bt x)] w (NumPostB (numP x) w) := by
  have ht := Tryz.strings_TrimPrefix (bt x) ⟨#[45]⟩ w
  rw [show (Lib.trimPrefix (bt x).data.toList (⟨#[45]⟩ : ByteArray).data.toList) = trimP 45 x from trimP_eq 45 x] at ht
  have hp := fun W => Tryz.strings_HasPrefix (bt x) ⟨#[45]⟩ W
  rw [show (Lib.hasPrefix (bt x).data.toList (⟨#[45]⟩ : ByteArray).data.toList) = decide (x.head? = some 45) from hasP_eq 45 x] at hp
  have hn := number_any (bt (trimP 45 x)) w hE (by rw [bt_size]; exact Nat.le_trans (trimP_len _ _) hx)
  have hv : ∃ v : Nat, v < 18446744073709551616 ∧ v = (numS (trimP 45 x)).getD 0 := by
    cases h : numS (trimP 45 x) with
    | none => exact ⟨0, by omega, rfl⟩
    | some u => exact ⟨u, numS_lt h, rfl⟩
  obtain ⟨v, hv1, hv2⟩ := hv
  have hnum : ∀ e w', NumPost (bt (trimP 45 x)) w e w' → ∃ er : Int, e = .returned (.tuple #[.int .u64 (v : Int), .int .i64 er]) ∧ Below w.heap.size w w' := by
    rintro e w' ⟨h1, h2, h3⟩
    cases h : numS (trimP 45 x) with
    | none => rw [h] at hv2; exact ⟨15, by rw [h1 h, hv2]; rfl, h3⟩
    | some u => rw [h] at hv2; exact ⟨0, by rw [h2 u h, hv2]; rfl, h3⟩
  have hnum := Lib.hid (hn.mono hnum)
  have hneg := neg_wrap v hv1
  have ht' := Lib.hid ht
  unfold numP
  rw [← hv2]
  obtain ⟨nv, hnv⟩ : ∃ nv, neg64 v = nv := ⟨_, rfl⟩
  rw [hnv] at hneg ⊢
  have hfb := Lib.hid (show bt (trimP 45 x) = ⟨(trimP 45 x).toArray⟩ from rfl)
  by_cases hd : x.head? = some 45
  · rw [if_pos hd]
    rw [decide_eq_true hd] at hp
    have hp' := Lib.hid hp
    clear hd hp ht hn hv2 hnv hE hx
    go_enter Tryz.func112, Tryz.ntmps112
    go_wp2_with fail
    refine ht'.out.mono ?_
    rintro e w1 ⟨rfl, rfl⟩
    rw [← hfb.out]
    go_wp2_with fail
    refine hnum.out.mono ?_
    rintro e w2 ⟨er, rfl, hb2⟩
    have hb2' := Lib.hid hb2
    clear hb2
    go_wp2_with fail
    refine (hp'.out _).mono ?_
    rintro e w3 ⟨rfl, rfl⟩
    go_wp2
    go_ret
    exact ⟨rfl, hb2'.out⟩
  · rw [if_neg hd]
    rw [decide_eq_false hd] at hp
    have hp' := Lib.hid hp
    clear hd hp ht hn hv2 hnv hE hx
    go_enter Tryz.func112, Tryz.ntmps112
    go_wp2_with fail
    refine ht'.out.mono ?_
    rintro e w1 ⟨rfl, rfl⟩
    rw [← hfb.out]
    go_wp2_with fail
    refine hnum.out.mono ?_
    rintro e w2 ⟨er, rfl, hb2⟩
    have hb2' := Lib.hid hb2
    clear hb2
    go_wp2_with fail
    refine (hp'.out _).mono ?_
    rintro e w3 ⟨rfl, rfl⟩
    go_wp2
    go_ret
    exact ⟨rfl, hb2'.out⟩
/-- a reader's step: a value, the rest -/
def RPost (F : Nat → Prop) (v : Value) (rb : Nat) (l : List (List UInt8)) (w : World) (e : Ending) (w' : World) : Prop := e = .returned v ∧ RdAt F w' rb l.tail ∧ Keep (fun k => k = rb) w w'
theorem Env.on {w0 w : World} (h : Env w0) (hb : Below w0.heap.size w0 w) : Env w := h.below hb
set_option maxRecDepth 100000 in
set_option maxHeartbeats 4000000 in
theorem reg69_any (F : Nat → Prop) (rb : Nat) (l : List (List UInt8)) (w0 w : World) (hE : Env w0) (hB : Below w0.heap.size w0 w) (hrb : w0.heap.size ≤ rb) (h : RdAt F w rb l) :
    Calls Tryz.prog 69 #[.pointer (some ⟨rb, 0, none⟩)] w (RPost F (.int .i64 (regP (l.headD []))) rb l w) := by
  have h1 := Lib.hid (text86_any F rb l w h)
  obtain ⟨x, hx⟩ : ∃ x, l.headD [] = x := ⟨_, rfl⟩
  unfold TextPost at h1
  rw [hx] at h1 ⊢
  have hsz : x.length ≤ 2000000 := by obtain ⟨_, _, _, _, _, _, _, h5, _⟩ := h; rw [← hx]; exact head_le h5
  have ht := Lib.hid (fun W => by
    have ht := Tryz.strings_TrimPrefix (bt x) ⟨#[37]⟩ W
    rw [show (Lib.trimPrefix (bt x).data.toList (⟨#[37]⟩ : ByteArray).data.toList) = trimP 37 x from trimP_eq 37 x] at ht
    exact ht)
  have hu := Lib.hid (fun W hE => unreg13_any (bt (trimP 37 x)) W hE)
  unfold UnregPost at hu
  have hfb := Lib.hid (show bt (trimP 37 x) = ⟨(trimP 37 x).toArray⟩ from rfl)
  unfold regP
  have e3 : (bt (trimP 37 x)).data.toList = trimP 37 x := rfl
  rw [e3] at hu
  obtain ⟨r, hr⟩ : ∃ r, (idxW regW (trimP 37 x)) = r := ⟨_, rfl⟩
  rw [hr] at hu ⊢
  have hE' := Lib.hid hE
  have hB' := Lib.hid hB
  clear hx hr e3 h hB hE
  go_enter Tryz.func69, Tryz.ntmps69
  go_wp2_with fail
  refine h1.out.mono ?_
  rintro e w1 ⟨rfl, hr1, hk1⟩
  have hr1' := Lib.hid hr1
  have hk1' := Lib.hid hk1
  clear hr1 hk1
  go_wp2_with fail
  refine (ht.out _).mono ?_
  rintro e w2 ⟨rfl, rfl⟩
  rw [← hfb.out]
  go_wp2_with fail
  refine (hu.out _ (hE'.out.on (hk1'.out.on hB'.out (fun k e => by rw [e]; exact hrb)))).mono ?_
  rintro e w3 ⟨rfl, hb3⟩
  have hb3' := Lib.hid hb3
  clear hb3
  go_wp2
  go_ret
  exact ⟨rfl, hr1'.out.below hb3'.out, hk1'.out.next hb3'.out⟩
set_option maxRecDepth 100000 in
set_option maxHeartbeats 4000000 in
theorem imm72_any (F : Nat → Prop) (rb : Nat) (l : List (List UInt8)) (w0 w : World) (hE : Env w0) (hB : Below w0.heap.size w0 w) (hrb : w0.heap.size ≤ rb) (h : RdAt F w rb l) :
    Calls Tryz.prog 72 #[.pointer (some ⟨rb, 0, none⟩)] w (RPost F (.int .u64 ((immP (l.headD []) : Nat) : Int)) rb l w) := by
  have h1 := Lib.hid (text86_any F rb l w h)
  obtain ⟨x, hx⟩ : ∃ x, l.headD [] = x := ⟨_, rfl⟩
  unfold TextPost at h1
  rw [hx] at h1 ⊢
  have hsz : x.length ≤ 2000000 := by obtain ⟨_, _, _, _, _, _, _, h5, _⟩ := h; rw [← hx]; exact head_le h5
  have ht := Lib.hid (fun W => by
    have ht := Tryz.strings_TrimPrefix (bt x) ⟨#[36]⟩ W
    rw [show (Lib.trimPrefix (bt x).data.toList (⟨#[36]⟩ : ByteArray).data.toList) = trimP 36 x from trimP_eq 36 x] at ht
    exact ht)
  have hu := Lib.hid (fun W hE => number112_any (trimP 36 x) (Nat.le_trans (trimP_len _ _) hsz) W hE)
  unfold NumPostB at hu
  have hfb := Lib.hid (show bt (trimP 36 x) = ⟨(trimP 36 x).toArray⟩ from rfl)
  unfold immP
  obtain ⟨r, hr⟩ : ∃ r, numP (trimP 36 x) = r := ⟨_, rfl⟩
  rw [hr] at hu ⊢
  have hE' := Lib.hid hE
  have hB' := Lib.hid hB
  clear hx hr h hB hE hsz
  go_enter Tryz.func72, Tryz.ntmps72
  go_wp2_with fail
  refine h1.out.mono ?_
  rintro e w1 ⟨rfl, hr1, hk1⟩
  have hr1' := Lib.hid hr1
  have hk1' := Lib.hid hk1
  clear hr1 hk1
  go_wp2_with fail
  refine (ht.out _).mono ?_
  rintro e w2 ⟨rfl, rfl⟩
  rw [← hfb.out]
  go_wp2_with fail
  refine (hu.out _ (hE'.out.on (hk1'.out.on hB'.out (fun k e => by rw [e]; exact hrb)))).mono ?_
  rintro e w3 ⟨rfl, hb3⟩
  have hb3' := Lib.hid hb3
  clear hb3
  go_wp2
  go_ret
  exact ⟨rfl, hr1'.out.below hb3'.out, hk1'.out.next hb3'.out⟩
theorem numP_lt (l : List UInt8) : numP l < 18446744073709551616 := by
  have hv : (numS (trimP 45 l)).getD 0 < 18446744073709551616 := by
    cases h : numS (trimP 45 l) with
    | none => simp
    | some u => exact numS_lt h
  unfold numP neg64
  split
  · split <;> omega
  · exact hv
set_option maxRecDepth 100000 in
set_option maxHeartbeats 4000000 in
theorem label64_any (F : Nat → Prop) (rb : Nat) (l : List (List UInt8)) (w0 w : World) (hE : Env w0) (hB : Below w0.heap.size w0 w) (hrb : w0.heap.size ≤ rb) (h : RdAt F w rb l) :
    Calls Tryz.prog 64 #[.pointer (some ⟨rb, 0, none⟩)] w (RPost F (.int .i64 (lblP (l.headD []))) rb l w) := by
  have h1 := Lib.hid (text86_any F rb l w h)
  obtain ⟨x, hx⟩ : ∃ x, l.headD [] = x := ⟨_, rfl⟩
  unfold TextPost at h1
  rw [hx] at h1 ⊢
  have hsz : x.length ≤ 2000000 := by obtain ⟨_, _, _, _, _, _, _, h5, _⟩ := h; rw [← hx]; exact head_le h5
  have ht := Lib.hid (fun W => by
    have ht := Tryz.strings_TrimPrefix (bt x) ⟨#[76]⟩ W
    rw [show (Lib.trimPrefix (bt x).data.toList (⟨#[76]⟩ : ByteArray).data.toList) = trimP 76 x from trimP_eq 76 x] at ht
    exact ht)
  have hu := Lib.hid (fun W hE => number112_any (trimP 76 x) (Nat.le_trans (trimP_len _ _) hsz) W hE)
  unfold NumPostB at hu
  have hfb := Lib.hid (show bt (trimP 76 x) = ⟨(trimP 76 x).toArray⟩ from rfl)
  unfold lblP
  have hlt := numP_lt (trimP 76 x)
  obtain ⟨r, hr⟩ : ∃ r, numP (trimP 76 x) = r := ⟨_, rfl⟩
  rw [hr] at hu hlt ⊢
  have hE' := Lib.hid hE
  have hB' := Lib.hid hB
  clear hx hr h hB hE hsz
  by_cases hm : 1048577 ≤ r
  · have e1 : (1048577 : Int) ≤ (r : Int) := by omega
    have hv := Lib.hid (show min (1048577 : Int) (r : Int) = 1048577 by omega)
    clear hm
    go_enter Tryz.func64, Tryz.ntmps64
    go_wp2_with fail
    refine h1.out.mono ?_
    rintro e w1 ⟨rfl, hr1, hk1⟩
    have hr1' := Lib.hid hr1
    have hk1' := Lib.hid hk1
    clear hr1 hk1
    go_wp2_with fail
    refine (ht.out _).mono ?_
    rintro e w2 ⟨rfl, rfl⟩
    rw [← hfb.out]
    go_wp2_with fail
    refine (hu.out _ (hE'.out.on (hk1'.out.on hB'.out (fun k e => by rw [e]; exact hrb)))).mono ?_
    rintro e w3 ⟨rfl, hb3⟩
    have hb3' := Lib.hid hb3
    clear hb3
    go_wp2
    go_ret
    exact ⟨by rw [hv.out]; rfl, hr1'.out.below hb3'.out, hk1'.out.next hb3'.out⟩
  · have e1 : ¬ (1048577 : Int) ≤ (r : Int) := by omega
    have e2 : (r : Int) ≤ 1048577 := by omega
    have hv := Lib.hid (show min (1048577 : Int) (r : Int) = (r : Int) by omega)
    clear hm
    go_enter Tryz.func64, Tryz.ntmps64
    go_wp2_with fail
    refine h1.out.mono ?_
    rintro e w1 ⟨rfl, hr1, hk1⟩
    have hr1' := Lib.hid hr1
    have hk1' := Lib.hid hk1
    clear hr1 hk1
    go_wp2_with fail
    refine (ht.out _).mono ?_
    rintro e w2 ⟨rfl, rfl⟩
    rw [← hfb.out]
    go_wp2_with fail
    refine (hu.out _ (hE'.out.on (hk1'.out.on hB'.out (fun k e => by rw [e]; exact hrb)))).mono ?_
    rintro e w3 ⟨rfl, hb3⟩
    have hb3' := Lib.hid hb3
    clear hb3
    go_wp2
    go_ret
    exact ⟨by rw [hv.out]; rfl, hr1'.out.below hb3'.out, hk1'.out.next hb3'.out⟩
end Go.Proofs.YtmimmnjdgpdjlaaGreatDoor
namespace Go.Proofs.YtmimmnjdgpdjlaaGreatDoor
open Go.RowKit Go.Lib Go.Shelf

theorem Keep.alloc {S : Nat → Prop} {w W : World} (h : Keep S w W) (o : Obj) : Keep S w (W.alloc o) := h.next (below_new W o)
theorem Keep.setNew {S : Nat → Prop} {w W : World} (h : Keep S w W) (b o : Nat) (v : Value) (hb : w.heap.size ≤ b) : Keep S w (W.setCell ⟨b, o, none⟩ v) :=
  ⟨h.1, h.2.1, h.2.2.1, by have := h.2.2.2.1; simpa [World.setCell] using this, fun k hk hs => (Below.heap_setCell W ⟨b, o, none⟩ v k (by simp; omega)).trans (h.2.2.2.2 k hk hs)⟩
theorem Keep.later {S T : Nat → Prop} {w W V : World} (h : Keep S w W) (k : Keep T W V) (hT : ∀ b, T b → w.heap.size ≤ b) : Keep S w V :=
  ⟨k.1.trans h.1, k.2.1.trans h.2.1, k.2.2.1.trans h.2.2.1, Nat.le_trans h.2.2.2.1 k.2.2.2.1, fun i hi hs => (k.2.2.2.2 i (Nat.lt_of_lt_of_le hi h.2.2.2.1) (fun e => by have := hT i e; omega)).trans (h.2.2.2.2 i hi hs)⟩
theorem Keep.drewN {S : Nat → Prop} {w W : World} (h : Keep S w W) (n : Nat) : Keep S w (W.drewN n) := ⟨h.1, h.2.1, h.2.2.1, h.2.2.2.1, h.2.2.2.2⟩
theorem idx_at (L : List (List UInt8)) (q n : Nat) (hn : L.length = n) (hb : n ≤ 100) (s : ByteArray) (w : World) (hq : w.heap[q]? = some (.cells (lisC L) 9 (0, 0))) : Calls Tryz.prog 36 #[.slice (some ⟨q, 0, none⟩) n n, .string s] w fun e w' => e = .returned (.int .i64 (idxI L s.data.toList)) ∧ w' = w := by
  have h := Tryz.slices_Index_string q 0 n n (L.map bt) s w (by rw [List.length_map]; omega) (by omega) (fun j hj => by
    rw [List.length_map] at hj
    rw [Nat.zero_add, blk_cell hq]
    unfold lisC
    rw [List.getElem?_toArray, List.getElem?_map, List.getElem?_eq_getElem hj]
    rw [List.getD_eq_getElem?_getD, List.getElem?_map, List.getElem?_eq_getElem hj]
    rfl)
  rw [List.take_of_length_le (by rw [List.length_map]; omega), idxOf_W] at h
  exact h
set_option maxRecDepth 100000 in
set_option maxHeartbeats 4000000 in
theorem low81_any (F : Nat → Prop) (rb : Nat) (l : List (List UInt8)) (w0 w : World) (hE : Env w0) (hB : Below w0.heap.size w0 w) (hrb : w0.heap.size ≤ rb) (h : RdAt F w rb l) :
    Calls Tryz.prog 81 #[.pointer (some ⟨rb, 0, none⟩)] w (RPost F (.int .i64 (lowP (l.headD []))) rb l w) := by
  have hrl : rb < w.heap.size := by obtain ⟨A, c, t, h1, _⟩ := h; exact blk_lt h1
  have hl := Lib.hid ((lows_any w (hE.on hB)).mono (R' := fun e w' => e = .returned (.slice (some ⟨w.heap.size, 0, none⟩) 16 16) ∧ w' = w.alloc (.cells (lisC lowW) 9)) (fun e w' h => h))
  obtain ⟨W1, hW1⟩ : ∃ W1, w.alloc (.cells (lisC lowW) 9) = W1 := ⟨_, rfl⟩
  have hb1 : Below w.heap.size w W1 := by rw [← hW1]; exact below_new w _
  have hq1 : W1.heap[w.heap.size]? = some (.cells (lisC lowW) 9 (0, 0)) := by rw [← hW1]; exact heap_alloc_new _ _
  rw [hW1] at hl
  have h1 := Lib.hid (text86_any F rb l W1 (h.below hb1))
  obtain ⟨x, hx⟩ : ∃ x, l.headD [] = x := ⟨_, rfl⟩
  unfold TextPost at h1
  rw [hx] at h1 ⊢
  have ht := Lib.hid (fun W => by
    have ht := Tryz.strings_TrimPrefix (bt x) ⟨#[37]⟩ W
    rw [show (Lib.trimPrefix (bt x).data.toList (⟨#[37]⟩ : ByteArray).data.toList) = trimP 37 x from trimP_eq 37 x] at ht
    exact ht)
  have hu := Lib.hid (fun W hq => idx_at lowW w.heap.size 16 rfl (by omega) (bt (trimP 37 x)) W hq)
  have e3 : (bt (trimP 37 x)).data.toList = trimP 37 x := rfl
  rw [e3] at hu
  have hfb := Lib.hid (show bt (trimP 37 x) = ⟨(trimP 37 x).toArray⟩ from rfl)
  unfold lowP
  have hi : ∃ z : Int, idxI lowW (trimP 37 x) = z ∧ (((idxW lowW (trimP 37 x)).getD 0 : Nat) : Int) = max 0 z := by
    unfold idxI
    cases idxW lowW (trimP 37 x) with
    | none => exact ⟨-1, rfl, rfl⟩
    | some k => exact ⟨(k : Int), rfl, by simp⟩
  obtain ⟨z, hz1, hz2⟩ := hi
  rw [hz1] at hu
  rw [hz2]
  have hk0 := Lib.hid (Keep.of_below (S := fun k => k = rb) hb1)
  have hq1' := Lib.hid hq1
  have hne := Lib.hid (show ¬ w.heap.size = rb by omega)
  clear hx e3 hz1 hz2 h hB hE hW1 hq1 hb1
  by_cases hm : 0 ≤ z
  · have e1 : (0 : Int) ≤ z := hm
    have hv := Lib.hid (show max 0 z = z by omega)
    go_enter Tryz.func81, Tryz.ntmps81
    go_wp2_with fail
    refine hl.out.mono ?_
    rintro e w1 ⟨rfl, rfl⟩
    go_wp2_with fail
    refine h1.out.mono ?_
    rintro e w2 ⟨rfl, hr1, hk1⟩
    have hr1' := Lib.hid hr1
    have hk1' := Lib.hid hk1
    clear hr1 hk1
    go_wp2_with fail
    refine (ht.out _).mono ?_
    rintro e w3 ⟨rfl, rfl⟩
    rw [← hfb.out]
    go_wp2_with fail
    refine (hu.out _ (hk1'.out.at hq1'.out hne.out)).mono ?_
    rintro e w4 ⟨rfl, rfl⟩
    go_wp2
    go_ret
    exact ⟨by rw [hv.out]; rfl, hr1'.out, hk0.out.trans hk1'.out⟩
  · have e1 : ¬ (0 : Int) ≤ z := hm
    have e2 : z < 0 := by omega
    have e3 : z ≤ 0 := by omega
    have hv := Lib.hid (show max 0 z = 0 by omega)
    go_enter Tryz.func81, Tryz.ntmps81
    go_wp2_with fail
    refine hl.out.mono ?_
    rintro e w1 ⟨rfl, rfl⟩
    go_wp2_with fail
    refine h1.out.mono ?_
    rintro e w2 ⟨rfl, hr1, hk1⟩
    have hr1' := Lib.hid hr1
    have hk1' := Lib.hid hk1
    clear hr1 hk1
    go_wp2_with fail
    refine (ht.out _).mono ?_
    rintro e w3 ⟨rfl, rfl⟩
    rw [← hfb.out]
    go_wp2_with fail
    refine (hu.out _ (hk1'.out.at hq1'.out hne.out)).mono ?_
    rintro e w4 ⟨rfl, rfl⟩
    go_wp2
    go_ret
    exact ⟨by rw [hv.out]; rfl, hr1'.out, hk0.out.trans hk1'.out⟩

theorem box5 {W : World} {b : Nat} {t : TypeId} {c0 c1 c2 c3 c4 : Value} (h : W.heap[b]? = some (.cells #[c0, c1, c2, c3, c4] t (0, 0))) : W.cell? ⟨b, 0, none⟩ = some c0 ∧ W.cell? ⟨b, 1, none⟩ = some c1 ∧ W.cell? ⟨b, 2, none⟩ = some c2 ∧ W.cell? ⟨b, 3, none⟩ = some c3 ∧ W.cell? ⟨b, 4, none⟩ = some c4 := by
  refine ⟨?_, ?_, ?_, ?_, ?_⟩ <;> (rw [blk_cell h]; rfl)
theorem cut_len (c : UInt8) : ∀ l : List UInt8, (cutL c l).1.length ≤ l.length ∧ (cutL c l).2.length ≤ l.length
  | [] => ⟨Nat.le_refl _, Nat.le_refl _⟩
  | b :: l => by
    have ih := cut_len c l
    unfold cutL
    split
    · simp
    · simp only [List.length_cons]; omega
theorem trimS_len (c : UInt8) (l : List UInt8) : (trimS c l).length ≤ l.length := by unfold trimS; split <;> simp
theorem parts_le (c : UInt8) : ∀ l : List UInt8, (∀ x ∈ partsC c l, x.length ≤ l.length) ∧ (partsC c l).length ≤ l.length + 1
  | [] => by simp [partsC]
  | b :: l => by
    obtain ⟨h1, h2⟩ := parts_le c l
    unfold partsC
    split
    · refine ⟨fun x hx => ?_, by simp only [List.length_cons]; omega⟩
      rcases List.mem_cons.1 hx with rfl | hx
      · simp
      · have := h1 x hx; simp only [List.length_cons]; omega
    · refine ⟨fun x hx => ?_, ?_⟩
      · rcases List.mem_cons.1 hx with rfl | hx
        · simp only [List.length_cons]
          cases hp : partsC c l with
          | nil => simp
          | cons y r => have := h1 y (by rw [hp]; simp); simp; omega
        · have := h1 x (List.mem_of_mem_tail hx); simp only [List.length_cons]; omega
      · simp only [List.length_cons, List.length_tail]; omega
theorem parts_ne (c : UInt8) (l : List UInt8) : partsC c l ≠ [] := by
  cases l with
  | nil => simp [partsC]
  | cons b l => unfold partsC; split <;> simp
theorem lisC_cell {W : World} {q k : Nat} {L : List (List UInt8)} {x : List UInt8} {t : TypeId} (h : W.heap[q]? = some (.cells (lisC L) t (0, 0))) (hx : L[k]? = some x) : W.cell? ⟨q, k, none⟩ = some (.string (bt x)) := by
  rw [blk_cell h]
  unfold lisC
  rw [List.getElem?_toArray, List.getElem?_map, hx]
  rfl
theorem TxAt.lis {W : World} {q : Nat} {L : List (List UInt8)} {t : TypeId} (h : W.heap[q]? = some (.cells (lisC L) t (0, 0))) : TxAt W (some ⟨q, 0, none⟩) L := fun k x hx => ⟨q, 0, rfl, by rw [Nat.zero_add]; exact lisC_cell h hx⟩
theorem TxAt.lis1 {W : World} {q : Nat} {x : List UInt8} {L : List (List UInt8)} {t : TypeId} (h : W.heap[q]? = some (.cells (lisC (x :: L)) t (0, 0))) : TxAt W (some ⟨q, 1, none⟩) L := fun k y hy => ⟨q, 1, rfl, by rw [Nat.add_comm]; exact lisC_cell h (by simpa using hy)⟩

theorem RdAt.set {F : Nat → Prop} {W : World} {rb : Nat} {l : List (List UInt8)} (h : RdAt F W rb l) (b o : Nat) (v : Value) (h1 : ¬ rb = b) (h2 : ¬ F b) : RdAt F (W.setCell ⟨b, o, none⟩ v) rb l :=
  h.keep (Keep.set W b o v) h1 (fun k e => by rw [e]; exact h2)
theorem set5_cells {W : World} {b : Nat} {t : TypeId} {c0 c1 c2 c3 c4 : Value} (h : W.heap[b]? = some (.cells #[c0, c1, c2, c3, c4] t (0, 0))) (v0 v1 v2 v3 v4 : Value) :
    (((((W.setCell ⟨b, 0, none⟩ v0).setCell ⟨b, 1, none⟩ v1).setCell ⟨b, 2, none⟩ v2).setCell ⟨b, 3, none⟩ v3).setCell ⟨b, 4, none⟩ v4).heap[b]? = some (.cells #[v0, v1, v2, v3, v4] t (0, 0)) := by
  rw [heap_setCell_same _ _ _ _ _ _ (heap_setCell_same _ _ _ _ _ _ (heap_setCell_same _ _ _ _ _ _ (heap_setCell_same _ _ _ _ _ _ (heap_setCell_same _ _ _ _ _ _ h))))]
  rfl
def adOf (y : List UInt8) (q : List (List UInt8)) (sg : Int) : Ad :=
  { ba := if y = [] then 0 else regP y, hb := !y.isEmpty, ix := match q with | [] => 0 | z :: _ => regP z, hi := !q.isEmpty, dp := sg }
theorem addrP_of {x : List UInt8} {y : List UInt8} {q : List (List UInt8)} (h : partsC 44 (trimS 41 (cutL 40 x).2) = y :: q) : addrP x = adOf y q (sgn (numP (cutL 40 x).1)) := by
  unfold addrP adOf
  rw [h]
  cases q with
  | nil => rfl
  | cons z q =>
    simp
def AdV (a : Ad) : Value := adV a.ba a.ix a.hb a.hi a.dp
set_option maxRecDepth 100000 in
set_option maxHeartbeats 8000000 in
theorem addr78_any (F : Nat → Prop) (rb : Nat) (l : List (List UInt8)) (w0 w : World) (hE : Env w0) (hB : Below w0.heap.size w0 w) (hrb : w0.heap.size ≤ rb) (hF : ∀ b, F b → b < w.heap.size) (h : RdAt F w rb l) :
    Calls Tryz.prog 78 #[.pointer (some ⟨rb, 0, none⟩)] w (RPost F (AdV (addrP (l.headD []))) rb l w) := by
  have hrl : rb < w.heap.size := by obtain ⟨A, c, t, h1, _⟩ := h; exact blk_lt h1
  obtain ⟨x, hx⟩ : ∃ x, l.headD [] = x := ⟨_, rfl⟩
  have hsz : x.length ≤ 2000000 := by obtain ⟨_, _, _, _, _, _, _, h5, _⟩ := h; rw [← hx]; exact head_le h5
  obtain ⟨W1, hW1⟩ : ∃ W1, w.alloc (.cells #[.int .i64 0, .int .i64 0, .bool false, .bool false, .int .i64 0] 30) = W1 := ⟨_, rfl⟩
  have hb1 : Below w.heap.size w W1 := by rw [← hW1]; exact below_new w _
  have hs1 : W1.heap.size = w.heap.size + 1 := by rw [← hW1]; simp
  have h1 := Lib.hid (text86_any F rb l W1 (h.below hb1))
  unfold TextPost at h1
  rw [hx] at h1 ⊢
  obtain ⟨d, hd⟩ : ∃ d, (cutL 40 x).1 = d := ⟨_, rfl⟩
  obtain ⟨re, hre⟩ : ∃ re, (cutL 40 x).2 = re := ⟨_, rfl⟩
  have hdl : d.length ≤ 2000000 := by rw [← hd]; exact Nat.le_trans (cut_len 40 x).1 hsz
  have hrl2 : re.length ≤ 2000000 := by rw [← hre]; exact Nat.le_trans (cut_len 40 x).2 hsz
  have hcut := Lib.hid (fun (W : World) (m : Int) (hm : W.cell? ⟨2, 0, none⟩ = some (.int .i64 m)) => by
    have hc := Tryz.strings_Cut (bt x) ⟨#[40]⟩ m W (by rw [bt_size]; omega) hm
    rw [show Lib.cut (bt x).data.toList (⟨#[40]⟩ : ByteArray).data.toList = _ from cut_eq 40 x, hd, hre] at hc
    exact hc)
  dsimp only at hcut
  have hnum := Lib.hid (fun W hE => number112_any d hdl W hE)
  unfold NumPostB at hnum
  obtain ⟨u, hu⟩ : ∃ u, numP d = u := ⟨_, rfl⟩
  have hul : u < 18446744073709551616 := by rw [← hu]; exact numP_lt d
  rw [hu] at hnum
  obtain ⟨sg, hsg⟩ : ∃ sg, sgn u = sg := ⟨_, rfl⟩
  have hwrap : IntKind.wrap .i64 (u : Int) = sg := by rw [wrap_sgn u hul, hsg]
  have htr := Lib.hid (fun W => by
    have ht := Tryz.strings_TrimSuffix (bt re) ⟨#[41]⟩ W (by rw [bt_size]; omega)
    rw [show Lib.trimSuffix (bt re).data.toList (⟨#[41]⟩ : ByteArray).data.toList = trimS 41 re from trimS_eq 41 re] at ht
    exact ht)
  obtain ⟨ts, hts⟩ : ∃ ts, trimS 41 re = ts := ⟨_, rfl⟩
  have htl : ts.length ≤ 2000000 := by rw [← hts]; exact Nat.le_trans (trimS_len _ _) hrl2
  rw [hts] at htr
  obtain ⟨p, hp⟩ : ∃ p, partsC 44 ts = p := ⟨_, rfl⟩
  have hspl := Lib.hid (fun (W : World) (m : Int) (hm : W.cell? ⟨2, 0, none⟩ = some (.int .i64 m)) => by
    have hc := Tryz.strings_Split (bt ts) ⟨#[44]⟩ m W (by rw [bt_size]; omega) hm (Nat.le_refl 1)
    rw [splitB_parts, parts_len, show partsC 44 (bt ts).data.toList = p from hp] at hc
    have e : ((p.map bt).map Value.string).toArray = lisC p := by unfold lisC; rw [List.map_map]; rfl
    rw [e] at hc
    exact hc)
  have hpl := parts_le 44 ts
  have hpn := parts_ne 44 ts
  rw [hp] at hpl hpn
  have hps : ∀ y ∈ p, y.length ≤ 2000000 := fun y hy => Nat.le_trans (hpl.1 y hy) htl
  have hpc : p.length ≤ 2000001 := by have := hpl.2; omega
  obtain ⟨av, hav⟩ : ∃ av, addrP x = av := ⟨_, rfl⟩
  rw [hav]
  have hfb := Lib.hid (show bt d = ⟨d.toArray⟩ from rfl)
  have hfr := Lib.hid (show bt re = ⟨re.toArray⟩ from rfl)
  have hft := Lib.hid (show bt ts = ⟨ts.toArray⟩ from rfl)
  have hEw := Lib.hid hE
  have hBw := Lib.hid (hB.trans (hb1.mono hB.size))
  have hrb' := Lib.hid hrb
  have hk0 := Lib.hid (Keep.of_below (S := fun k => k = rb) hb1)
  have hW1' := Lib.hid hW1
  have hx1 := Lib.hid (show W1.heap[w.heap.size]? = some (.cells #[.int .i64 0, .int .i64 0, .bool false, .bool false, .int .i64 0] 30 (0, 0)) from by rw [← hW1]; exact heap_alloc_new _ _)
  have hs1' := Lib.hid hs1
  have hrl' := Lib.hid hrl
  have hF' := Lib.hid hF
  clear hpl hx hW1 hs1 hb1 hE hB hrb hF h hsz hdl hrl2 htl hul
  obtain ⟨y, p, rfl⟩ : ∃ y q, p = y :: q := by
    cases p with
    | nil => exact absurd rfl hpn
    | cons y q => exact ⟨y, q, rfl⟩
  have hyl := hps y (by simp)
  have hA := Lib.hid (show av = adOf y p sg from by rw [← hav, addrP_of (by rw [hre, hts]; exact hp), hd, hu, hsg])
  clear hav hp hts hsg hu hd hre
  simp only [List.length_cons] at hpc hspl
  obtain ⟨n, hn⟩ : ∃ n, p.length = n := ⟨_, rfl⟩
  rw [hn] at hspl hpc
  have hn' := Lib.hid hn
  have hps' := Lib.hid hps
  clear hn hps hpn
  go_enter Tryz.func78, Tryz.ntmps78
  go_wp2_with fail
  rw [hW1'.out]
  refine h1.out.mono ?_
  rintro e w2 ⟨rfl, hr2, hk2⟩
  have hr2' := Lib.hid hr2
  have hk2' := Lib.hid hk2
  have hE2 := Lib.hid (hEw.out.on (hk2.on hBw.out (fun k e => by rw [e]; exact hrb'.out)))
  obtain ⟨m, hm⟩ := hE2.out.mx
  clear hr2 hk2
  go_wp2_with fail
  refine (hcut.out _ m hm).mono ?_
  rintro e w3 ⟨rfl, n3, hw3⟩
  clear hm
  rw [← hfb.out, ← hfr.out]
  have hk3 := Lib.hid (show Keep (fun k => k = rb) W1 w3 from by rw [hw3]; exact hk2'.out.drewN n3)
  have hr3 := Lib.hid (show RdAt F w3 rb l.tail from by rw [hw3]; exact hr2'.out.keep (S := fun _ => False) ((Keep.refl _ _).drewN n3) (fun e => e) (fun _ e => e.elim))
  clear hw3 hk2' hr2'
  go_wp2_with fail
  refine (hnum.out _ (hEw.out.on (hk3.out.on hBw.out (fun k e => by rw [e]; exact hrb'.out)))).mono ?_
  rintro e w4 ⟨rfl, hb4⟩
  have hk4 := Lib.hid (hk3.out.next hb4)
  have hr4 := Lib.hid (hr3.out.below hb4)
  clear hb4 hk3 hr3
  go_wp2_with fail
  obtain ⟨W5, hW5⟩ : ∃ W5, w4.alloc (.cells #[.int .i64 0, .int .i64 0, .bool false, .bool false, .int .i64 sg] 30) = W5 := ⟨_, rfl⟩
  rw [hW5]
  have hk5 := Lib.hid (show Keep (fun k => k = rb) W1 W5 from by rw [← hW5]; exact hk4.out.alloc _)
  have hr5 := Lib.hid (show RdAt F W5 rb l.tail from by rw [← hW5]; exact hr4.out.below (below_new _ _))
  have ha5 := Lib.hid (show W5.heap[w4.heap.size]? = some (.cells #[.int .i64 0, .int .i64 0, .bool false, .bool false, .int .i64 sg] 30 (0, 0)) from by rw [← hW5]; exact heap_alloc_new _ _)
  have hs5 := Lib.hid (show w.heap.size < w4.heap.size ∧ w4.heap.size < W5.heap.size from by
    have := hk4.out.2.2.2.1
    have := hs1'.out
    rw [← hW5]
    simp
    omega)
  obtain ⟨b5, hb5⟩ : ∃ b5, w4.heap.size = b5 := ⟨_, rfl⟩
  rw [hb5] at ha5 hs5 ⊢
  clear hb5 hW5 hk4 hr4
  refine (htr.out _).mono ?_
  rintro e w6 ⟨rfl, rfl⟩
  rw [← hft.out]
  go_wp2_with fail
  obtain ⟨m, hm⟩ := (hEw.out.on (hk5.out.on hBw.out (fun k e => by rw [e]; exact hrb'.out))).mx
  refine (hspl.out _ m hm).mono ?_
  rintro e w7 ⟨rfl, hw7⟩
  clear hm
  have hk7 := Lib.hid (show Keep (fun k => k = rb) W1 w7 from by rw [hw7]; exact hk5.out.alloc _)
  have hr7 := Lib.hid (show RdAt F w7 rb l.tail from by rw [hw7]; exact hr5.out.below (below_new _ _))
  have ha7 := Lib.hid (show w7.heap[b5]? = some (.cells #[.int .i64 0, .int .i64 0, .bool false, .bool false, .int .i64 sg] 30 (0, 0)) from by rw [hw7, heap_alloc_old _ _ (blk_lt ha5.out)]; exact ha5.out)
  obtain ⟨q, hq⟩ : ∃ q, w6.heap.size = q := ⟨_, rfl⟩
  rw [hq] at hs5 ⊢
  have hq7 := Lib.hid (show w7.heap[q]? = some (.cells (lisC (y :: p)) 9 (0, 0)) from by rw [hw7, ← hq]; exact heap_alloc_new _ _)
  have hs7 := Lib.hid (show w.heap.size < b5 ∧ b5 < q ∧ q < w7.heap.size from ⟨hs5.out.1, hs5.out.2, blk_lt hq7.out⟩)
  clear hw7 hq hk5 hr5 ha5 hs5
  have hc0 : w7.cell? ⟨q, 0, none⟩ = some (.string (bt y)) := lisC_cell hq7.out rfl
  obtain ⟨yb, hyb⟩ : ∃ yb, bt y = yb := ⟨_, rfl⟩
  rw [hyb] at hc0
  have hemp : yb.toList.isEmpty = y.isEmpty := by rw [← hyb, ByteArray.toList_eq]; rfl
  have hn7 : (n : Int) ≤ 2000000 := by omega
  have hn8 : (0 : Int) ≤ (n : Int) := by omega
  have hlen := Lib.hid (show (y :: p).length = n + 1 ∧ n + 1 ≤ 2000001 from ⟨by rw [List.length_cons, hn'.out], by omega⟩)
  clear hyb hpc
  have hB7 := Lib.hid (hk7.out.on hBw.out (fun k e => by rw [e]; exact hrb'.out))
  by_cases hy : y = []
  · have hz : yb.toList.isEmpty = true := by rw [hemp]; simpa using hy
    have hy' := Lib.hid hy
    clear hemp hy
    obtain ⟨k0, k1, k2, k3, k4⟩ := box5 ha7.out
    have hfz : ∀ k, w7.frozen? ⟨b5, k, none⟩ = false := fun k => by simp [World.frozen?, ha7.out]
    have hx9 := Lib.hid (hk7.out.at hx1.out (by have := hrl'.out; omega))
    obtain ⟨c0, c1, c2, c3, c4⟩ := box5 hx9.out
    have hfy : ∀ k, w7.frozen? ⟨w.heap.size, k, none⟩ = false := fun k => by simp [World.frozen?, hx9.out]
    have hne1 : ¬ w.heap.size = b5 := by have := hs7.out; omega
    have hnr1 := Lib.hid (show ¬ rb = b5 by have := hs7.out; have := hrl'.out; omega)
    have hnr2 := Lib.hid (show ¬ rb = w.heap.size by have := hrl'.out; omega)
    have hnF1 := Lib.hid (show ¬ F b5 from fun e => by have := hF'.out _ e; have := hs7.out; omega)
    have hnF2 := Lib.hid (show ¬ F w.heap.size from fun e => by have := hF'.out _ e; omega)
    have hle5 := Lib.hid (show w.heap.size ≤ b5 by have := hs7.out; omega)
    have hnq : ¬ q = b5 := by have := hs7.out; omega
    have hne2 : ¬ b5 = w.heap.size := by have := hs7.out; omega
    cases p with
    | nil =>
      obtain rfl : n = 0 := hn'.out.symm
      go_wp2_with fail
      refine bodyPost_ret (v := AdV av) ?_ rfl ⟨rfl, ?_, ?_⟩
      · obtain ⟨z0, z1, z2, z3, z4⟩ := box5 (set5_cells (show w7.heap[w.heap.size]? = some (.cells #[.int .i64 0, .int .i64 0, .bool false, .bool false, .int .i64 0] 30 (0, 0)) from hx9.out) (.int .i64 0) (.int .i64 0) (.bool false) (.bool false) (.int .i64 sg))
        rw [hA.out]
        have hye : y.isEmpty = true := by simpa using hy'.out
        simp [results, Tryz.f78, go_sem, z0, z1, z2, z3, z4, AdV, adOf, adV, hy'.out, hye]
      · repeat refine RdAt.set ?_ _ _ _ (by first | exact hnr1.out | exact hnr2.out) (by first | exact hnF1.out | exact hnF2.out)
        exact hr7.out
      · repeat refine Keep.setNew ?_ _ _ _ (by first | exact Nat.le_refl _ | exact hle5.out)
        exact hk0.out.trans hk7.out
    | cons z p =>
      have hnp : 0 < n := by rw [← hn'.out]; simp
      have hp1 : ¬ n = 0 := by omega
      have hp2 : (1 : Int) < (n : Int) + 1 := by omega
      have hl2 := Lib.hid (show (z :: p).length = n from hn'.out)
      go_wp2_with fail
      obtain ⟨V0, hV0⟩ : ∃ V0, w7 = V0 := ⟨_, rfl⟩
      (try rw [hV0])
      obtain ⟨V1, hV1⟩ : ∃ V1, V0.alloc (.cells #[.slice (some ⟨q, 1, none⟩) n n] 102) = V1 := ⟨_, rfl⟩
      have hsv : V0.heap.size = w7.heap.size := by rw [← hV0]
      rw [hV1]
      have hv0 := Lib.hid (show Keep (fun k => k = rb) W1 V0 from by rw [← hV0]; exact hk7.out)
      have hvr := Lib.hid (show RdAt F V0 rb l.tail from by rw [← hV0]; exact hr7.out)
      have hva := Lib.hid (show V0.heap[b5]? = some (.cells #[.int .i64 0, .int .i64 0, .bool false, .bool false, .int .i64 sg] 30 (0, 0)) from by rw [← hV0]; exact ha7.out)
      have hvq := Lib.hid (show V0.heap[q]? = some (.cells (lisC (y :: z :: p)) 9 (0, 0)) from by rw [← hV0]; exact hq7.out)
      have hvx := Lib.hid (show V0.heap[w.heap.size]? = some (.cells #[.int .i64 0, .int .i64 0, .bool false, .bool false, .int .i64 0] 30 (0, 0)) from by rw [← hV0]; exact hx9.out)
      have hsz7 := Lib.hid (show w7.heap.size ≤ V0.heap.size from by rw [hsv]; exact Nat.le_refl _)
      have hb10 := Lib.hid (show Below V0.heap.size V0 V1 from by rw [← hV1]; exact below_new _ _)
      have hBV := Lib.hid (hv0.out.on hBw.out (fun k e => by rw [e]; exact hrb'.out))
      have hR10 := Lib.hid (show RdAt (fun b => b = q) V1 V0.heap.size (z :: p) from by
        refine ⟨some ⟨q, 1, none⟩, n, 102, ?_, TxAt.lis1 ((hb10.out.block q (by have := hs7.out; have := hsz7.out; omega)).trans hvq.out), by rw [hl2.out]; exact Nat.le_refl _, by rw [hl2.out]; have := hlen.out.2; omega, fun x hx => hps'.out x (by simp at hx ⊢; exact .inr hx), ?_⟩
        · rw [hl2.out, ← hV1]; exact heap_alloc_new _ _
        · intro b o e
          obtain ⟨rfl, rfl⟩ : q = b ∧ 1 = o := by simpa using e
          exact ⟨by have := hs7.out.2.2; have := hsz7.out; omega, rfl⟩)
      have hrg2 := Lib.hid (reg69_any (fun b => b = q) V0.heap.size (z :: p) w0 V1 hEw.out (hBV.out.trans (hb10.out.mono hBV.out.size)) hBV.out.size hR10.out)
      (try rw [← hsv])
      refine hrg2.out.mono ?_
      rintro e w11 ⟨rfl, hR11, hk11⟩
      rw [List.headD_cons]
      have hk11' := Lib.hid ((hv0.out.next hb10.out).later hk11 (fun b e => by have := hv0.out.2.2.2.1; omega))
      have hr11 := Lib.hid ((hvr.out.below hb10.out).keep hk11 (by have := hs7.out; have := hsz7.out; have := hrl'.out; omega) (fun k e h => by have := hF'.out k h; have := hs7.out; have := hsz7.out; omega))
      have ha11 := Lib.hid (hk11.at ((hb10.out.block b5 (by have := hs7.out; have := hsz7.out; omega)).trans hva.out) (by have := hs7.out; have := hsz7.out; omega))
      have hx11 := Lib.hid (hk11.at ((hb10.out.block w.heap.size (by have := hs7.out; have := hsz7.out; omega)).trans hvx.out) (by have := hs7.out; have := hsz7.out; omega))
      clear hk11 hR11 hV0 hV1 hsv
      clear k0 k1 k2 k3 k4 hfz c0 c1 c2 c3 c4 hfy
      obtain ⟨rz, hrz⟩ : ∃ r, regP z = r := ⟨_, rfl⟩
      rw [hrz]
      obtain ⟨k0, k1, k2, k3, k4⟩ := box5 ha11.out
      have hfz : ∀ k, w11.frozen? ⟨b5, k, none⟩ = false := fun k => by simp [World.frozen?, ha11.out]
      obtain ⟨c0, c1, c2, c3, c4⟩ := box5 hx11.out
      have hfy : ∀ k, w11.frozen? ⟨w.heap.size, k, none⟩ = false := fun k => by simp [World.frozen?, hx11.out]
      go_wp2_with fail
      refine bodyPost_ret (v := AdV av) ?_ rfl ⟨rfl, ?_, ?_⟩
      · obtain ⟨z0, z1, z2, z3, z4⟩ := box5 (set5_cells (show ((w11.setCell ⟨b5, 3, none⟩ (.bool true)).setCell ⟨b5, 1, none⟩ (.int .i64 rz)).heap[w.heap.size]? = some (.cells #[.int .i64 0, .int .i64 0, .bool false, .bool false, .int .i64 0] 30 (0, 0)) from by rw [heap_setCell_other _ _ _ _ hne1, heap_setCell_other _ _ _ _ hne1]; exact hx11.out) (.int .i64 0) (.int .i64 rz) (.bool false) (.bool true) (.int .i64 sg))
        rw [hA.out]
        have hye : y.isEmpty = true := by simpa using hy'.out
        simp [results, Tryz.f78, go_sem, z0, z1, z2, z3, z4, AdV, adOf, adV, hrz, hy'.out, hye]
      · repeat refine RdAt.set ?_ _ _ _ (by first | exact hnr1.out | exact hnr2.out) (by first | exact hnF1.out | exact hnF2.out)
        exact hr11.out
      · repeat refine Keep.setNew ?_ _ _ _ (by first | exact Nat.le_refl _ | exact hle5.out)
        exact hk0.out.trans hk11'.out
  · have hz : yb.toList.isEmpty = false := by rw [hemp]; simpa using hy
    have hy' := Lib.hid hy
    clear hemp hy
    go_wp2_with fail
    obtain ⟨W8, hW8⟩ : ∃ W8, w7.alloc (.cells #[.slice (some ⟨q, 0, none⟩) (n + 1) (n + 1)] 102) = W8 := ⟨_, rfl⟩
    rw [hW8]
    have hk8 := Lib.hid (show Keep (fun k => k = rb) W1 W8 from by rw [← hW8]; exact hk7.out.alloc _)
    have hr8 := Lib.hid (show RdAt F W8 rb l.tail from by rw [← hW8]; exact hr7.out.below (below_new _ _))
    have hB8 := Lib.hid (show Below w7.heap.size w7 W8 from by rw [← hW8]; exact below_new _ _)
    have hR8 := Lib.hid (show RdAt (fun b => b = q) W8 w7.heap.size (y :: p) from by
      refine ⟨some ⟨q, 0, none⟩, n + 1, 102, ?_, TxAt.lis ((hB8.out.block q hs7.out.2.2).trans hq7.out), by rw [hlen.out.1]; exact Nat.le_refl _, by rw [hlen.out.1]; have := hlen.out.2; omega, hps'.out, ?_⟩
      · rw [hlen.out.1, ← hW8]; exact heap_alloc_new _ _
      · intro b o e
        obtain ⟨rfl, rfl⟩ : q = b ∧ 0 = o := by simpa using e
        exact ⟨by have := hs7.out.2.2; omega, rfl⟩)
    have hrg := Lib.hid (reg69_any (fun b => b = q) w7.heap.size (y :: p) w0 W8 hEw.out (hB7.out.trans (hB8.out.mono hB7.out.size)) hB7.out.size hR8.out)
    clear hW8
    refine hrg.out.mono ?_
    rintro e w9 ⟨rfl, hR9, hk9⟩
    rw [List.headD_cons]
    have hk9' := Lib.hid (hk8.out.later hk9 (fun b e => by have := hk7.out.2.2.2.1; omega))
    have hr9 := Lib.hid (hr8.out.keep hk9 (by have := hs7.out; have := hrl'.out; omega) (fun k e h => by have := hF'.out k h; have := hs7.out; omega))
    have ha9 := Lib.hid (hk9.at ((hB8.out.block b5 (by have := hs7.out; omega)).trans ha7.out) (by have := hs7.out; omega))
    have hq9 := Lib.hid (hk9.at ((hB8.out.block q (by have := hs7.out; omega)).trans hq7.out) (by have := hs7.out; omega))
    have hk9s := Lib.hid hk9.2.2.2.1
    clear hk9 hR9 hrg hR8 hr8 hk8
    obtain ⟨rg, hrg⟩ : ∃ r, regP y = r := ⟨_, rfl⟩
    rw [hrg]
    obtain ⟨k0, k1, k2, k3, k4⟩ := box5 ha9.out
    have hfz : ∀ k, w9.frozen? ⟨b5, k, none⟩ = false := fun k => by simp [World.frozen?, ha9.out]
    have hx9 := Lib.hid (hk9'.out.at hx1.out (by have := hrl'.out; omega))
    obtain ⟨c0, c1, c2, c3, c4⟩ := box5 hx9.out
    have hfy : ∀ k, w9.frozen? ⟨w.heap.size, k, none⟩ = false := fun k => by simp [World.frozen?, hx9.out]
    have hne1 : ¬ w.heap.size = b5 := by have := hs7.out; omega
    have hnr1 := Lib.hid (show ¬ rb = b5 by have := hs7.out; have := hrl'.out; omega)
    have hnr2 := Lib.hid (show ¬ rb = w.heap.size by have := hrl'.out; omega)
    have hnF1 := Lib.hid (show ¬ F b5 from fun e => by have := hF'.out _ e; have := hs7.out; omega)
    have hnF2 := Lib.hid (show ¬ F w.heap.size from fun e => by have := hF'.out _ e; omega)
    have hle5 := Lib.hid (show w.heap.size ≤ b5 by have := hs7.out; omega)
    have hnq : ¬ q = b5 := by have := hs7.out; omega
    have hleW := Lib.hid (show W1.heap.size ≤ b5 by have := hs7.out; have := hs1'.out; omega)
    have hne2 : ¬ b5 = w.heap.size := by have := hs7.out; omega
    cases p with
    | nil =>
      obtain rfl : n = 0 := hn'.out.symm
      go_wp2_with fail
      refine bodyPost_ret (v := AdV av) ?_ rfl ⟨rfl, ?_, ?_⟩
      · obtain ⟨z0, z1, z2, z3, z4⟩ := box5 (set5_cells (show ((w9.setCell ⟨b5, 2, none⟩ (.bool true)).setCell ⟨b5, 0, none⟩ (.int .i64 rg)).heap[w.heap.size]? = some (.cells #[.int .i64 0, .int .i64 0, .bool false, .bool false, .int .i64 0] 30 (0, 0)) from by rw [heap_setCell_other _ _ _ _ hne1, heap_setCell_other _ _ _ _ hne1]; exact hx9.out) (.int .i64 rg) (.int .i64 0) (.bool true) (.bool false) (.int .i64 sg))
        rw [hA.out]
        have hye : y.isEmpty = false := by simpa using hy'.out
        simp [results, Tryz.f78, go_sem, z0, z1, z2, z3, z4, AdV, adOf, adV, hy'.out, hrg, hye]
      · repeat refine RdAt.set ?_ _ _ _ (by first | exact hnr1.out | exact hnr2.out) (by first | exact hnF1.out | exact hnF2.out)
        exact hr9.out
      · repeat refine Keep.setNew ?_ _ _ _ (by first | exact Nat.le_refl _ | exact hle5.out)
        exact hk0.out.trans hk9'.out
    | cons z p =>
      have hnp : 0 < n := by rw [← hn'.out]; simp
      have hp1 : ¬ n = 0 := by omega
      have hp2 : (1 : Int) < (n : Int) + 1 := by omega
      have hl2 := Lib.hid (show (z :: p).length = n from hn'.out)
      go_wp2_with fail
      obtain ⟨V0, hV0⟩ : ∃ V0, ((w9.setCell ⟨b5, 2, none⟩ (.bool true)).setCell ⟨b5, 0, none⟩ (.int .i64 rg)) = V0 := ⟨_, rfl⟩
      (try rw [hV0])
      obtain ⟨V1, hV1⟩ : ∃ V1, V0.alloc (.cells #[.slice (some ⟨q, 1, none⟩) n n] 102) = V1 := ⟨_, rfl⟩
      have hsv : V0.heap.size = w9.heap.size := by rw [← hV0]; simp [World.setCell]
      rw [hV1]
      have hv0 := Lib.hid (show Keep (fun k => k = rb) W1 V0 from by rw [← hV0]; (repeat refine Keep.setNew ?_ _ _ _ hleW.out); exact hk9'.out)
      have hvr := Lib.hid (show RdAt F V0 rb l.tail from by rw [← hV0]; (repeat refine RdAt.set ?_ _ _ _ hnr1.out hnF1.out); exact hr9.out)
      have hva := Lib.hid (show V0.heap[b5]? = some (.cells #[.int .i64 rg, .int .i64 0, .bool true, .bool false, .int .i64 sg] 30 (0, 0)) from by rw [← hV0]; rw [heap_setCell_same _ _ _ _ _ _ (heap_setCell_same _ _ _ _ _ _ ha9.out)]; rfl)
      have hvq := Lib.hid (show V0.heap[q]? = some (.cells (lisC (y :: z :: p)) 9 (0, 0)) from by rw [← hV0]; rw [heap_setCell_other _ _ _ _ hnq, heap_setCell_other _ _ _ _ hnq]; exact hq9.out)
      have hvx := Lib.hid (show V0.heap[w.heap.size]? = some (.cells #[.int .i64 0, .int .i64 0, .bool false, .bool false, .int .i64 0] 30 (0, 0)) from by rw [← hV0]; rw [heap_setCell_other _ _ _ _ hne1, heap_setCell_other _ _ _ _ hne1]; exact hx9.out)
      have hsz7 := Lib.hid (show w7.heap.size ≤ V0.heap.size from by rw [hsv]; have := hB8.out.size; have := hk9s.out; omega)
      have hb10 := Lib.hid (show Below V0.heap.size V0 V1 from by rw [← hV1]; exact below_new _ _)
      have hBV := Lib.hid (hv0.out.on hBw.out (fun k e => by rw [e]; exact hrb'.out))
      have hR10 := Lib.hid (show RdAt (fun b => b = q) V1 V0.heap.size (z :: p) from by
        refine ⟨some ⟨q, 1, none⟩, n, 102, ?_, TxAt.lis1 ((hb10.out.block q (by have := hs7.out; have := hsz7.out; omega)).trans hvq.out), by rw [hl2.out]; exact Nat.le_refl _, by rw [hl2.out]; have := hlen.out.2; omega, fun x hx => hps'.out x (by simp at hx ⊢; exact .inr hx), ?_⟩
        · rw [hl2.out, ← hV1]; exact heap_alloc_new _ _
        · intro b o e
          obtain ⟨rfl, rfl⟩ : q = b ∧ 1 = o := by simpa using e
          exact ⟨by have := hs7.out.2.2; have := hsz7.out; omega, rfl⟩)
      have hrg2 := Lib.hid (reg69_any (fun b => b = q) V0.heap.size (z :: p) w0 V1 hEw.out (hBV.out.trans (hb10.out.mono hBV.out.size)) hBV.out.size hR10.out)
      (try rw [← hsv])
      refine hrg2.out.mono ?_
      rintro e w11 ⟨rfl, hR11, hk11⟩
      rw [List.headD_cons]
      have hk11' := Lib.hid ((hv0.out.next hb10.out).later hk11 (fun b e => by have := hv0.out.2.2.2.1; omega))
      have hr11 := Lib.hid ((hvr.out.below hb10.out).keep hk11 (by have := hs7.out; have := hsz7.out; have := hrl'.out; omega) (fun k e h => by have := hF'.out k h; have := hs7.out; have := hsz7.out; omega))
      have ha11 := Lib.hid (hk11.at ((hb10.out.block b5 (by have := hs7.out; have := hsz7.out; omega)).trans hva.out) (by have := hs7.out; have := hsz7.out; omega))
      have hx11 := Lib.hid (hk11.at ((hb10.out.block w.heap.size (by have := hs7.out; have := hsz7.out; omega)).trans hvx.out) (by have := hs7.out; have := hsz7.out; omega))
      clear hk11 hR11 hV0 hV1 hsv
      clear k0 k1 k2 k3 k4 hfz c0 c1 c2 c3 c4 hfy
      obtain ⟨rz, hrz⟩ : ∃ r, regP z = r := ⟨_, rfl⟩
      rw [hrz]
      obtain ⟨k0, k1, k2, k3, k4⟩ := box5 ha11.out
      have hfz : ∀ k, w11.frozen? ⟨b5, k, none⟩ = false := fun k => by simp [World.frozen?, ha11.out]
      obtain ⟨c0, c1, c2, c3, c4⟩ := box5 hx11.out
      have hfy : ∀ k, w11.frozen? ⟨w.heap.size, k, none⟩ = false := fun k => by simp [World.frozen?, hx11.out]
      go_wp2_with fail
      refine bodyPost_ret (v := AdV av) ?_ rfl ⟨rfl, ?_, ?_⟩
      · obtain ⟨z0, z1, z2, z3, z4⟩ := box5 (set5_cells (show ((w11.setCell ⟨b5, 3, none⟩ (.bool true)).setCell ⟨b5, 1, none⟩ (.int .i64 rz)).heap[w.heap.size]? = some (.cells #[.int .i64 0, .int .i64 0, .bool false, .bool false, .int .i64 0] 30 (0, 0)) from by rw [heap_setCell_other _ _ _ _ hne1, heap_setCell_other _ _ _ _ hne1]; exact hx11.out) (.int .i64 rg) (.int .i64 rz) (.bool true) (.bool true) (.int .i64 sg))
        rw [hA.out]
        have hye : y.isEmpty = false := by simpa using hy'.out
        simp [results, Tryz.f78, go_sem, z0, z1, z2, z3, z4, AdV, adOf, adV, hrz, hy'.out, hrg, hye]
      · repeat refine RdAt.set ?_ _ _ _ (by first | exact hnr1.out | exact hnr2.out) (by first | exact hnF1.out | exact hnF2.out)
        exact hr11.out
      · repeat refine Keep.setNew ?_ _ _ _ (by first | exact Nat.le_refl _ | exact hle5.out)
        exact hk0.out.trans hk11'.out

end Go.Proofs.YtmimmnjdgpdjlaaGreatDoor
namespace Go.Proofs.YtmimmnjdgpdjlaaGreatDoor
open Go.RowKit Go.Lib Go.Shelf Go.MapKept
open Go.ChangeMaps (setBlock heap_setBlock_same heap_setBlock_other)

/-- what a block of the table is -/
inductive Gh where
  | box (r : Rd)
  | row (i : Nat)
def zC : Array Value := #[.int .i64 0, .int .i64 0, .int .i64 0, .int .i64 0, .int .i64 0, .int .i64 0, .int .u64 0, .int .i64 0, .int .i64 0, .bool false, .bool false, .int .i64 0, .int .i64 0]
/-- a meaning's own box; what its calls have left in it does not count -/
def BoxAt (w : World) (b : Nat) : Rd → Prop
  | .two op bn cd => ∃ d s : Int, w.heap[b]? = some (.cells #[.int .i64 op, .int .i64 bn, .int .i64 0, .int .i64 cd, .int .i64 d, .int .i64 s, .int .u64 0, .int .i64 0, .int .i64 0, .bool false, .bool false, .int .i64 0, .int .i64 0] 32 (0, 0))
  | .imm op bn sh => ∃ d n : Int, w.heap[b]? = some (.cells #[.int .i64 op, .int .i64 bn, .int .i64 sh, .int .i64 0, .int .i64 d, .int .i64 0, .int .u64 n, .int .i64 0, .int .i64 0, .bool false, .bool false, .int .i64 0, .int .i64 0] 32 (0, 0))
  | .one op => ∃ d : Int, w.heap[b]? = some (.cells #[.int .i64 op, .int .i64 0, .int .i64 0, .int .i64 0, .int .i64 d, .int .i64 0, .int .u64 0, .int .i64 0, .int .i64 0, .bool false, .bool false, .int .i64 0, .int .i64 0] 32 (0, 0))
  | .lbl op cd => ∃ n : Int, w.heap[b]? = some (.cells #[.int .i64 op, .int .i64 0, .int .i64 0, .int .i64 cd, .int .i64 0, .int .i64 0, .int .u64 0, .int .i64 0, .int .i64 0, .bool false, .bool false, .int .i64 0, .int .i64 n] 32 (0, 0))
  | .shc h => w.heap[b]? = some (.cells #[.int .i64 h] 25 (0, 0))
  | .setc c => w.heap[b]? = some (.cells #[.int .i64 c] 26 (0, 0))
  | _ => False
theorem BoxAt.of_block {w w' : World} {b : Nat} {r : Rd} (h : BoxAt w b r) (hb : w'.heap[b]? = w.heap[b]?) : BoxAt w' b r := by
  cases r <;> simp only [BoxAt, hb] at h ⊢ <;> exact h
/-- the function that a meaning is -/
def fnOf : Rd → Nat
  | .two .. => 68
  | .imm .. => 71
  | .one .. => 74
  | .lbl .. => 76
  | .load => 77
  | .store => 79
  | .byte => 80
  | .ret => 82
  | .shc .. => 85
  | .setc .. => 88
def bare : Rd → Bool
  | .load | .store | .byte | .ret => true
  | _ => false
/-- a function value is that meaning -/
def RdOK (G : Nat → Option Gh) (r : Rd) (f : Value) : Prop :=
  if bare r then f = .func (.func (fnOf r)) #[] #[] else ∃ b, f = .func (.func (fnOf r)) #[] #[.pointer (some ⟨b, 0, none⟩)] ∧ G b = some (.box r)
theorem RdOK.ext {G G' : Nat → Option Gh} {r : Rd} {f : Value} (h : RdOK G r f) (hG : ∀ b x, G b = some x → G' b = some x) : RdOK G' r f := by
  unfold RdOK at h ⊢
  split
  · rw [if_pos (by assumption)] at h; exact h
  · rw [if_neg (by assumption)] at h
    obtain ⟨b, h1, h2⟩ := h
    exact ⟨b, h1, hG b _ h2⟩
theorem RdOK.cell {G : Nat → Option Gh} {r : Rd} {f : Value} (h : RdOK G r f) : f.oneCell' = true := by
  unfold RdOK at h
  split at h
  · rw [h]; rfl
  · obtain ⟨b, rfl, _⟩ := h; rfl
def FnsOK (G : Nat → Option Gh) (fs : List Value) (rs : List Rd) : Prop := fs.length = rs.length ∧ ∀ (k : Nat) (r : Rd), rs[k]? = some r → ∃ f, fs[k]? = some f ∧ RdOK G r f
theorem FnsOK.ext {G G' : Nat → Option Gh} {fs : List Value} {rs : List Rd} (h : FnsOK G fs rs) (hG : ∀ b x, G b = some x → G' b = some x) : FnsOK G' fs rs :=
  ⟨h.1, fun k r hr => by obtain ⟨f, h1, h2⟩ := h.2 k r hr; exact ⟨f, h1, h2.ext hG⟩⟩
theorem FnsOK.snoc {G : Nat → Option Gh} {fs : List Value} {rs : List Rd} {f : Value} {r : Rd} (h : FnsOK G fs rs) (hf : RdOK G r f) : FnsOK G (fs ++ [f]) (rs ++ [r]) := by
  refine ⟨by simp [h.1], fun k x hx => ?_⟩
  rcases Nat.lt_or_ge k rs.length with hk | hk
  · rw [List.getElem?_append_left hk] at hx
    obtain ⟨g, h1, h2⟩ := h.2 k x hx
    exact ⟨g, by rw [List.getElem?_append_left (by rw [h.1]; exact hk)]; exact h1, h2⟩
  · rw [List.getElem?_append_right hk] at hx
    have h0 : k - rs.length = 0 := by
      rcases Nat.eq_zero_or_pos (k - rs.length) with h0 | h0
      · exact h0
      · rw [List.getElem?_eq_none (by simp; omega)] at hx; cases hx
    rw [h0] at hx
    obtain rfl : r = x := by simpa using hx
    have : k = fs.length := by rw [h.1]; omega
    subst this
    exact ⟨f, by simp, hf⟩
/-- a row of the map -/
def RowAt (w : World) (lo : Nat) (G : Nat → Option Gh) (i : Nat) (e : MapEntry) (x : List UInt8 × List Rd) : Prop :=
  e.key = .string (bt x.1) ∧ ∃ fs, w.ownsRow lo 105 1 e.val x.2.length fs ∧ FnsOK G fs x.2 ∧ ∀ b, e.val.ownBlock = some b → G b = some (.row i)
/-- the table lies: its map in block m, all that belongs to it at lo and above -/
structure Table (w : World) (lo m : Nat) (G : Nat → Option Gh) (T : List (List UInt8 × List Rd)) : Prop where
  mp : ∃ es clock, w.heap[m]? = some (.map es clock) ∧ es.size = T.length ∧ ∀ (i : Nat) (e : MapEntry) x, es[i]? = some e → T[i]? = some x → RowAt w lo G i e x
  mlo : lo ≤ m
  mG : G m = none
  bx : ∀ b r, G b = some (.box r) → BoxAt w b r
  all : ∀ b x, G b = some x → lo ≤ b ∧ b < w.heap.size
theorem RowAt.kept {w w' : World} {lo : Nat} {G : Nat → Option Gh} {i : Nat} {e : MapEntry} {x : List UInt8 × List Rd} (h : RowAt w lo G i e x) {row : Option Nat} (hg : w.grownBy w' row) (hne : ∀ b, row = some b → G b ≠ some (.row i)) : RowAt w' lo G i e x := by
  obtain ⟨h1, fs, h2, h3, h4⟩ := h
  refine ⟨h1, fs, h2.kept hg ?_, h3, h4⟩
  cases ho : e.val.ownBlock with
  | none => exact .inl rfl
  | some b => exact .inr fun e2 => hne b e2.symm (h4 b ho)
theorem RowAt.ext {w : World} {lo : Nat} {G G' : Nat → Option Gh} {i : Nat} {e : MapEntry} {x : List UInt8 × List Rd} (h : RowAt w lo G i e x) (hG : ∀ b x, G b = some x → G' b = some x) : RowAt w lo G' i e x := by
  obtain ⟨h1, fs, h2, h3, h4⟩ := h
  exact ⟨h1, fs, h2, h3.ext hG, fun b hb => hG b _ (h4 b hb)⟩
/-- what is not the table's may change -/
theorem Table.keep {w w' : World} {lo m : Nat} {G : Nat → Option Gh} {T : List (List UInt8 × List Rd)} {S : Nat → Prop} (h : Table w lo m G T) (hk : Keep S w w') (hS : ∀ k, S k → G k = none ∧ k ≠ m) : Table w' lo m G T := by
  obtain ⟨⟨es, clock, h1, h2, h3⟩, h4, h5, h6, h7⟩ := h
  refine ⟨⟨es, clock, hk.at h1 fun e => (hS m e).2 rfl, h2, fun i e x he hx => ?_⟩, h4, h5, fun b r hb => ?_, fun b x hb => ⟨(h7 b x hb).1, Nat.lt_of_lt_of_le (h7 b x hb).2 hk.2.2.2.1⟩⟩
  · obtain ⟨r1, fs, r2, r3, r4⟩ := h3 i e x he hx
    refine ⟨r1, fs, ?_, r3, r4⟩
    refine ⟨r2.1, ?_⟩
    rcases r2.2 with r | ⟨g, cap, cur, hv, hb, hg, rest⟩
    · exact .inl r
    · refine .inr ⟨g, cap, cur, hv, hb, ?_, rest⟩
      have hgr := r4 g (by rw [hv]; rfl)
      rw [hk.2.2.2.2 g (blk_lt hg) (fun e => by have := (hS g e).1; rw [hgr] at this; cases this)]
      exact hg
  · exact (h6 b r hb).of_block (hk.2.2.2.2 b (h7 b _ hb).2 fun e => by have := (hS b e).1; rw [hb] at this; cases this)
theorem Table.below {w w' : World} {lo m : Nat} {G : Nat → Option Gh} {T : List (List UInt8 × List Rd)} (h : Table w lo m G T) (hb : Below w.heap.size w w') : Table w' lo m G T := h.keep (S := fun _ => False) (Keep.of_below hb) (fun _ e => e.elim)
/-- one more block of the table -/
def updG (G : Nat → Option Gh) (b : Nat) (x : Gh) : Nat → Option Gh := fun k => if k = b then some x else G k
theorem updG_ext {G : Nat → Option Gh} {b : Nat} {x : Gh} (hb : G b = none) : ∀ k y, G k = some y → updG G b x k = some y := fun k y h => by
  unfold updG
  rw [if_neg (fun e => by rw [e, hb] at h; cases h)]
  exact h
theorem Table.fresh {w : World} {lo m : Nat} {G : Nat → Option Gh} {T : List (List UInt8 × List Rd)} (h : Table w lo m G T) {b : Nat} (hb : w.heap.size ≤ b) : G b = none := by
  cases hG : G b with
  | none => rfl
  | some x => have := (h.all b x hG).2; omega
theorem Table.addBox {w w' : World} {lo m : Nat} {G : Nat → Option Gh} {T : List (List UInt8 × List Rd)} (h : Table w lo m G T) (hlo : lo ≤ w.heap.size) (hb : Below w.heap.size w w') (b : Nat) (r : Rd) (hbb : w.heap.size ≤ b) (hb2 : b < w'.heap.size) (hbx : BoxAt w' b r) (hm : m < w.heap.size) : Table w' lo m (updG G b (.box r)) T := by
  have hf := h.fresh hbb
  have h' := h.below hb
  obtain ⟨⟨es, clock, h1, h2, h3⟩, h4, h5, h6, h7⟩ := h'
  refine ⟨⟨es, clock, h1, h2, fun i e x he hx => (h3 i e x he hx).ext (updG_ext hf)⟩, h4, ?_, fun k s hk => ?_, fun k x hk => ?_⟩
  · unfold updG; rw [if_neg (by omega)]; exact h5
  · unfold updG at hk
    split at hk
    · rename_i e; subst e; injection hk with hk; injection hk with hk; subst hk; exact hbx
    · exact h6 k s hk
  · unfold updG at hk
    split at hk
    · rename_i e; subst e; exact ⟨by omega, hb2⟩
    · exact h7 k x hk

theorem str_ne {a b : ByteArray} (h : a ≠ b) : (a == b) = false := by
  have e : (a == b) = (a.data == b.data) := rfl
  rw [e]
  have : a.data ≠ b.data := fun e => h (by cases a; cases b; simp at e; rw [e])
  simpa using this
theorem str_same (a : ByteArray) : (a == a) = true := by
  have e : (a == a) = (a.data == a.data) := rfl
  rw [e]
  simp
/-! ## the table, as a list -/
def idxT (w : List UInt8) : List (List UInt8 × List Rd) → Option Nat
  | [] => none
  | x :: T => if x.1 = w then some 0 else (idxT w T).map (· + 1)
theorem idxT_some {w : List UInt8} : ∀ {T : List (List UInt8 × List Rd)} {i : Nat}, idxT w T = some i → ∃ rs, T[i]? = some (w, rs) ∧ lookIn T w = rs
  | [], i, h => by simp [idxT] at h
  | x :: T, i, h => by
    unfold idxT at h
    by_cases e : x.1 = w
    · rw [if_pos e] at h
      obtain rfl : 0 = i := Option.some.inj h
      exact ⟨x.2, by rw [← e]; rfl, by simp [lookIn, e]⟩
    · rw [if_neg e] at h
      obtain ⟨j, hj, rfl⟩ := Option.map_eq_some_iff.1 h
      obtain ⟨rs, h1, h2⟩ := idxT_some hj
      refine ⟨rs, by simpa using h1, ?_⟩
      unfold lookIn at h2 ⊢
      have hb : (x.1 == w) = false := by simpa using e
      rw [List.find?_cons, hb]
      exact h2
theorem idxT_none {w : List UInt8} : ∀ {T : List (List UInt8 × List Rd)}, idxT w T = none → lookIn T w = [] ∧ ∀ x ∈ T, x.1 ≠ w
  | [], _ => ⟨rfl, by simp⟩
  | x :: T, h => by
    unfold idxT at h
    by_cases e : x.1 = w
    · rw [if_pos e] at h; cases h
    · rw [if_neg e, Option.map_eq_none_iff] at h
      obtain ⟨h1, h2⟩ := idxT_none h
      have hb : (x.1 == w) = false := by simpa using e
      refine ⟨?_, fun y hy => ?_⟩
      · unfold lookIn at h1 ⊢
        rw [List.find?_cons, hb]
        exact h1
      · rcases List.mem_cons.1 hy with rfl | hy
        · exact e
        · exact h2 y hy
theorem addT_none {w : List UInt8} {r : Rd} : ∀ {T : List (List UInt8 × List Rd)}, idxT w T = none → addT T w r = T ++ [(w, [r])]
  | [], _ => rfl
  | x :: T, h => by
    unfold idxT at h
    by_cases e : x.1 = w
    · rw [if_pos e] at h; cases h
    · rw [if_neg e, Option.map_eq_none_iff] at h
      rw [addT, if_neg e, addT_none h]; rfl
theorem addT_some {w : List UInt8} {r : Rd} : ∀ {T : List (List UInt8 × List Rd)} {i : Nat}, idxT w T = some i → (addT T w r).length = T.length ∧ ∀ j, (addT T w r)[j]? = if j = i then (T[j]?).map (fun x => (x.1, x.2 ++ [r])) else T[j]?
  | [], i, h => by simp [idxT] at h
  | x :: T, i, h => by
    unfold idxT at h
    by_cases e : x.1 = w
    · rw [if_pos e] at h
      obtain rfl : 0 = i := Option.some.inj h
      rw [addT, if_pos e]
      refine ⟨rfl, fun j => ?_⟩
      cases j with
      | zero => simp
      | succ j => simp
    · rw [if_neg e] at h
      obtain ⟨k, hk, rfl⟩ := Option.map_eq_some_iff.1 h
      obtain ⟨h1, h2⟩ := addT_some (r := r) hk
      rw [addT, if_neg e]
      refine ⟨by simp [h1], fun j => ?_⟩
      cases j with
      | zero => simp
      | succ j =>
        simp only [List.getElem?_cons_succ]
        rw [h2 j]
        simp
theorem find_rows (w : List UInt8) : ∀ (L : List MapEntry) (T : List (List UInt8 × List Rd)) (k : Nat), L.length = T.length → (∀ (i : Nat) (e : MapEntry) x, L[i]? = some e → T[i]? = some x → e.key = .string (bt x.1)) →
    Instr.findNow .string (.string (bt w)) L k = some ((idxT w T).bind fun i => (L[i]?).map fun e => (k + i, e.val))
  | [], [], k, _, _ => rfl
  | [], _ :: _, k, h, _ => by simp at h
  | _ :: _, [], k, h, _ => by simp at h
  | e :: L, x :: T, k, h, hk => by
    have h0 := hk 0 e x rfl rfl
    have ih := find_rows w L T (k + 1) (by simpa using h) fun i e' x' h1 h2 => hk (i + 1) e' x' (by simpa using h1) (by simpa using h2)
    unfold Instr.findNow idxT
    rw [h0]
    by_cases hw : x.1 = w
    · rw [if_pos hw]
      have hb : (bt w == bt x.1) = true := by rw [hw]; exact str_same _
      simp [Instr.sameNow, hb]
    · rw [if_neg hw]
      have hb : (bt w == bt x.1) = false := str_ne fun e2 => hw (bt_inj e2).symm
      simp only [Instr.sameNow, hb]
      rw [ih]
      cases idxT w T with
      | none => rfl
      | some i =>
        simp only [Option.bind_some, Option.map_some, List.getElem?_cons_succ]
        congr 2
        funext e'
        congr 1
        omega
end Go.Proofs.YtmimmnjdgpdjlaaGreatDoor
namespace Go.Proofs.YtmimmnjdgpdjlaaGreatDoor
open Go.RowKit Go.Lib Go.Shelf Go.MapKept
open Go.ChangeMaps (setBlock heap_setBlock_same heap_setBlock_other)

theorem und66 : Tryz.prog.underlying 66 = some (.map 9 103) := by kernel_rfl
theorem und103 : Tryz.prog.underlying 103 = some (.slice 105) := by kernel_rfl
theorem zero103 (w : World) : (zeroValue 103).run Tryz.prog w = .ok (.slice none 0 0) w := by kernel_rfl
theorem info105 : (Tryz.prog.info? 105).map (fun i => (i.zero, i.size, i.bytes)) = some (some .nilFunc, 1, 8) := by kernel_rfl
theorem info105' : ∃ i, Tryz.prog.info? 105 = some i ∧ i.zero = some .nilFunc ∧ i.size = 1 ∧ i.bytes = 8 := by
  have h := info105
  cases hi : Tryz.prog.info? 105 with
  | none => rw [hi] at h; cases h
  | some i =>
    rw [hi] at h
    simp only [Option.map_some, Option.some.injEq, Prod.mk.injEq] at h
    exact ⟨i, rfl, h⟩
/-- the values that a look at the map yields -/
theorem Table.look {w : World} {lo m : Nat} {G : Nat → Option Gh} {T : List (List UInt8 × List Rd)} (h : Table w lo m G T) (wd : List UInt8) : ∃ v fs, (Instr.lookup 66 (.map (some m)) (.string (bt wd)) false).run Tryz.prog w = .ok v w ∧
    w.ownsRow lo 105 1 v (lookIn T wd).length fs ∧ FnsOK G fs (lookIn T wd) ∧ (∀ b, v.ownBlock = some b → ∃ i, idxT wd T = some i ∧ G b = some (.row i)) := by
  obtain ⟨⟨es, clock, h1, h2, h3⟩, h4, h5, h6, h7⟩ := h
  have hk : ∀ (i : Nat) (e : MapEntry) x, es.toList[i]? = some e → T[i]? = some x → e.key = .string (bt x.1) := fun i e x he hx => (h3 i e x (by simpa using he) hx).1
  have hf := find_rows wd es.toList T 0 (by simpa using h2) hk
  have hik : IsKey .string (.string (bt wd)) := by simp [IsKey]
  cases hi : idxT wd T with
  | none =>
    rw [hi] at hf
    have hf : Instr.findNow .string (.string (bt wd)) es.toList 0 = some none := hf
    obtain ⟨e1, _⟩ := idxT_none hi
    refine ⟨.slice none 0 0, [], ?_, ?_, ?_, fun b hb => by simp [Value.ownBlock] at hb⟩
    · simp [Instr.lookup, run_underlying und66, Go.MapKept.run_getObj_map h1, run_checkKey u9 hik, run_findKey u9 hf, zero103, Result.andThen]
    · rw [e1]; exact World.ownsRow_nil w lo 105 1
    · rw [e1]; exact ⟨rfl, fun k r hr => by simp at hr⟩
  | some i =>
    obtain ⟨rs, e1, e2⟩ := idxT_some hi
    have hlt : i < es.size := by rw [h2]; exact (List.getElem?_eq_some_iff.1 e1).1
    obtain ⟨e, he⟩ : ∃ e, es[i]? = some e := ⟨es[i], by simp [hlt]⟩
    obtain ⟨r1, fs, r2, r3, r4⟩ := h3 i e _ he e1
    rw [hi] at hf
    simp only [Option.bind_some, Array.getElem?_toList, he, Option.map_some, Nat.zero_add] at hf
    refine ⟨e.val, fs, ?_, by rw [e2]; exact r2, by rw [e2]; exact r3, fun b hb => ⟨i, rfl, r4 b hb⟩⟩
    simp [Instr.lookup, run_underlying und66, Go.MapKept.run_getObj_map h1, run_checkKey u9 hik, run_findKey u9 hf, Result.andThen]
theorem Table.look' {w : World} {lo m : Nat} {G : Nat → Option Gh} {T : List (List UInt8 × List Rd)} (h : Table w lo m G T) (wd : List UInt8) : ∃ v fs, (∀ W, Below w.heap.size w W → (Instr.lookup 66 (.map (some m)) (.string (bt wd)) false).run Tryz.prog W = .ok v W) ∧
    (∀ W, Below w.heap.size w W → W.ownsRow lo 105 1 v (lookIn T wd).length fs) ∧ FnsOK G fs (lookIn T wd) ∧ (∀ b, v.ownBlock = some b → ∃ i, idxT wd T = some i ∧ G b = some (.row i)) := by
  obtain ⟨⟨es, clock, h1, h2, h3⟩, h4, h5, h6, h7⟩ := h
  have hk : ∀ (i : Nat) (e : MapEntry) x, es.toList[i]? = some e → T[i]? = some x → e.key = .string (bt x.1) := fun i e x he hx => (h3 i e x (by simpa using he) hx).1
  have hf := find_rows wd es.toList T 0 (by simpa using h2) hk
  have hik : IsKey .string (.string (bt wd)) := by simp [IsKey]
  have hm : ∀ W, Below w.heap.size w W → W.heap[m]? = some (.map es clock) := fun W hb => (hb.block m (blk_lt h1)).trans h1
  cases hi : idxT wd T with
  | none =>
    rw [hi] at hf
    have hf : Instr.findNow .string (.string (bt wd)) es.toList 0 = some none := hf
    obtain ⟨e1, _⟩ := idxT_none hi
    refine ⟨.slice none 0 0, [], fun W hb => ?_, fun W hb => ?_, ?_, fun b hb => by simp [Value.ownBlock] at hb⟩
    · simp [Instr.lookup, run_underlying und66, Go.MapKept.run_getObj_map (hm W hb), run_checkKey u9 hik, run_findKey u9 hf, zero103, Result.andThen]
    · rw [e1]; exact World.ownsRow_nil W lo 105 1
    · rw [e1]; exact ⟨rfl, fun k r hr => by simp at hr⟩
  | some i =>
    obtain ⟨rs, e1, e2⟩ := idxT_some hi
    have hlt : i < es.size := by rw [h2]; exact (List.getElem?_eq_some_iff.1 e1).1
    obtain ⟨e, he⟩ : ∃ e, es[i]? = some e := ⟨es[i], by simp [hlt]⟩
    obtain ⟨r1, fs, r2, r3, r4⟩ := h3 i e _ he e1
    rw [hi] at hf
    simp only [Option.bind_some, Array.getElem?_toList, he, Option.map_some, Nat.zero_add] at hf
    refine ⟨e.val, fs, fun W hb => ?_, fun W hb => ?_, by rw [e2]; exact r3, fun b hb => ⟨i, rfl, r4 b hb⟩⟩
    · simp [Instr.lookup, run_underlying und66, Go.MapKept.run_getObj_map (hm W hb), run_checkKey u9 hik, run_findKey u9 hf, Result.andThen]
    · rw [e2]; exact r2.kept ⟨hb.os, hb.tape, hb.output, hb.size, fun k hk _ => hb.block k hk⟩ (row := none) (by cases e.val.ownBlock <;> simp)
/-- the map is written to -/
theorem Table.put {w w' : World} {lo m : Nat} {G : Nat → Option Gh} {T : List (List UInt8 × List Rd)} (h : Table w lo m G T) (wd : List UInt8) (r : Rd) (f : Value) (hf : RdOK G r f)
    (g cap : Nat) (fs : List Value) (v0 : Value) (ho : w'.ownsRow lo 105 1 (.slice (some ⟨g, 0, none⟩) ((lookIn T wd).length + 1) cap) ((lookIn T wd).length + 1) (fs ++ [f]))
    (hfs : FnsOK G fs (lookIn T wd)) (hgr : w.grownBy w' v0.ownBlock) (hv0 : ∀ b, v0.ownBlock = some b → ∃ i, idxT wd T = some i ∧ G b = some (.row i)) (hat : v0.ownBlock = some g ∨ w.heap.size ≤ g) (hg : g < w'.heap.size) (hm : m < w.heap.size) (hlo : lo ≤ w.heap.size) :
    ∃ W G', (Instr.mapUpdate 66 (.map (some m)) (.string (bt wd)) (.slice (some ⟨g, 0, none⟩) ((lookIn T wd).length + 1) cap)).run Tryz.prog w' = .ok () W ∧ Table W lo m G' (addT T wd r) ∧ (∀ b, b < w.heap.size → G' b = G b) ∧ Keep (fun k => k = m ∨ ∃ i, G k = some (.row i)) w W := by
  have hik : IsKey .string (.string (bt wd)) := by simp [IsKey]
  obtain ⟨⟨es, clock, h1, h2, h3⟩, h4, h5, h6, h7⟩ := h
  have hmG : ∀ b, v0.ownBlock = some b → b ≠ m := fun b hb e => by obtain ⟨i, _, hi⟩ := hv0 b hb; rw [e, h5] at hi; cases hi
  have hm' : w'.heap[m]? = some (.map es clock) := (hgr.block m hm (fun e => hmG m e.symm rfl)).trans h1
  have hk : ∀ (i : Nat) (e : MapEntry) x, es.toList[i]? = some e → T[i]? = some x → e.key = .string (bt x.1) := fun i e x he hx => (h3 i e x (by simpa using he) hx).1
  have hfn := find_rows wd es.toList T 0 (by simpa using h2) hk
  have hgm : g ≠ m := by
    rcases hat with e | e
    · exact hmG g e
    · omega
  have hidx : ∃ i, (idxT wd T = some i ∨ (idxT wd T = none ∧ i = T.length)) := by
    cases hi : idxT wd T with
    | none => exact ⟨_, .inr ⟨rfl, rfl⟩⟩
    | some i => exact ⟨i, .inl rfl⟩
  obtain ⟨i, hi⟩ := hidx
  have hGg : ∀ x, G g = some x → x = .row i := fun x hx => by
    rcases hat with e | e
    · obtain ⟨j, hj1, hj2⟩ := hv0 g e
      rcases hi with hi | ⟨hi, _⟩
      · rw [hi] at hj1; obtain rfl := Option.some.inj hj1; rw [hx] at hj2; exact Option.some.inj hj2
      · rw [hi] at hj1; cases hj1
    · have := (h7 g x hx).2; omega
  obtain ⟨G', hG'⟩ : ∃ G', updG G g (.row i) = G' := ⟨_, rfl⟩
  have hext : ∀ b x, G b = some x → G' b = some x := fun b x hx => by
    rw [← hG']
    unfold updG
    split
    · rename_i e; subst e; rw [hGg x hx]
    · exact hx
  have hGold : ∀ b, b < w.heap.size → G' b = G b := fun b hb => by
    rw [← hG']
    unfold updG
    split
    · rename_i e
      subst e
      rcases hat with e | e
      · obtain ⟨j, hj1, hj2⟩ := hv0 b e; rw [hj2, hGg _ hj2]
      · omega
    · rfl
  have hGm : G' m = none := by rw [hGold m hm]; exact h5
  have hGg' : G' g = some (.row i) := by rw [← hG']; unfold updG; rw [if_pos rfl]
  -- whatever the map's new entries, what stays
  have build : ∀ (es' : Array MapEntry) (clock' : Nat), es'.size = (addT T wd r).length → (∀ (j : Nat) e x, es'[j]? = some e → (addT T wd r)[j]? = some x → (j ≠ i ∧ es[j]? = some e ∧ T[j]? = some x) ∨ (j = i ∧ e.key = .string (bt x.1) ∧ e.val = .slice (some ⟨g, 0, none⟩) ((lookIn T wd).length + 1) cap ∧ x.2 = lookIn T wd ++ [r])) →
      Table (setBlock w' m (.map es' clock')) lo m G' (addT T wd r) := by
    intro es' clock' hs hr
    have hkept : ∀ k, k ≠ m → (setBlock w' m (.map es' clock')).heap[k]? = w'.heap[k]? := fun k hk => heap_setBlock_other hm' _ hk
    have hown : ∀ {v : Value} {n : Nat} {xs : List Value}, w'.ownsRow lo 105 1 v n xs → (∀ b, v.ownBlock = some b → b ≠ m) → (setBlock w' m (.map es' clock')).ownsRow lo 105 1 v n xs := fun {v n xs} ho hb => by
      refine ⟨ho.1, ?_⟩
      rcases ho.2 with q | ⟨g', cap', cur, hv, q1, q2, rest⟩
      · exact .inl q
      · exact .inr ⟨g', cap', cur, hv, q1, (hkept g' (hb g' (by rw [hv]; rfl))).trans q2, rest⟩
    refine ⟨⟨es', clock', heap_setBlock_same hm' _, hs, fun j e x he hx => ?_⟩, h4, hGm, fun b s hb => ?_, fun b x hb => ?_⟩
    · rcases hr j e x he hx with ⟨hj, q1, q2⟩ | ⟨rfl, q1, q2, q3⟩
      · have hrow := (h3 j e x q1 q2).kept hgr (fun b hb e2 => by
          obtain ⟨i', q3, q4⟩ := hv0 b hb
          rw [e2] at q4
          obtain rfl : j = i' := by injection q4 with q4; injection q4
          rcases hi with hi | ⟨hi, _⟩
          · rw [hi] at q3; exact hj (Option.some.inj q3).symm
          · rw [hi] at q3; cases q3)
        obtain ⟨a1, fs', a2, a3, a4⟩ := hrow
        exact ⟨a1, fs', hown a2 (fun b hb e2 => by have := a4 b hb; rw [e2, h5] at this; cases this), a3.ext hext, fun b hb => hext b _ (a4 b hb)⟩
      · refine ⟨q1, fs ++ [f], ?_, ?_, fun b hb => ?_⟩
        · rw [q2, q3, List.length_append, List.length_singleton]
          exact hown ho (fun b hb e2 => by simp [Value.ownBlock] at hb; omega)
        · rw [q3]; exact (hfs.snoc hf).ext hext
        · rw [q2] at hb
          obtain rfl : g = b := by simpa [Value.ownBlock] using hb
          exact hGg'
    · have hbG : G b = some (.box s) := by
        rw [← hG'] at hb
        unfold updG at hb
        split at hb
        · cases hb
        · exact hb
      have hb2 := h7 b _ hbG
      refine (h6 b s hbG).of_block ?_
      rw [hkept b (fun e => by rw [e, h5] at hbG; cases hbG)]
      exact hgr.block b hb2.2 fun e => by obtain ⟨i', _, q⟩ := hv0 b e.symm; rw [hbG] at q; cases q
    · have hsz : (setBlock w' m (.map es' clock')).heap.size = w'.heap.size := by simp [setBlock]
      rw [hsz]
      rw [← hG'] at hb
      unfold updG at hb
      split at hb
      · rename_i e
        subst e
        refine ⟨?_, hg⟩
        rcases ho.2 with q | ⟨g', cap', cur, hv, q1, _⟩
        · simp at q
        · obtain rfl : b = g' := by simp at hv; exact hv.1
          exact q1
      · exact ⟨(h7 b x hb).1, Nat.lt_of_lt_of_le (h7 b x hb).2 hgr.size⟩
  have hkeep : ∀ es' clock', Keep (fun k => k = m ∨ ∃ i, G k = some (.row i)) w (setBlock w' m (.map es' clock')) := fun es' clock' =>
    ⟨hgr.os, hgr.tape, hgr.output, by have := hgr.size; simpa [setBlock] using this, fun k hk hs => by
      rw [heap_setBlock_other hm' _ (fun e => hs (.inl e))]
      exact hgr.block k hk fun e => by obtain ⟨i', _, q⟩ := hv0 k e.symm; exact hs (.inr ⟨i', q⟩)⟩
  rcases hi with hi | ⟨hi, rfl⟩
  · obtain ⟨rs, e1, e2⟩ := idxT_some hi
    have hlt : i < es.size := by rw [h2]; exact (List.getElem?_eq_some_iff.1 e1).1
    obtain ⟨e, he⟩ : ∃ e, es[i]? = some e := ⟨es[i], by simp [hlt]⟩
    rw [hi] at hfn
    simp only [Option.bind_some, Array.getElem?_toList, he, Option.map_some, Nat.zero_add] at hfn
    obtain ⟨a1, a2⟩ := addT_some (r := r) hi
    have hkey := (h3 i e _ he e1).1
    refine ⟨setBlock w' m (.map (es.modify i fun e => { e with key := .string (bt wd), val := .slice (some ⟨g, 0, none⟩) ((lookIn T wd).length + 1) cap }) clock), G', ?_, build _ _ (by simp [a1, h2]) (fun j e' x hj hx => ?_), hGold, hkeep _ _⟩
    · simp [Instr.mapUpdate, run_underlying und66, Go.MapKept.run_getObj_map hm', run_checkKey u9 hik, run_findKey u9 hfn, he, hkey, run_keyThatStays hik, run_setObj_map _ hm', Result.andThen]
      rfl
    · rw [a2 j] at hx
      rw [Array.getElem?_modify] at hj
      by_cases hji : j = i
      · subst hji
        rw [if_pos rfl, e1] at hx
        rw [if_pos rfl, he] at hj
        simp only [Option.map_some, Option.some.injEq] at hx hj
        subst hx hj
        exact .inr ⟨rfl, rfl, rfl, by rw [← e2]⟩
      · rw [if_neg hji] at hx
        rw [if_neg (fun e => hji e.symm)] at hj
        exact .inl ⟨hji, hj, hx⟩
  · rw [hi] at hfn
    have hfn : Instr.findNow .string (.string (bt wd)) es.toList 0 = some none := hfn
    obtain ⟨e1, _⟩ := idxT_none hi
    refine ⟨setBlock w' m (.map (es.push ⟨.string (bt wd), .slice (some ⟨g, 0, none⟩) ((lookIn T wd).length + 1) cap, clock⟩) (clock + 1)), G', ?_, build _ _ (by rw [addT_none hi]; simp [h2]) (fun j e' x hj hx => ?_), hGold, hkeep _ _⟩
    · simp [Instr.mapUpdate, run_underlying und66, Go.MapKept.run_getObj_map hm', run_checkKey u9 hik, run_findKey u9 hfn, run_setObj_map _ hm', Result.andThen]
      rfl
    · rw [addT_none hi] at hx
      rw [Array.getElem?_push] at hj
      by_cases hjl : j = T.length
      · subst hjl
        rw [if_pos h2.symm] at hj
        rw [List.getElem?_append_right (Nat.le_refl _), Nat.sub_self] at hx
        simp only [List.getElem?_cons_zero, Option.some.injEq] at hx hj
        subst hx hj
        exact .inr ⟨rfl, rfl, rfl, by rw [e1]; rfl⟩
      · rw [if_neg (by rw [h2]; exact hjl)] at hj
        have hlt : j < T.length := by
          have := (Array.getElem?_eq_some_iff.1 hj).1
          omega
        rw [List.getElem?_append_left hlt] at hx
        exact .inl ⟨hjl, hj, hx⟩
end Go.Proofs.YtmimmnjdgpdjlaaGreatDoor
namespace Go.Proofs.YtmimmnjdgpdjlaaGreatDoor
open Go.RowKit Go.Lib Go.Shelf Go.MapKept

def AddPost (lo m : Nat) (G : Nat → Option Gh) (T : List (List UInt8 × List Rd)) (wd : List UInt8) (r : Rd) (w : World) (e : Ending) (w' : World) : Prop :=
  e = .returned (.tuple #[]) ∧ ∃ G', Table w' lo m G' (addT T wd r) ∧ (∀ b, b < w.heap.size → G' b = G b) ∧ Keep (fun k => k = m ∨ ∃ i, G k = some (.row i)) w w'
theorem Keep.cellAt {S : Nat → Prop} {w w' : World} {a : Addr} {v : Value} (h : Keep S w w') (hc : w.cell? a = some v) (hs : ¬ S a.block) : w'.cell? a = some v :=
  (World.cell?_of_block (h.2.2.2.2 a.block (World.block_lt_of_cell? w a hc) hs)).trans hc
theorem grown_after {w w' : World} {o : Obj} {row : Option Nat} (h : (w.alloc o).drew.grownBy w' row) : w.grownBy w' row :=
  ⟨h.os, h.tape, h.output, Nat.le_trans (below_new w o).size h.size, fun k hk hne => (h.block k (Nat.lt_of_lt_of_le hk (below_new w o).size) hne).trans (heap_alloc_old w o hk)⟩
set_option maxRecDepth 100000 in
set_option maxHeartbeats 8000000 in
theorem add66_any (lo mb m : Nat) (G : Nat → Option Gh) (T : List (List UInt8 × List Rd)) (wd : List UInt8) (r : Rd) (f : Value) (w : World) (hT : Table w lo m G T) (hlo : lo ≤ w.heap.size) (hf : RdOK G r f)
    (hmb : w.heap[mb]? = some (.cells #[.map (some m)] 66 (0, 0))) (hmbG : G mb = none) (hmbm : mb ≠ m) (hlen : (lookIn T wd).length ≤ 100) :
    Calls Tryz.prog 66 #[.string (bt wd), f, .pointer (some ⟨mb, 0, none⟩)] w (AddPost lo m G T wd r w) := by
  have hmlt : m < w.heap.size := by obtain ⟨es, c, h, _⟩ := hT.mp; exact blk_lt h
  obtain ⟨v, fs, hlkA, hownA, hfs, hv⟩ := hT.look' wd
  obtain ⟨i0, hi0, hz0, hz1, hz2⟩ := info105'
  have hTw := Lib.hid hT
  have hcell := Lib.hid (box1 hmb)
  obtain ⟨nf, caps, rfl⟩ : ∃ n caps, f = .func (.func n) #[] caps := by
    unfold RdOK at hf
    split at hf
    · exact ⟨_, _, hf⟩
    · obtain ⟨b, hf, _⟩ := hf; exact ⟨_, _, hf⟩
  obtain ⟨sb, hsb⟩ : ∃ sb, bt wd = sb := ⟨_, rfl⟩
  have hput := Lib.hid (fun (w' : World) (g cap : Nat) ho hgr hat hg => hT.put (w' := w') wd r _ hf g cap fs v ho hfs hgr hv hat hg hmlt hlo)
  obtain ⟨n, hn⟩ : ∃ n, (lookIn T wd).length = n := ⟨_, rfl⟩
  rw [hn] at hownA hlen hput
  rw [hsb] at hlkA hput ⊢
  have hfin := Lib.hid (fun W G' (h : Table W lo m G' (addT T wd r) ∧ (∀ b, b < w.heap.size → G' b = G b) ∧ Keep (fun k => k = m ∨ ∃ i, G k = some (.row i)) w W) => (show AddPost lo m G T wd r w (.returned (.tuple #[])) W from ⟨rfl, G', h⟩))
  obtain ⟨R, hR⟩ : ∃ R, AddPost lo m G T wd r w = R := ⟨_, rfl⟩
  rw [hR] at hfin ⊢
  clear hR hn hT hmb hfs
  have hmbv := Lib.hid (show some (⟨mb, 0, none⟩ : Addr).block ≠ v.ownBlock from fun e => by obtain ⟨i, _, hi⟩ := hv mb e.symm; rw [hmbG] at hi; cases hi)
  have hmbS := Lib.hid (show ¬ ((⟨mb, 0, none⟩ : Addr).block = m ∨ ∃ i, G (⟨mb, 0, none⟩ : Addr).block = some (.row i)) from fun e => by
    rcases e with e | ⟨i, e⟩
    · exact hmbm e
    · rw [show G (⟨mb, 0, none⟩ : Addr).block = none from hmbG] at e; cases e)
  have hlk := hlkA _ (Below.refl _ w).drew
  have hlk2 := hlkA _ (((Below.refl _ w).alloc (Nat.le_refl _) (.cells #[.func (.func nf) #[] caps] 105)).drew)
  have hown := hownA _ (((Below.refl _ w).alloc (Nat.le_refl _) (.cells #[.func (.func nf) #[] caps] 105)).drew)
  have hlkA' := Lib.hid hlkA
  clear hlkA hownA
  have hcd2 : (w.alloc (.cells #[.func (.func nf) #[] caps] 105)).drew.cell? ⟨mb, 0, none⟩ = some (.map (some m)) := (((below_new w (.cells #[.func (.func nf) #[] caps] 105))).cell (p := ⟨mb, 0, none⟩) (cell_some_lt hcell.out)).trans hcell.out
  have hcd : w.drew.cell? ⟨mb, 0, none⟩ = some (.map (some m)) := hcell.out
  go_enter Tryz.func66, Tryz.ntmps66
  go_wp2_with fail
  go_region_held_law (fun W => W.cell? ⟨mb, 0, none⟩ = some (.map (some m))) (first | exact hcd | exact hcd2 | exact hcw | exact hcW) ((refine step_append_lies _ rfl (.tmp 9) (.tmp 11) 103 rfl lo 105 i0 .nilFunc 1 8 und103 hi0 hz0 hz1 hz2 rfl (by decide) v n fs rfl hown ⟨w.heap.size, 0, none⟩ 1 1 [.func (.func nf) #[] caps] rfl rfl (cell_one_new w _ _) (fun u hu => by rw [List.mem_singleton.1 hu]; rfl) (by omega) (by unfold maxLen; omega) (by omega) (Nat.le_trans hlo (below_new w _).size) _ rfl ?_; intro g cap w' h1 h2 h3 h4; obtain ⟨W, G', hrun, hgood⟩ := hput.out w' g cap h1 (grown_after h2) (h3.imp id fun h3 => by rw [h3]; exact (below_new w _).size) h4; have hcw := (grown_after h2).cell hcell.out (hmbv.out); have hcW := (Keep.cellAt hgood.2.2 hcell.out hmbS.out)))
  all_goals (
    go_wp2
    exact bodyPost_end (by simp [results, Tryz.f66, go_sem]) rfl (hfin.out _ _ hgood))
end Go.Proofs.YtmimmnjdgpdjlaaGreatDoor
