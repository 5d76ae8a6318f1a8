/- Bytes of names: letters, digits, parts of names; how many bytes are so. Number, Name; the reference's Own, Name. The reference's Name; the language's own numbers. -/
import Derived.Test.YtnahgfdoiflacaaGreatDoorA
set_option linter.unusedSimpArgs false
set_option linter.unusedVariables false
namespace Go.Proofs.YtnahgfdoiflacaaGreatDoor
open Go.RowKit Go.Lib Go.Shelf

def partB (b : UInt8) : Bool := lowB b || digB b || decide (b.toNat = 95)
def noteB (b : UInt8) : Bool := decide (b.toNat ≠ 10)
set_option maxRecDepth 100000 in
set_option maxHeartbeats 1000000 in
theorem letter_any (b : UInt8) (w : World) : Calls Tryz.prog 106 #[.int .u8 (b.toNat : Int)] w fun e w' => e = .returned (.bool (lowB b)) ∧ w = w' := by
  unfold lowB
  by_cases h1 : 97 ≤ b.toNat
  · have e1 : ((97 : Int) ≤ (b.toNat : Int)) := by omega
    have d1 : decide (97 ≤ b.toNat) = true := by simpa using h1
    have f1 : decide ((97 : Int) ≤ (b.toNat : Int)) = true := by simpa using e1
    by_cases h2 : b.toNat ≤ 122
    · have e2 : ((b.toNat : Int) ≤ 122) := by omega
      have d2 : decide (b.toNat ≤ 122) = true := by simpa using h2
      rw [d1, d2]
      clear d1 d2
      go_enter Tryz.func106, Tryz.ntmps106
      go_wp2
      go_ret
      exact ⟨rfl, rfl⟩
    · have e2 : ¬ ((b.toNat : Int) ≤ 122) := by omega
      have d2 : decide (b.toNat ≤ 122) = false := by simpa using h2
      rw [d1, d2]
      clear d1 d2
      go_enter Tryz.func106, Tryz.ntmps106
      go_wp2
      go_ret
      exact ⟨rfl, rfl⟩
  · have e1 : ¬ ((97 : Int) ≤ (b.toNat : Int)) := by omega
    have d1 : decide (97 ≤ b.toNat) = false := by simpa using h1
    rw [d1]
    clear d1
    go_enter Tryz.func106, Tryz.ntmps106
    go_wp2
    go_ret
    exact ⟨rfl, rfl⟩
set_option maxRecDepth 100000 in
set_option maxHeartbeats 1000000 in
theorem refLetter_any (b : UInt8) (w : World) : Calls Tryz.prog 120 #[.int .u8 (b.toNat : Int)] w fun e w' => e = .returned (.bool (lowB b)) ∧ w = w' := by
  unfold lowB
  by_cases h1 : 97 ≤ b.toNat
  · have e1 : ((97 : Int) ≤ (b.toNat : Int)) := by omega
    have d1 : decide (97 ≤ b.toNat) = true := by simpa using h1
    have f1 : decide ((97 : Int) ≤ (b.toNat : Int)) = true := by simpa using e1
    by_cases h2 : b.toNat ≤ 122
    · have e2 : ((b.toNat : Int) ≤ 122) := by omega
      have d2 : decide (b.toNat ≤ 122) = true := by simpa using h2
      rw [d1, d2]
      clear d1 d2
      go_enter Tryz.func120, Tryz.ntmps120
      go_wp2
      go_ret
      exact ⟨rfl, rfl⟩
    · have e2 : ¬ ((b.toNat : Int) ≤ 122) := by omega
      have d2 : decide (b.toNat ≤ 122) = false := by simpa using h2
      rw [d1, d2]
      clear d1 d2
      go_enter Tryz.func120, Tryz.ntmps120
      go_wp2
      go_ret
      exact ⟨rfl, rfl⟩
  · have e1 : ¬ ((97 : Int) ≤ (b.toNat : Int)) := by omega
    have d1 : decide (97 ≤ b.toNat) = false := by simpa using h1
    rw [d1]
    clear d1
    go_enter Tryz.func120, Tryz.ntmps120
    go_wp2
    go_ret
    exact ⟨rfl, rfl⟩
set_option maxRecDepth 100000 in
set_option maxHeartbeats 1000000 in
theorem dig_any (b : UInt8) (w : World) : Calls Tryz.prog 142 #[.int .u8 (b.toNat : Int)] w fun e w' => e = .returned (.bool (digB b)) ∧ w = w' := by
  unfold digB
  by_cases h1 : 48 ≤ b.toNat
  · have e1 : ((48 : Int) ≤ (b.toNat : Int)) := by omega
    have d1 : decide (48 ≤ b.toNat) = true := by simpa using h1
    have f1 : decide ((48 : Int) ≤ (b.toNat : Int)) = true := by simpa using e1
    by_cases h2 : b.toNat ≤ 57
    · have e2 : ((b.toNat : Int) ≤ 57) := by omega
      have d2 : decide (b.toNat ≤ 57) = true := by simpa using h2
      rw [d1, d2]
      clear d1 d2
      go_enter Tryz.func142, Tryz.ntmps142
      go_wp2
      go_ret
      exact ⟨rfl, rfl⟩
    · have e2 : ¬ ((b.toNat : Int) ≤ 57) := by omega
      have d2 : decide (b.toNat ≤ 57) = false := by simpa using h2
      rw [d1, d2]
      clear d1 d2
      go_enter Tryz.func142, Tryz.ntmps142
      go_wp2
      go_ret
      exact ⟨rfl, rfl⟩
  · have e1 : ¬ ((48 : Int) ≤ (b.toNat : Int)) := by omega
    have d1 : decide (48 ≤ b.toNat) = false := by simpa using h1
    rw [d1]
    clear d1
    go_enter Tryz.func142, Tryz.ntmps142
    go_wp2
    go_ret
    exact ⟨rfl, rfl⟩
set_option maxRecDepth 100000 in
set_option maxHeartbeats 1000000 in
theorem part_any (b : UInt8) (w : World) : Calls Tryz.prog 108 #[.int .u8 (b.toNat : Int)] w fun e w' => e = .returned (.bool (partB b)) ∧ w = w' := by
  have hl := Lib.hid (letter_any b)
  have hd := Lib.hid (dig_any b)
  have hp : partB b = (lowB b || digB b || decide (b.toNat = 95)) := rfl
  have e95 : decide (b.toNat = 95) = ((b.toNat : Int) == 95) := by
    by_cases h : b.toNat = 95
    · rw [decide_eq_true h]; simp [h]
    · rw [decide_eq_false h]; symm; simp; omega
  rw [hp, e95]
  clear hp e95
  generalize lowB b = u at hl ⊢
  generalize digB b = v at hd ⊢
  cases hz : ((b.toNat : Int) == 95) <;> cases u <;> cases v
  all_goals
    go_enter Tryz.func108, Tryz.ntmps108
    go_wp2_with (first | (go_at_call 106; refine (hl.out _).mono ?_; rintro e w1 ⟨rfl, rfl⟩) | (go_at_call 142; refine (hd.out _).mono ?_; rintro e w1 ⟨rfl, rfl⟩))
    go_ret
    exact ⟨rfl, rfl⟩
set_option maxRecDepth 100000 in
set_option maxHeartbeats 1000000 in
theorem digit_any (b : UInt8) (w : World) : Calls Tryz.prog 152 #[.int .u8 (b.toNat : Int)] w fun e w' => e = .returned (.bool (digB b)) ∧ w = w' := by
  unfold digB
  by_cases h1 : 48 ≤ b.toNat
  · have e1 : ((48 : Int) ≤ (b.toNat : Int)) := by omega
    have d1 : decide (48 ≤ b.toNat) = true := by simpa using h1
    have f1 : decide ((48 : Int) ≤ (b.toNat : Int)) = true := by simpa using e1
    by_cases h2 : b.toNat ≤ 57
    · have e2 : ((b.toNat : Int) ≤ 57) := by omega
      have d2 : decide (b.toNat ≤ 57) = true := by simpa using h2
      rw [d1, d2]
      clear d1 d2
      go_enter Tryz.func152, Tryz.ntmps152
      go_wp2
      go_ret
      exact ⟨rfl, rfl⟩
    · have e2 : ¬ ((b.toNat : Int) ≤ 57) := by omega
      have d2 : decide (b.toNat ≤ 57) = false := by simpa using h2
      rw [d1, d2]
      clear d1 d2
      go_enter Tryz.func152, Tryz.ntmps152
      go_wp2
      go_ret
      exact ⟨rfl, rfl⟩
  · have e1 : ¬ ((48 : Int) ≤ (b.toNat : Int)) := by omega
    have d1 : decide (48 ≤ b.toNat) = false := by simpa using h1
    rw [d1]
    clear d1
    go_enter Tryz.func152, Tryz.ntmps152
    go_wp2
    go_ret
    exact ⟨rfl, rfl⟩
set_option maxRecDepth 100000 in
set_option maxHeartbeats 1000000 in
theorem refPart_any (b : UInt8) (w : World) : Calls Tryz.prog 122 #[.int .u8 (b.toNat : Int)] w fun e w' => e = .returned (.bool (partB b)) ∧ w = w' := by
  have hl := Lib.hid (refLetter_any b)
  have hd := Lib.hid (digit_any b)
  have hp : partB b = (lowB b || digB b || decide (b.toNat = 95)) := rfl
  have e95 : decide (b.toNat = 95) = ((b.toNat : Int) == 95) := by
    by_cases h : b.toNat = 95
    · rw [decide_eq_true h]; simp [h]
    · rw [decide_eq_false h]; symm; simp; omega
  rw [hp, e95]
  clear hp e95
  generalize lowB b = u at hl ⊢
  generalize digB b = v at hd ⊢
  cases hz : ((b.toNat : Int) == 95) <;> cases u <;> cases v
  all_goals
    go_enter Tryz.func122, Tryz.ntmps122
    go_wp2_with (first | (go_at_call 120; refine (hl.out _).mono ?_; rintro e w1 ⟨rfl, rfl⟩) | (go_at_call 152; refine (hd.out _).mono ?_; rintro e w1 ⟨rfl, rfl⟩))
    go_ret
    exact ⟨rfl, rfl⟩
/-- a function that asks a byte, and keeps the world -/
structure CPred (g : Nat) (p : UInt8 → Bool) : Prop where
  call : ∀ (b : UInt8) (w : World), Calls Tryz.prog g #[.int .u8 (b.toNat : Int)] w fun e w' => e = .returned (.bool (p b)) ∧ w = w'
  ent : ∀ args w, (callFunc g args).run Tryz.prog w = .ok (.enter g args) w
theorem part_pred : CPred 108 partB := ⟨part_any, enters_of Tryz.func108 (by kernel_rfl) rfl⟩
/-- how many bytes from the start on are so -/
def spanN (p : UInt8 → Bool) (l : List UInt8) : Nat := (l.takeWhile p).length
theorem span_le (p : UInt8 → Bool) : ∀ l, spanN p l ≤ l.length
  | [] => Nat.le_refl _
  | b :: l => by
    unfold spanN
    rw [List.takeWhile_cons]
    split
    · have := span_le p l
      unfold spanN at this
      simp only [List.length_cons]; omega
    · exact Nat.zero_le _
theorem span_eq (p : UInt8 → Bool) : ∀ (l : List UInt8) (n : Nat), n ≤ l.length → (∀ j b, j < n → l[j]? = some b → p b = true) → (∀ b, l[n]? = some b → p b = false) → spanN p l = n
  | [], n, h, _, _ => by simp at h; subst h; rfl
  | b :: l, 0, _, _, h2 => by
    unfold spanN
    rw [List.takeWhile_cons, h2 b rfl]
    rfl
  | b :: l, n + 1, h, h1, h2 => by
    have ih := span_eq p l n (by simpa using h) (fun j c hj hc => h1 (j + 1) c (by omega) (by simpa using hc)) (fun c hc => h2 c (by simpa using hc))
    unfold spanN at ih ⊢
    rw [List.takeWhile_cons, h1 0 b (by omega) rfl, if_pos rfl, List.length_cons, ih]
theorem drop_get (s : ByteArray) (a j : Nat) : (s.data.toList.drop a)[j]? = s.data.toList[a + j]? := by rw [List.getElem?_drop]

set_option maxRecDepth 100000 in
set_option maxHeartbeats 2000000 in
theorem while_any (g : Nat) (p : UInt8 → Bool) (hp : CPred g p) (s : ByteArray) (a : Nat) (w : World) (hs : s.size ≤ 2000000) (ha : a ≤ s.size) :
    Calls Tryz.prog 107 #[.string s, .int .i64 a, .func (.func g) #[] #[]] w fun e w' => e = .returned (.int .i64 (spanN p (s.data.toList.drop a) : Nat)) ∧ w = w' := by
  have hent := hp.ent
  have hcall := Lib.hid hp.call
  have hlen := Lib.hid (show (s.data.toList.drop a).length = s.size - a by rw [List.length_drop, size_list])
  go_enter Tryz.func107, Tryz.ntmps107
  go_wp2_with fail
  go_loopg [7] (s.size - a) (fun g s7 wr => ∃ k : Nat, k + g = s.size - a ∧ s7 = .int .i64 k ∧ (∀ j b, j < k → (s.data.toList.drop a)[j]? = some b → p b = true) ∧ w = wr)
  case atStart => exact ⟨0, by omega, rfl, fun j b h => absurd h (by omega), rfl⟩
  case round =>
    obtain ⟨k, hkg, rfl, hall, rfl⟩ := hrel
    have hall := Lib.hid hall
    have hw1 : IntKind.i64.wrap ((a : Int) + (k : Int)) = ((a + k : Nat) : Int) := by rw [IntKind.wrap_i64]; omega
    cases gk with
    | zero =>
      have e0 : ¬ (((a + k : Nat) : Int) < (s.size : Int)) := by omega
      have hfin := Lib.hid (span_eq p _ k (by rw [hlen.out]; omega) hall.out (fun b hb => by rw [List.getElem?_eq_none (by rw [hlen.out]; omega)] at hb; cases hb))
      go_wp2
      go_ret
      exact ⟨by rw [hfin.out]; rfl, rfl⟩
    | succ g2 =>
      have hk : a + k < s.size := by omega
      have e0 : (((a + k : Nat) : Int) < (s.size : Int)) := by omega
      have hget : (s.data.toList.drop a)[k]? = some (s[a + k]'hk) := by rw [drop_get]; exact get_list s (a + k) hk
      have hc := hcall.out (s[a + k]'hk) w
      obtain ⟨t, ht⟩ : ∃ t, p (s[a + k]'hk) = t := ⟨_, rfl⟩
      rw [ht] at hc
      have hc := Lib.hid hc
      have hget := Lib.hid hget
      have ht := Lib.hid ht
      go_wp2_with fail
      refine hc.out.mono ?_
      rintro e w1 ⟨rfl, rfl⟩
      cases t
      · have hfin := Lib.hid (span_eq p _ k (by rw [hlen.out]; omega) hall.out (fun b hb => by rw [hget.out] at hb; cases hb; exact ht.out))
        go_wp2
        go_ret
        exact ⟨by rw [hfin.out]; rfl, rfl⟩
      · go_wp2
        go_roundg g2
        case measure => omega
        case rel =>
          refine ⟨k + 1, by omega, by go_num, fun j b hj hb => ?_, rfl⟩
          rcases Nat.lt_or_ge j k with h | h
          · exact hall.out j b h hb
          · obtain rfl : j = k := by omega
            rw [hget.out] at hb
            cases hb
            exact ht.out
def ownW : List ByteArray := [⟨#[97, 114, 114, 97, 121]⟩, ⟨#[101, 108, 115, 101]⟩, ⟨#[102, 110]⟩, ⟨#[102, 111, 114]⟩, ⟨#[105, 102]⟩, ⟨#[112, 105, 99, 107]⟩, ⟨#[114, 101, 103, 105, 111, 110]⟩, ⟨#[115, 101, 99, 114, 101, 116]⟩, ⟨#[115, 116, 97, 99, 107]⟩, ⟨#[118, 97, 114]⟩, ⟨#[119, 104, 105, 108, 101]⟩]
def ownB (s : ByteArray) : Bool := Lib.containsS ownW s
def ownCells : Array Value := (ownW.map Value.string).toArray
set_option maxRecDepth 100000 in
set_option maxHeartbeats 2000000 in
theorem own_any (s : ByteArray) (w : World) : Calls Tryz.prog 109 #[.string s] w (BoolPost (ownB s) w) := by
  have hb0 := Lib.hid ((Below.refl w.heap.size w).alloc (Nat.le_refl _) (.cells ownCells 9))
  have hc : ∀ j, j < ownW.length → (w.alloc (.cells ownCells 9)).cell? ⟨w.heap.size, 0 + j, none⟩ = some (.string (ownW.getD j ByteArray.empty)) := fun j hj => by
    rw [blk_cell (heap_alloc_new w _), Nat.zero_add]
    have hj : j < 11 := hj
    match j, hj with
    | 0, _ | 1, _ | 2, _ | 3, _ | 4, _ | 5, _ | 6, _ | 7, _ | 8, _ | 9, _ | 10, _ => rfl
  have hk := Lib.hid (Tryz.slices_Contains_string w.heap.size 0 11 11 ownW s (w.alloc (.cells ownCells 9)) (by decide) (by omega) hc)
  rw [show ownW.take 11 = ownW from rfl] at hk
  have h38 : Calls Tryz.prog 144 #[] w fun e w' => e = .returned (.slice (some ⟨w.heap.size, 0, none⟩) 11 11) ∧ w' = w.alloc (.cells ownCells 9) := by
    clear hk hc hb0
    go_enter Tryz.func144, Tryz.ntmps144
    go_wp2
    go_ret
    exact ⟨rfl, rfl⟩
  have h38 := Lib.hid h38
  have hB : ownB s = Lib.containsS ownW s := rfl
  rw [← hB] at hk
  generalize ownB s = t at hk ⊢
  clear hc hB
  go_enter Tryz.func109, Tryz.ntmps109
  go_wp2_with fail
  refine h38.out.mono ?_
  rintro e w1 ⟨rfl, rfl⟩
  go_wp2_with fail
  refine hk.out.mono ?_
  rintro e w2 ⟨rfl, rfl⟩
  go_wp2
  go_ret
  exact ⟨rfl, hb0.out⟩
end Go.Proofs.YtnahgfdoiflacaaGreatDoor
namespace Go.Proofs.YtnahgfdoiflacaaGreatDoor
open Go.RowKit Go.Lib Go.Shelf

def nameB (s : ByteArray) : Bool := decide (0 < s.size) && decide (s.size ≤ 16) && lowB (s.data.toList.headD 0) && s.data.toList.all partB && !ownB s
theorem span_all (p : UInt8 → Bool) : ∀ l : List UInt8, (spanN p l = l.length) ↔ l.all p = true
  | [] => by simp [spanN]
  | b :: l => by
    have ih := span_all p l
    unfold spanN at ih ⊢
    rw [List.takeWhile_cons]
    cases hb : p b
    · simp [hb]
    · simp [hb, ih]
theorem head_get {s : ByteArray} (h : 0 < s.size) : s.data.toList.headD 0 = s[0]'h := by
  have := get_list s 0 h
  cases hl : s.data.toList with
  | nil => rw [hl] at this; cases this
  | cons b l => rw [hl] at this; cases this; rfl
theorem empty_iff (s : ByteArray) : s.toList.isEmpty = decide (s.size = 0) := by
  rw [ByteArray.toList_eq, ← size_list]
  cases s.data.toList <;> simp

set_option maxRecDepth 100000 in
set_option maxHeartbeats 2000000 in
theorem name_any (s : ByteArray) (w : World) (hs : s.size ≤ 2000000) : Calls Tryz.prog 62 #[.string s] w (BoolPost (nameB s) w) := by
  have hem := empty_iff s
  by_cases h0 : s.size = 0
  · have hn : nameB s = false := by unfold nameB; rw [decide_eq_false (show ¬ 0 < s.size by omega)]; rfl
    rw [hn]
    rw [decide_eq_true h0] at hem
    clear hn h0
    go_enter Tryz.func62, Tryz.ntmps62
    go_wp2
    go_ret
    exact ⟨rfl, Below.refl _ _⟩
  · rw [decide_eq_false h0] at hem
    by_cases h16 : s.size ≤ 16
    · have e16 : (s.size : Int) ≤ 16 := by omega
      have hpos : 0 < s.size := by omega
      have hl := letter_any (s[0]'hpos) w
      obtain ⟨t, ht⟩ : ∃ t, lowB (s[0]'hpos) = t := ⟨_, rfl⟩
      rw [ht] at hl
      have hl := Lib.hid hl
      have hsp := Lib.hid (while_any 108 partB part_pred s 0 w hs (by omega))
      rw [List.drop_zero] at hsp
      have hal := span_all partB s.data.toList
      rw [size_list] at hal
      obtain ⟨n, hn⟩ : ∃ n, spanN partB s.data.toList = n := ⟨_, rfl⟩
      rw [hn] at hsp hal
      have ho := own_any s w
      obtain ⟨o, hob⟩ : ∃ o, ownB s = o := ⟨_, rfl⟩
      rw [hob] at ho
      have ho := Lib.hid ho
      have hN : nameB s = (t && s.data.toList.all partB && !o) := by
        unfold nameB
        rw [head_get hpos, ht, hob, decide_eq_true hpos, decide_eq_true h16]
        rfl
      by_cases hna : n = s.size
      · have hall := hal.1 hna
        have en : ((n : Int) == (s.size : Int)) = true := by simp [hna]
        rw [hall] at hN
        cases t
        · rw [hN]
          clear hN hal hall hna hob ho hn
          go_enter Tryz.func62, Tryz.ntmps62
          go_wp2_with (go_at_call 106; refine hl.out.mono ?_; rintro e w1 ⟨rfl, rfl⟩)
          go_ret
          exact ⟨rfl, Below.refl _ _⟩
        · rw [hN]
          clear hN hal hall hna hob hn
          cases o
          all_goals
            go_enter Tryz.func62, Tryz.ntmps62
            go_wp2_with (first | (go_at_call 106; refine hl.out.mono ?_; rintro e w1 ⟨rfl, rfl⟩) | (go_at_call 107; refine hsp.out.mono ?_; rintro e w1 ⟨rfl, rfl⟩) | (go_at_call 109; refine ho.out.mono ?_; rintro e w2 ⟨rfl, hb2⟩; have hb2 := Lib.hid hb2))
            go_ret
            exact ⟨rfl, hb2.out⟩
      · have hall : s.data.toList.all partB = false := by
          rw [← Bool.not_eq_true]
          exact fun h => hna (hal.2 h)
        have en : ((n : Int) == (s.size : Int)) = false := by simp; omega
        rw [hall, Bool.and_false, Bool.false_and] at hN
        rw [hN]
        clear hN hal hall hna hob ho hn
        cases t
        all_goals
          go_enter Tryz.func62, Tryz.ntmps62
          go_wp2_with (first | (go_at_call 106; refine hl.out.mono ?_; rintro e w1 ⟨rfl, rfl⟩) | (go_at_call 107; refine hsp.out.mono ?_; rintro e w1 ⟨rfl, rfl⟩))
          go_ret
          exact ⟨rfl, Below.refl _ _⟩
    · have e16 : ¬ (s.size : Int) ≤ 16 := by omega
      have hn : nameB s = false := by unfold nameB; rw [decide_eq_false h16, Bool.and_false]; rfl
      rw [hn]
      clear hn
      go_enter Tryz.func62, Tryz.ntmps62
      go_wp2
      go_ret
      exact ⟨rfl, Below.refl _ _⟩

/-- the reference's Own: its words one by one -/
theorem own_get (j : Nat) (hj : j < 11) : ∃ x, ownW[j]? = some x := ⟨_, List.getElem?_eq_getElem (show j < ownW.length from hj)⟩
set_option maxRecDepth 100000 in
set_option maxHeartbeats 2000000 in
theorem refOwn_any (s : ByteArray) (w : World) : Calls Tryz.prog 121 #[.string s] w (BoolPost (ownB s) w) := by
  have hb0 := Lib.hid ((Below.refl w.heap.size w).alloc (Nat.le_refl _) (.cells ownCells 9))
  have hc := Lib.hid (show ∀ j x, ownW[j]? = some x → (w.alloc (.cells ownCells 9)).cell? ⟨w.heap.size, j, none⟩ = some (.string x) from fun j x hx => by
    rw [blk_cell (heap_alloc_new w _)]
    show (ownW.map Value.string).toArray[j]? = _
    rw [List.getElem?_toArray, List.getElem?_map, hx]
    rfl)
  go_enter Tryz.func121, Tryz.ntmps121
  go_wp2_with fail
  have hcells : (#[Value.string ⟨#[97, 114, 114, 97, 121]⟩, Value.string ⟨#[101, 108, 115, 101]⟩, Value.string ⟨#[102, 110]⟩, Value.string ⟨#[102, 111, 114]⟩, Value.string ⟨#[105, 102]⟩, Value.string ⟨#[112, 105, 99, 107]⟩, Value.string ⟨#[114, 101, 103, 105, 111, 110]⟩, Value.string ⟨#[115, 101, 99, 114, 101, 116]⟩, Value.string ⟨#[115, 116, 97, 99, 107]⟩, Value.string ⟨#[118, 97, 114]⟩, Value.string ⟨#[119, 104, 105, 108, 101]⟩] : Array Value) = ownCells := rfl
  rw [hcells]
  clear hcells
  go_loopg [4] 11 (fun g s4 wr => ∃ k : Nat, k + g = 11 ∧ s4 = .int .i64 k ∧ (∀ j x, j < k → ownW[j]? = some x → x ≠ s) ∧ w.alloc (.cells ownCells 9) = wr)
  case atStart => exact ⟨0, by omega, rfl, fun j x h => absurd h (by omega), rfl⟩
  case round =>
    obtain ⟨k, hkg, rfl, hall, rfl⟩ := hrel
    have hall := Lib.hid hall
    cases gk with
    | zero =>
      have e0 : ¬ ((k : Int) < 11) := by omega
      have hfin := Lib.hid (show ownB s = false by
        rw [← Bool.not_eq_true]
        unfold ownB
        rw [Lib.containsS_iff]
        intro h
        obtain ⟨j, hj⟩ := List.getElem?_of_mem h
        have : j < ownW.length := (List.getElem?_eq_some_iff.1 hj).1
        have h11 : ownW.length = 11 := rfl
        exact hall.out j s (by omega) hj rfl)
      go_wp2
      go_ret
      exact ⟨by rw [hfin.out]; rfl, hb0.out⟩
    | succ g2 =>
      have e0 : (k : Int) < 11 := by omega
      obtain ⟨x, hx⟩ := own_get k (by omega)
      have cx := hc.out k x hx
      have hx := Lib.hid hx
      by_cases hxs : x = s
      · have heq : (x.toList == s.toList) = true := by simp [hxs]
        have hfin := Lib.hid (show ownB s = true by
          unfold ownB
          rw [Lib.containsS_iff, ← hxs]
          exact List.mem_of_getElem? hx.out)
        clear hxs
        go_wp2
        go_ret
        exact ⟨by rw [hfin.out]; rfl, hb0.out⟩
      · have heq : (x.toList == s.toList) = false := by
          rw [beq_eq_false_iff_ne]
          intro h
          rw [ByteArray.toList_eq, ByteArray.toList_eq] at h
          exact hxs (by cases x; cases s; simp at h; rw [h])
        have hxs := Lib.hid hxs
        go_wp2
        go_roundg g2
        case measure => omega
        case rel =>
          refine ⟨k + 1, by omega, by go_num, fun j y hj hy => ?_, rfl⟩
          rcases Nat.lt_or_ge j k with h | h
          · exact hall.out j y h hy
          · obtain rfl : j = k := by omega
            rw [hx.out] at hy
            cases hy
            exact hxs.out
end Go.Proofs.YtnahgfdoiflacaaGreatDoor
namespace Go.Proofs.YtnahgfdoiflacaaGreatDoor
open Go.RowKit Go.Lib Go.Shelf

theorem all_of {s : ByteArray} {p : UInt8 → Bool} (h : ∀ (k : Nat) (hk : k < s.size), p (s[k]'hk) = true) : s.data.toList.all p = true := by
  rw [List.all_eq_true]
  intro b hb
  obtain ⟨k, hk⟩ := List.getElem?_of_mem hb
  have hlt : k < s.size := by rw [← size_list]; exact (List.getElem?_eq_some_iff.1 hk).1
  rw [get_list s k hlt] at hk
  cases hk
  exact h k hlt
theorem all_no {s : ByteArray} {p : UInt8 → Bool} {k : Nat} (hk : k < s.size) (h : p (s[k]'hk) = false) : s.data.toList.all p = false := by
  rw [List.all_eq_false]
  exact ⟨s[k]'hk, List.mem_of_getElem? (get_list s k hk), by simp [h]⟩

set_option maxRecDepth 100000 in
set_option maxHeartbeats 2000000 in
theorem refName_any (s : ByteArray) (w : World) (hs : s.size ≤ 2000000) : Calls Tryz.prog 71 #[.string s] w (BoolPost (nameB s) w) := by
  by_cases h0 : s.size < 1
  · have hn : nameB s = false := by unfold nameB; rw [decide_eq_false (show ¬ 0 < s.size by omega)]; rfl
    have e0 : ((s.size : Int) < 1) := by omega
    rw [hn]
    clear hn h0
    go_enter Tryz.func71, Tryz.ntmps71
    go_wp2
    go_ret
    exact ⟨rfl, Below.refl _ _⟩
  · have e0 : ¬ ((s.size : Int) < 1) := by omega
    by_cases h16 : 16 < s.size
    · have e16 : (16 : Int) < (s.size : Int) := by omega
      have hn : nameB s = false := by unfold nameB; rw [decide_eq_false (show ¬ s.size ≤ 16 by omega), Bool.and_false]; rfl
      rw [hn]
      clear hn
      go_enter Tryz.func71, Tryz.ntmps71
      go_wp2
      go_ret
      exact ⟨rfl, Below.refl _ _⟩
    · have e16 : ¬ (16 : Int) < (s.size : Int) := by omega
      have hpos : 0 < s.size := by omega
      have hl := refLetter_any (s[0]'hpos) w
      obtain ⟨t, ht⟩ : ∃ t, lowB (s[0]'hpos) = t := ⟨_, rfl⟩
      rw [ht] at hl
      have hl := Lib.hid hl
      have ho := refOwn_any s w
      obtain ⟨o, hob⟩ : ∃ o, ownB s = o := ⟨_, rfl⟩
      rw [hob] at ho
      have ho := Lib.hid ho
      have hN : nameB s = (t && s.data.toList.all partB && !o) := by
        unfold nameB
        rw [head_get hpos, ht, hob, decide_eq_true hpos, decide_eq_true (show s.size ≤ 16 by omega)]
        rfl
      have hNh := Lib.hid hN
      have hpt := Lib.hid fun (k : Nat) (hk : k < s.size) W => refPart_any (s[k]'hk) W
      clear ht hob hN
      cases t
      · have hfin := Lib.hid (show nameB s = false by rw [hNh.out]; rfl)
        go_enter Tryz.func71, Tryz.ntmps71
        go_wp2_with (go_at_call 120; refine hl.out.mono ?_; rintro e w1 ⟨rfl, rfl⟩)
        go_ret
        exact ⟨by rw [hfin.out]; rfl, Below.refl _ _⟩
      · cases o
        · have hN2 := Lib.hid (show nameB s = s.data.toList.all partB by rw [hNh.out, Bool.true_and, Bool.not_false, Bool.and_true])
          go_enter Tryz.func71, Tryz.ntmps71
          go_wp2_with (first | (go_at_call 120; refine hl.out.mono ?_; rintro e w1 ⟨rfl, rfl⟩) | (go_at_call 121; refine ho.out.mono ?_; rintro e w2 ⟨rfl, hb2⟩; have hb2 := Lib.hid hb2))
          go_loopg [3] s.size (fun g s3 wr => ∃ k : Nat, k + g = s.size ∧ s3 = .int .i64 k ∧ (∀ (j : Nat) (hj : j < s.size), j < k → partB (s[j]'hj) = true) ∧ Below w.heap.size w wr)
          case atStart => exact ⟨0, by omega, rfl, fun j hj h => absurd h (by omega), hb2.out⟩
          case round =>
            obtain ⟨k, hkg, rfl, hall, hb⟩ := hrel
            have hall := Lib.hid hall
            have hb := Lib.hid hb
            cases gk with
            | zero =>
              have e1 : ¬ ((k : Int) < (s.size : Int)) := by omega
              have hfin := Lib.hid (show nameB s = true by rw [hN2.out]; exact all_of fun j hj => hall.out j hj (by omega))
              go_wp2
              go_ret
              exact ⟨by rw [hfin.out]; rfl, hb.out⟩
            | succ g2 =>
              have hk : k < s.size := by omega
              have e1 : ((k : Int) < (s.size : Int)) := by omega
              have hc := hpt.out k hk wr
              obtain ⟨u, hu⟩ : ∃ u, partB (s[k]'hk) = u := ⟨_, rfl⟩
              rw [hu] at hc
              have hc := Lib.hid hc
              have hu := Lib.hid hu
              go_wp2_with fail
              refine hc.out.mono ?_
              rintro e w3 ⟨rfl, rfl⟩
              cases u
              · have hfin := Lib.hid (show nameB s = false by rw [hN2.out]; exact all_no hk hu.out)
                go_wp2
                go_ret
                exact ⟨by rw [hfin.out]; rfl, hb.out⟩
              · go_wp2
                go_roundg g2
                case measure => omega
                case rel =>
                  refine ⟨k + 1, by omega, by go_num, fun j hj hjk => ?_, hb.out⟩
                  rcases Nat.lt_or_ge j k with h | h
                  · exact hall.out j hj h
                  · obtain rfl : j = k := by omega
                    exact hu.out
        · have hfin := Lib.hid (show nameB s = false by rw [hNh.out]; simp)
          go_enter Tryz.func71, Tryz.ntmps71
          go_wp2_with (first | (go_at_call 120; refine hl.out.mono ?_; rintro e w1 ⟨rfl, rfl⟩) | (go_at_call 121; refine ho.out.mono ?_; rintro e w2 ⟨rfl, hb2⟩; have hb2 := Lib.hid hb2))
          go_ret
          exact ⟨by rw [hfin.out]; rfl, hb2.out⟩
end Go.Proofs.YtnahgfdoiflacaaGreatDoor
