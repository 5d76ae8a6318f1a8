/- Numbers and their texts (plain; turned by program from the chapter of tokens). Instructions, and their lines (plain). What lines say (plain). A line is one instruction's; the reference's guesses (plain). Code's texts, told and read again; code that may be (plain). The table of meanings, as it is built (plain). -/
import Derived.WalkKit
import Derived.Lib.ItoaMem
import Derived.Lib.ParseIntB
import Derived.Lib.ParseIntBCases
import Derived.Lib.Split
set_option linter.unusedSimpArgs false
set_option linter.unusedVariables false
namespace Go.Proofs.YtmimmnjdgpdjlaaGreatDoor
open Go.RowKit Go.Lib

def numT (u : Nat) : ByteArray := ⟨(Lib.decDigits u).toArray⟩
def numI (s : ByteArray) : Option Nat := match Lib.parseUintB 64 s.data.toList with | .ok u => if (numT u).toList == s.toList then some u else none | _ => none
theorem numT_len (u : Nat) (hu : u < 18446744073709551616) : (numT u).data.toList.length ≤ 20 := by
  show (Lib.decDigits u).toArray.toList.length ≤ 20
  rw [List.toList_toArray, Lib.decDigits_length]
  by_cases h1 : 1 ≤ u
  · have := Lib.numDigits_eq u h1 hu
    split at this <;> omega
  · obtain rfl : u = 0 := by omega
    rw [Lib.nDigits_small (by omega)]; omega
def digB (c : UInt8) : Bool := decide (48 ≤ c.toNat) && decide (c.toNat ≤ 57)
def valF (acc : Nat) (l : List UInt8) : Nat := l.foldl (fun a c => a * 10 + (c.toNat - 48)) acc
theorem valF_cons (acc : Nat) (c : UInt8) (l : List UInt8) : valF acc (c :: l) = valF (acc * 10 + (c.toNat - 48)) l := by unfold valF; rw [List.foldl_cons]
theorem valF_snoc (acc : Nat) (l : List UInt8) (c : UInt8) : valF acc (l ++ [c]) = valF acc l * 10 + (c.toNat - 48) := by simp [valF]
theorem valF_ge (l : List UInt8) : ∀ (acc : Nat), acc ≤ valF acc l := by
  induction l with
  | nil => intro acc; exact Nat.le_refl _
  | cons c l ih =>
    intro acc
    rw [valF_cons]
    exact Nat.le_trans (by omega) (ih _)
theorem valF_app (acc : Nat) (l m : List UInt8) : valF acc (l ++ m) = valF (valF acc l) m := by simp [valF]
theorem dig_iff (c : UInt8) : digB c = true ↔ 48 ≤ c.toNat ∧ c.toNat ≤ 57 := by simp [digB]
theorem parse_step {M : Nat} (c : UInt8) (r : List UInt8) (acc : Nat) (u : Nat) (h : parseUintM M acc (c :: r) = .ok u) : digB c = true ∧ parseUintM M (acc * 10 + (c.toNat - 48)) r = .ok u := by
  unfold parseUintM at h
  generalize 1844674407370955162 = K at h
  by_cases hd : 48 ≤ c.toNat ∧ c.toNat ≤ 57
  · rw [if_pos hd] at h
    refine ⟨(dig_iff c).2 hd, ?_⟩
    by_cases h1 : K ≤ acc
    · rw [if_pos h1] at h; exact absurd h (fun e => nomatch e)
    · rw [if_neg h1] at h
      by_cases h2 : M < acc * 10 + (c.toNat - 48)
      · rw [if_pos h2] at h; exact absurd h (fun e => nomatch e)
      · rw [if_neg h2] at h; exact h
  · rw [if_neg hd] at h; exact absurd h (fun e => nomatch e)
theorem parse_ok {M : Nat} (l : List UInt8) : ∀ (acc u : Nat), parseUintM M acc l = .ok u → l.all digB = true ∧ valF acc l = u := by
  induction l with
  | nil => intro acc u h; exact ⟨rfl, by injection h⟩
  | cons c r ih =>
    intro acc u h
    obtain ⟨h1, h2⟩ := parse_step c r acc u h
    obtain ⟨h3, h4⟩ := ih _ u h2
    refine ⟨?_, h4⟩
    rw [List.all_cons, h3, h1]; rfl
theorem parse_conv (l : List UInt8) : ∀ (acc : Nat), l.all digB = true → valF acc l ≤ 18446744073709551615 → parseUintM (2 ^ 64 - 1) acc l = .ok (valF acc l) := by
  have e64 : 2 ^ 64 - 1 = 18446744073709551615 := by decide
  rw [e64]
  generalize hM : 18446744073709551615 = M
  induction l with
  | nil => intro acc _ _; rfl
  | cons c r ih =>
    intro acc h hv
    rw [List.all_cons, Bool.and_eq_true] at h
    have hd := (dig_iff c).1 h.1
    rw [valF_cons] at hv
    have hge := valF_ge r (acc * 10 + (c.toNat - 48))
    unfold parseUintM
    rw [if_pos hd, if_neg (by omega), if_neg (by omega), ih _ h.2 hv, valF_cons]
theorem dig_nat (n : Nat) (h : n < 10) : (UInt8.ofNat (48 + n)).toNat = 48 + n := by rw [UInt8.toNat_ofNat']; omega
theorem dec_val (u : Nat) : valF 0 (decDigits u) = u := by
  rw [decDigits]
  split
  · rename_i h
    show 0 * 10 + ((UInt8.ofNat (48 + u)).toNat - 48) = u
    rw [dig_nat u h]; omega
  · rw [valF_snoc, dec_val (u / 10), dig_nat _ (by omega)]; omega
termination_by u
decreasing_by omega
theorem dec_all (u : Nat) : (decDigits u).all digB = true := by
  rw [decDigits]
  split
  · rename_i h
    simp only [List.all_cons, List.all_nil, Bool.and_true]
    rw [dig_iff, dig_nat u h]; omega
  · rw [List.all_append, dec_all (u / 10)]
    simp only [List.all_cons, List.all_nil, Bool.and_true, Bool.true_and]
    rw [dig_iff, dig_nat _ (by omega)]; omega
termination_by u
decreasing_by omega
theorem dec_ne (u : Nat) : decDigits u ≠ [] := by
  rw [decDigits]
  split <;> simp
theorem dec_head (u : Nat) (hu : 1 ≤ u) : ∀ c, (decDigits u).head? = some c → 49 ≤ c.toNat := by
  rw [decDigits]
  split
  · rename_i h
    intro c hc
    simp only [List.head?_cons, Option.some.injEq] at hc
    rw [← hc, dig_nat u h]; omega
  · intro c hc
    have hne := dec_ne (u / 10)
    refine dec_head (u / 10) (by omega) c ?_
    cases hl : decDigits (u / 10) with
    | nil => exact absurd hl hne
    | cons d r => rw [hl] at hc; simpa using hc
termination_by u
decreasing_by omega
/-- the form of a number -/
def canonB (l : List UInt8) : Bool := decide (0 < l.length) && (decide (l.length ≤ 1) || l.headD 0 != 48) && l.all digB
theorem dec_canon (u : Nat) : canonB (decDigits u) = true := by
  unfold canonB
  rw [dec_all u, Bool.and_true]
  have h0 : 0 < (decDigits u).length := List.length_pos_iff.2 (dec_ne u)
  rw [decide_eq_true h0, Bool.true_and]
  by_cases hu : u < 10
  · rw [decDigits_one hu]; rfl
  · have h1 := dec_head u (by omega)
    cases hl : decDigits u with
    | nil => rw [hl] at h0; simp at h0
    | cons c r =>
      rw [hl] at h1
      have h2 := h1 c rfl
      have : c ≠ 48 := fun e => by subst e; revert h2; decide
      simp [this]
theorem dec_of_canon : ∀ (n : Nat) (l : List UInt8), l.length = n → canonB l = true → decDigits (valF 0 l) = l
  | 0, l, hn, h => by
    have : l = [] := List.length_eq_zero_iff.1 hn
    subst this; cases h
  | n + 1, l, hn, h => by
    have hne : l ≠ [] := fun e => by subst e; cases hn
    obtain ⟨m, c, rfl⟩ : ∃ m c, l = m ++ [c] := ⟨l.dropLast, l.getLast hne, (List.dropLast_concat_getLast hne).symm⟩
    unfold canonB at h
    simp only [Bool.and_eq_true] at h
    obtain ⟨⟨_, h2⟩, h3⟩ := h
    rw [List.all_append, Bool.and_eq_true] at h3
    obtain ⟨h3, h4⟩ := h3
    have hc : digB c = true := by simpa using h4
    have hc' := (dig_iff c).1 hc
    have e48 : UInt8.ofNat (48 + (c.toNat - 48)) = c := by
      have : 48 + (c.toNat - 48) = c.toNat := by omega
      rw [this]; exact UInt8.ofNat_toNat
    rw [valF_snoc]
    cases m with
    | nil =>
      show decDigits (0 * 10 + (c.toNat - 48)) = [c]
      have h9 : 0 * 10 + (c.toNat - 48) < 10 := by omega
      rw [decDigits_one h9]
      simp only [Nat.zero_mul, Nat.zero_add]
      rw [e48]
    | cons d m =>
      have hd48 : d ≠ 48 := by
        rw [Bool.or_eq_true] at h2
        rcases h2 with h5 | h5
        · simp at h5
        · simpa using h5
      have hd := (dig_iff d).1 (by rw [List.all_cons, Bool.and_eq_true] at h3; exact h3.1)
      have hd49 : 49 ≤ d.toNat := by
        rcases Nat.lt_or_ge d.toNat 49 with h6 | h6
        · exfalso; apply hd48
          have : d.toNat = 48 := by omega
          exact UInt8.toNat_inj.1 this
        · exact h6
      have hcan : canonB (d :: m) = true := by
        unfold canonB
        rw [h3]
        simp [hd48]
      have hv : 1 ≤ valF 0 (d :: m) := by
        rw [valF_cons]
        exact Nat.le_trans (by omega) (valF_ge m _)
      have ih := dec_of_canon n (d :: m) (by simpa using hn) hcan
      rw [decDigits, dif_neg (by omega)]
      have e1 : (valF 0 (d :: m) * 10 + (c.toNat - 48)) / 10 = valF 0 (d :: m) := by omega
      have e2 : (valF 0 (d :: m) * 10 + (c.toNat - 48)) % 10 = c.toNat - 48 := by omega
      rw [e1, e2, ih, e48]
theorem numT_toList (u : Nat) : (numT u).toList = decDigits u := by rw [ByteArray.toList_eq]; rfl
theorem numI_eq (s : ByteArray) : numI s = if canonB s.data.toList = true ∧ valF 0 s.data.toList ≤ 18446744073709551615 then some (valF 0 s.data.toList) else none := by
  unfold numI
  rw [ByteArray.toList_eq]
  by_cases hc : canonB s.data.toList = true ∧ valF 0 s.data.toList ≤ 18446744073709551615
  · rw [if_pos hc]
    have hc1 := hc.1
    unfold canonB at hc1
    simp only [Bool.and_eq_true] at hc1
    have hp : parseUintB 64 s.data.toList = .ok (valF 0 s.data.toList) := by
      unfold parseUintB
      rw [if_neg (fun e => by rw [e] at hc1; simp at hc1), parse_conv _ _ hc1.2 hc.2]
    rw [hp]
    simp only [numT_toList]
    rw [dec_of_canon _ _ rfl hc.1]
    simp
  · rw [if_neg hc]
    rcases hp : parseUintB 64 s.data.toList with u | _ | _
    · simp only [numT_toList]
      have hne : ¬ ((decDigits u == s.data.toList) = true) := by
        intro he
        have he : decDigits u = s.data.toList := by simpa using he
        apply hc
        rw [← he, dec_val]
        have := parseUintB_le hp
        exact ⟨dec_canon u, by omega⟩
      rw [if_neg hne]
    · rfl
    · rfl
theorem numI_lt {s : ByteArray} {u : Nat} (h : numI s = some u) : u < 18446744073709551616 := by
  rw [numI_eq] at h
  split at h
  · rename_i hc; cases h; omega
  · cases h
theorem numI_text {s : ByteArray} {u : Nat} (h : numI s = some u) : numT u = s := by
  rw [numI_eq] at h
  split at h
  · rename_i hc
    cases h
    unfold numT
    rw [dec_of_canon _ _ rfl hc.1]
  · cases h
theorem numI_numT (u : Nat) (hu : u < 18446744073709551616) : numI (numT u) = some u := by
  rw [numI_eq]
  have : (numT u).data.toList = decDigits u := rfl
  rw [this, dec_val, if_pos ⟨dec_canon u, by omega⟩]
theorem numI_long {s : ByteArray} (h : 20 < s.size) : numI s = none := by
  cases hn : numI s with
  | none => rfl
  | some u =>
    exfalso
    have h1 := numI_text hn
    have h2 := numT_len u (numI_lt hn)
    rw [h1] at h2
    have : s.data.toList.length = s.size := Array.length_toList
    omega
theorem numI_zero {s : ByteArray} (h : canonB s.data.toList = false) : numI s = none := by
  rw [numI_eq, if_neg (by rw [h]; simp)]
theorem numI_over {s : ByteArray} (h : 18446744073709551615 < valF 0 s.data.toList) : numI s = none := by
  rw [numI_eq, if_neg (by omega)]
theorem numI_some {s : ByteArray} (h : canonB s.data.toList = true) (h2 : valF 0 s.data.toList ≤ 18446744073709551615) : numI s = some (valF 0 s.data.toList) := by
  rw [numI_eq, if_pos ⟨h, h2⟩]
end Go.Proofs.YtmimmnjdgpdjlaaGreatDoor
namespace Go.Proofs.YtmimmnjdgpdjlaaGreatDoor
open Go.RowKit Go.Lib

/-- an instruction -/
structure In where
  op : Int
  bn : Int
  sh : Int
  cd : Int
  ds : Int
  sr : Int
  im : Nat
  ba : Int
  ix : Int
  hb : Bool
  hi : Bool
  dp : Int
  lb : Int
deriving DecidableEq
def regW : List (List UInt8) := [[114, 97, 120], [114, 99, 120], [114, 100, 120], [114, 98, 120], [114, 115, 112], [114, 98, 112], [114, 115, 105], [114, 100, 105], [114, 56], [114, 57], [114, 49, 48], [114, 49, 49], [114, 49, 50], [114, 49, 51], [114, 49, 52], [114, 49, 53]]
def lowW : List (List UInt8) := [[97, 108], [99, 108], [100, 108], [98, 108], [115, 112, 108], [98, 112, 108], [115, 105, 108], [100, 105, 108], [114, 56, 98], [114, 57, 98], [114, 49, 48, 98], [114, 49, 49, 98], [114, 49, 50, 98], [114, 49, 51, 98], [114, 49, 52, 98], [114, 49, 53, 98]]
def cndW : List (List UInt8) := [[111], [110, 111], [98], [97, 101], [101], [110, 101], [98, 101], [97], [115], [110, 115], [112], [110, 112], [108], [103, 101], [108, 101], [103]]
def binW : List (List UInt8) := [[97, 100, 100, 113], [97, 100, 99, 113], [115, 117, 98, 113], [115, 98, 98, 113], [97, 110, 100, 113], [111, 114, 113], [120, 111, 114, 113], [105, 109, 117, 108, 113]]
def shfW : List (List UInt8) := [[115, 104, 108, 113], [115, 104, 114, 113], [115, 97, 114, 113], [114, 111, 108, 113], [114, 111, 114, 113]]
/-- what an operation names: 1 destination, 2 source, 4 number, 8 address, 16 two words' operation, 32 shift, 64 condition, 128 label -/
def maskL : List Nat := [3, 5, 9, 10, 19, 21, 33, 37, 1, 1, 3, 3, 5, 65, 3, 67, 128, 192, 128, 0]
def maskO (op : Int) : Option Nat := if 1 ≤ op ∧ op ≤ 20 then maskL[(op - 1).toNat]? else none
def has (p k : Nat) : Bool := (p &&& k) != 0
def strip (i : In) (p : Nat) : In :=
  { op := i.op, bn := if has p 16 then i.bn else 0, sh := if has p 32 then i.sh else 0, cd := if has p 64 then i.cd else 0, ds := if has p 1 then i.ds else 0, sr := if has p 2 then i.sr else 0, im := if has p 4 then i.im else 0,
    ba := if has p 8 then i.ba else 0, ix := if has p 8 then i.ix else 0, hb := if has p 8 then i.hb else false, hi := if has p 8 then i.hi else false, dp := if has p 8 then i.dp else 0, lb := if has p 128 then i.lb else 0 }
def regB (r : Int) : Bool := decide (0 ≤ r) && decide (r ≤ 15)
def shortI (d : Int) : Bool := decide (-2147483648 ≤ d) && decide (d ≤ 2147483647)
/-- a word as a number with a sign -/
def sgn (x : Nat) : Int := if x < 9223372036854775808 then (x : Int) else (x : Int) - 18446744073709551616
def shortN (x : Nat) : Bool := decide (x < 2147483648) || (decide (18446744071562067968 ≤ x) && decide (x < 18446744073709551616))
def addrB (ba ix : Int) (hb hi : Bool) (dp : Int) : Bool := regB ba && (hb || ba == 0) && (regB ix && (hi || ix == 0) && !(hi && ix == 4)) && shortI dp
def mayP (i : In) (p : Nat) : Bool :=
  decide (i = strip i p) && (regB i.ds && regB i.sr && addrB i.ba i.ix i.hb i.hi i.dp) && ((!has p 16 || decide (1 ≤ i.bn) && decide (i.bn ≤ 8)) && (!has p 32 || decide (1 ≤ i.sh) && decide (i.sh ≤ 5))) &&
    (decide (0 ≤ i.cd) && decide (i.cd ≤ 15) && (decide (0 ≤ i.lb) && decide (i.lb ≤ 1048576))) && (if i.op = 6 ∨ i.op = 13 then shortN i.im else if i.op = 8 then decide (i.im < 64) else true)
def mayB (i : In) : Bool :=
  match maskO i.op with
  | none => false
  | some p => mayP i p
def atW (l : List (List UInt8)) (r : Int) : List UInt8 := l.getD r.toNat []
def regT (r : Int) : List UInt8 := 37 :: atW regW r
def lowT (r : Int) : List UInt8 := 37 :: atW lowW r
def immT (x : Nat) : List UInt8 := 36 :: Lib.itoa (sgn x)
def lblT (n : Int) : List UInt8 := 76 :: Lib.itoa n
def addrT (ba ix : Int) (hb hi : Bool) (dp : Int) : List UInt8 :=
  if !hb && !hi then Lib.itoa dp
  else (if dp = 0 then [] else Lib.itoa dp) ++ 40 :: ((if hb then regT ba else []) ++ ((if hi then 44 :: (regT ix ++ [44, 56]) else []) ++ [41]))
def plainW (op : Int) : List UInt8 :=
  if op = 1 ∨ op = 3 ∨ op = 4 then [109, 111, 118, 113] else if op = 2 then [109, 111, 118, 97, 98, 115, 113] else if op = 9 then [110, 111, 116, 113] else if op = 10 then [110, 101, 103, 113] else if op = 11 ∨ op = 13 then [99, 109, 112, 113]
  else if op = 12 then [116, 101, 115, 116, 113] else if op = 15 then [109, 111, 118, 122, 98, 113] else if op = 17 then [106, 109, 112] else if op = 20 then [114, 101, 116] else []
def wordT (i : In) : List UInt8 :=
  if i.op = 5 ∨ i.op = 6 then atW binW (i.bn - 1) else if i.op = 7 ∨ i.op = 8 then atW shfW (i.sh - 1) else if i.op = 14 then [115, 101, 116] ++ atW cndW i.cd
  else if i.op = 16 then [99, 109, 111, 118] ++ atW cndW i.cd else if i.op = 18 then [106] ++ atW cndW i.cd else plainW i.op
def opsT (i : In) : List (List UInt8) :=
  if i.op = 2 then [36 :: Lib.decDigits i.im, regT i.ds] else if i.op = 3 then [addrT i.ba i.ix i.hb i.hi i.dp, regT i.ds] else if i.op = 4 then [regT i.sr, addrT i.ba i.ix i.hb i.hi i.dp]
  else if i.op = 6 ∨ i.op = 8 ∨ i.op = 13 then [immT i.im, regT i.ds] else if i.op = 7 then [[37, 99, 108], regT i.ds] else if i.op = 9 ∨ i.op = 10 then [regT i.ds] else if i.op = 14 then [lowT i.ds]
  else if i.op = 15 then [lowT i.sr, regT i.ds] else if i.op = 17 ∨ i.op = 18 then [lblT i.lb] else if i.op = 20 then [] else [regT i.sr, regT i.ds]
def joinC : List (List UInt8) → List UInt8
  | [] => []
  | [x] => x
  | x :: y :: l => x ++ 44 :: 32 :: joinC (y :: l)
/-- the line of an instruction -/
def lineL (i : In) : List UInt8 := if i.op = 19 then lblT i.lb ++ [58] else if i.op = 20 then [114, 101, 116] else wordT i ++ 32 :: joinC (opsT i)
/-- the instruction whose line it is -/
def IsLine (s : List UInt8) (i : In) : Prop := mayB i = true ∧ i.im < 18446744073709551616 ∧ lineL i = s

/-- the instructions that may be, one by one -/
inductive Form : In → Prop
  | two (op : Int) (d s : Int) (ho : op = 1 ∨ op = 11 ∨ op = 12 ∨ op = 15) (hd : 0 ≤ d ∧ d ≤ 15) (hs : 0 ≤ s ∧ s ≤ 15) : Form ⟨op, 0, 0, 0, d, s, 0, 0, 0, false, false, 0, 0⟩
  | set (d : Int) (n : Nat) (hd : 0 ≤ d ∧ d ≤ 15) (hn : n < 18446744073709551616) : Form ⟨2, 0, 0, 0, d, 0, n, 0, 0, false, false, 0, 0⟩
  | load (d ba ix : Int) (hb hi : Bool) (dp : Int) (hd : 0 ≤ d ∧ d ≤ 15) (ha : addrB ba ix hb hi dp = true) : Form ⟨3, 0, 0, 0, d, 0, 0, ba, ix, hb, hi, dp, 0⟩
  | store (s ba ix : Int) (hb hi : Bool) (dp : Int) (hs : 0 ≤ s ∧ s ≤ 15) (ha : addrB ba ix hb hi dp = true) : Form ⟨4, 0, 0, 0, 0, s, 0, ba, ix, hb, hi, dp, 0⟩
  | bin (b d s : Int) (hb : 1 ≤ b ∧ b ≤ 8) (hd : 0 ≤ d ∧ d ≤ 15) (hs : 0 ≤ s ∧ s ≤ 15) : Form ⟨5, b, 0, 0, d, s, 0, 0, 0, false, false, 0, 0⟩
  | binI (b d : Int) (n : Nat) (hb : 1 ≤ b ∧ b ≤ 8) (hd : 0 ≤ d ∧ d ≤ 15) (hn : shortN n = true) : Form ⟨6, b, 0, 0, d, 0, n, 0, 0, false, false, 0, 0⟩
  | shf (h d : Int) (hh : 1 ≤ h ∧ h ≤ 5) (hd : 0 ≤ d ∧ d ≤ 15) : Form ⟨7, 0, h, 0, d, 0, 0, 0, 0, false, false, 0, 0⟩
  | shfI (h d : Int) (n : Nat) (hh : 1 ≤ h ∧ h ≤ 5) (hd : 0 ≤ d ∧ d ≤ 15) (hn : n < 64) : Form ⟨8, 0, h, 0, d, 0, n, 0, 0, false, false, 0, 0⟩
  | one (op d : Int) (ho : op = 9 ∨ op = 10) (hd : 0 ≤ d ∧ d ≤ 15) : Form ⟨op, 0, 0, 0, d, 0, 0, 0, 0, false, false, 0, 0⟩
  | cmpI (d : Int) (n : Nat) (hd : 0 ≤ d ∧ d ≤ 15) (hn : shortN n = true) : Form ⟨13, 0, 0, 0, d, 0, n, 0, 0, false, false, 0, 0⟩
  | setc (c d : Int) (hc : 0 ≤ c ∧ c ≤ 15) (hd : 0 ≤ d ∧ d ≤ 15) : Form ⟨14, 0, 0, c, d, 0, 0, 0, 0, false, false, 0, 0⟩
  | movc (c d s : Int) (hc : 0 ≤ c ∧ c ≤ 15) (hd : 0 ≤ d ∧ d ≤ 15) (hs : 0 ≤ s ∧ s ≤ 15) : Form ⟨16, 0, 0, c, d, s, 0, 0, 0, false, false, 0, 0⟩
  | jump (n : Int) (hn : 0 ≤ n ∧ n ≤ 1048576) : Form ⟨17, 0, 0, 0, 0, 0, 0, 0, 0, false, false, 0, n⟩
  | brc (c n : Int) (hc : 0 ≤ c ∧ c ≤ 15) (hn : 0 ≤ n ∧ n ≤ 1048576) : Form ⟨18, 0, 0, c, 0, 0, 0, 0, 0, false, false, 0, n⟩
  | lab (n : Int) (hn : 0 ≤ n ∧ n ≤ 1048576) : Form ⟨19, 0, 0, 0, 0, 0, 0, 0, 0, false, false, 0, n⟩
  | ret : Form ⟨20, 0, 0, 0, 0, 0, 0, 0, 0, false, false, 0, 0⟩
theorem shortN_lt {n : Nat} (h : shortN n = true) : n < 18446744073709551616 := by
  unfold shortN at h
  simp only [Bool.or_eq_true, Bool.and_eq_true, decide_eq_true_eq] at h
  omega
theorem op_cases {op : Int} (h : 1 ≤ op ∧ op ≤ 20) : op = 1 ∨ op = 2 ∨ op = 3 ∨ op = 4 ∨ op = 5 ∨ op = 6 ∨ op = 7 ∨ op = 8 ∨ op = 9 ∨ op = 10 ∨ op = 11 ∨ op = 12 ∨ op = 13 ∨ op = 14 ∨ op = 15 ∨ op = 16 ∨ op = 17 ∨ op = 18 ∨ op = 19 ∨ op = 20 := by omega
theorem may_parts {i : In} {p : Nat} (h : mayP i p = true) : i = strip i p ∧ (0 ≤ i.ds ∧ i.ds ≤ 15) ∧ (0 ≤ i.sr ∧ i.sr ≤ 15) ∧ addrB i.ba i.ix i.hb i.hi i.dp = true ∧ (has p 16 = true → 1 ≤ i.bn ∧ i.bn ≤ 8) ∧ (has p 32 = true → 1 ≤ i.sh ∧ i.sh ≤ 5) ∧
    (0 ≤ i.cd ∧ i.cd ≤ 15) ∧ (0 ≤ i.lb ∧ i.lb ≤ 1048576) ∧ (if i.op = 6 ∨ i.op = 13 then shortN i.im else if i.op = 8 then decide (i.im < 64) else true) = true := by
  unfold mayP regB at h
  simp only [Bool.and_eq_true, decide_eq_true_eq] at h
  obtain ⟨⟨⟨⟨he, ⟨h1, h2⟩, ha⟩, h3, h4⟩, h5, h6⟩, hn⟩ := h
  refine ⟨he, h1, h2, ha, fun g => ?_, fun g => ?_, h5, h6, hn⟩
  · rw [g] at h3
    simpa using h3
  · rw [g] at h4
    simpa using h4
theorem strip_eq {i j : In} (h : i = j) : i.bn = j.bn ∧ i.sh = j.sh ∧ i.cd = j.cd ∧ i.ds = j.ds ∧ i.sr = j.sr ∧ i.im = j.im ∧ i.ba = j.ba ∧ i.ix = j.ix ∧ i.hb = j.hb ∧ i.hi = j.hi ∧ i.dp = j.dp ∧ i.lb = j.lb := by subst h; simp
theorem form_of {i : In} (h : mayB i = true) (him : i.im < 18446744073709551616) : Form i := by
  obtain ⟨op, bn, sh, cd, ds, sr, im, ba, ix, hb, hi, dp, lb⟩ := i
  unfold mayB at h
  dsimp only at h him
  by_cases ho : 1 ≤ op ∧ op ≤ 20
  · rcases op_cases ho with rfl | rfl | rfl | rfl | rfl | rfl | rfl | rfl | rfl | rfl | rfl | rfl | rfl | rfl | rfl | rfl | rfl | rfl | rfl | rfl
    · obtain ⟨he, h1, h2, ha, h3, h4, ⟨h5, h6⟩, ⟨h7, h8⟩, hn⟩ := may_parts (p := 3) h
      obtain ⟨e1, e2, e3, e4, e5, e6, e7, e8, e9, e10, e11, e12⟩ := strip_eq he
      simp only [strip] at e1 e2 e3 e4 e5 e6 e7 e8 e9 e10 e11 e12
      dsimp only at h1 h2 h3 h4 h5 h6 h7 h8 ha hn
      obtain rfl : bn = 0 := e1
      obtain rfl : sh = 0 := e2
      obtain rfl : cd = 0 := e3
      obtain rfl : im = 0 := e6
      obtain rfl : ba = 0 := e7
      obtain rfl : ix = 0 := e8
      obtain rfl : hb = false := e9
      obtain rfl : hi = false := e10
      obtain rfl : dp = 0 := e11
      obtain rfl : lb = 0 := e12
      exact .two _ _ _ (by omega) (by omega) (by omega)
    · obtain ⟨he, h1, h2, ha, h3, h4, ⟨h5, h6⟩, ⟨h7, h8⟩, hn⟩ := may_parts (p := 5) h
      obtain ⟨e1, e2, e3, e4, e5, e6, e7, e8, e9, e10, e11, e12⟩ := strip_eq he
      simp only [strip] at e1 e2 e3 e4 e5 e6 e7 e8 e9 e10 e11 e12
      dsimp only at h1 h2 h3 h4 h5 h6 h7 h8 ha hn
      obtain rfl : bn = 0 := e1
      obtain rfl : sh = 0 := e2
      obtain rfl : cd = 0 := e3
      obtain rfl : sr = 0 := e5
      obtain rfl : ba = 0 := e7
      obtain rfl : ix = 0 := e8
      obtain rfl : hb = false := e9
      obtain rfl : hi = false := e10
      obtain rfl : dp = 0 := e11
      obtain rfl : lb = 0 := e12
      exact .set _ _ (by omega) him
    · obtain ⟨he, h1, h2, ha, h3, h4, ⟨h5, h6⟩, ⟨h7, h8⟩, hn⟩ := may_parts (p := 9) h
      obtain ⟨e1, e2, e3, e4, e5, e6, e7, e8, e9, e10, e11, e12⟩ := strip_eq he
      simp only [strip] at e1 e2 e3 e4 e5 e6 e7 e8 e9 e10 e11 e12
      dsimp only at h1 h2 h3 h4 h5 h6 h7 h8 ha hn
      obtain rfl : bn = 0 := e1
      obtain rfl : sh = 0 := e2
      obtain rfl : cd = 0 := e3
      obtain rfl : sr = 0 := e5
      obtain rfl : im = 0 := e6
      obtain rfl : lb = 0 := e12
      exact .load _ _ _ _ _ _ (by omega) ha
    · obtain ⟨he, h1, h2, ha, h3, h4, ⟨h5, h6⟩, ⟨h7, h8⟩, hn⟩ := may_parts (p := 10) h
      obtain ⟨e1, e2, e3, e4, e5, e6, e7, e8, e9, e10, e11, e12⟩ := strip_eq he
      simp only [strip] at e1 e2 e3 e4 e5 e6 e7 e8 e9 e10 e11 e12
      dsimp only at h1 h2 h3 h4 h5 h6 h7 h8 ha hn
      obtain rfl : bn = 0 := e1
      obtain rfl : sh = 0 := e2
      obtain rfl : cd = 0 := e3
      obtain rfl : ds = 0 := e4
      obtain rfl : im = 0 := e6
      obtain rfl : lb = 0 := e12
      exact .store _ _ _ _ _ _ (by omega) ha
    · obtain ⟨he, h1, h2, ha, h3, h4, ⟨h5, h6⟩, ⟨h7, h8⟩, hn⟩ := may_parts (p := 19) h
      obtain ⟨e1, e2, e3, e4, e5, e6, e7, e8, e9, e10, e11, e12⟩ := strip_eq he
      simp only [strip] at e1 e2 e3 e4 e5 e6 e7 e8 e9 e10 e11 e12
      dsimp only at h1 h2 h3 h4 h5 h6 h7 h8 ha hn
      obtain rfl : sh = 0 := e2
      obtain rfl : cd = 0 := e3
      obtain rfl : im = 0 := e6
      obtain rfl : ba = 0 := e7
      obtain rfl : ix = 0 := e8
      obtain rfl : hb = false := e9
      obtain rfl : hi = false := e10
      obtain rfl : dp = 0 := e11
      obtain rfl : lb = 0 := e12
      have h3 := h3 rfl
      exact .bin _ _ _ (by omega) (by omega) (by omega)
    · obtain ⟨he, h1, h2, ha, h3, h4, ⟨h5, h6⟩, ⟨h7, h8⟩, hn⟩ := may_parts (p := 21) h
      obtain ⟨e1, e2, e3, e4, e5, e6, e7, e8, e9, e10, e11, e12⟩ := strip_eq he
      simp only [strip] at e1 e2 e3 e4 e5 e6 e7 e8 e9 e10 e11 e12
      dsimp only at h1 h2 h3 h4 h5 h6 h7 h8 ha hn
      obtain rfl : sh = 0 := e2
      obtain rfl : cd = 0 := e3
      obtain rfl : sr = 0 := e5
      obtain rfl : ba = 0 := e7
      obtain rfl : ix = 0 := e8
      obtain rfl : hb = false := e9
      obtain rfl : hi = false := e10
      obtain rfl : dp = 0 := e11
      obtain rfl : lb = 0 := e12
      have h3 := h3 rfl
      exact .binI _ _ _ (by omega) (by omega) hn
    · obtain ⟨he, h1, h2, ha, h3, h4, ⟨h5, h6⟩, ⟨h7, h8⟩, hn⟩ := may_parts (p := 33) h
      obtain ⟨e1, e2, e3, e4, e5, e6, e7, e8, e9, e10, e11, e12⟩ := strip_eq he
      simp only [strip] at e1 e2 e3 e4 e5 e6 e7 e8 e9 e10 e11 e12
      dsimp only at h1 h2 h3 h4 h5 h6 h7 h8 ha hn
      obtain rfl : bn = 0 := e1
      obtain rfl : cd = 0 := e3
      obtain rfl : sr = 0 := e5
      obtain rfl : im = 0 := e6
      obtain rfl : ba = 0 := e7
      obtain rfl : ix = 0 := e8
      obtain rfl : hb = false := e9
      obtain rfl : hi = false := e10
      obtain rfl : dp = 0 := e11
      obtain rfl : lb = 0 := e12
      have h4 := h4 rfl
      exact .shf _ _ (by omega) (by omega)
    · obtain ⟨he, h1, h2, ha, h3, h4, ⟨h5, h6⟩, ⟨h7, h8⟩, hn⟩ := may_parts (p := 37) h
      obtain ⟨e1, e2, e3, e4, e5, e6, e7, e8, e9, e10, e11, e12⟩ := strip_eq he
      simp only [strip] at e1 e2 e3 e4 e5 e6 e7 e8 e9 e10 e11 e12
      dsimp only at h1 h2 h3 h4 h5 h6 h7 h8 ha hn
      obtain rfl : bn = 0 := e1
      obtain rfl : cd = 0 := e3
      obtain rfl : sr = 0 := e5
      obtain rfl : ba = 0 := e7
      obtain rfl : ix = 0 := e8
      obtain rfl : hb = false := e9
      obtain rfl : hi = false := e10
      obtain rfl : dp = 0 := e11
      obtain rfl : lb = 0 := e12
      have h4 := h4 rfl
      have hn := of_decide_eq_true hn
      exact .shfI _ _ _ (by omega) (by omega) (by omega)
    · obtain ⟨he, h1, h2, ha, h3, h4, ⟨h5, h6⟩, ⟨h7, h8⟩, hn⟩ := may_parts (p := 1) h
      obtain ⟨e1, e2, e3, e4, e5, e6, e7, e8, e9, e10, e11, e12⟩ := strip_eq he
      simp only [strip] at e1 e2 e3 e4 e5 e6 e7 e8 e9 e10 e11 e12
      dsimp only at h1 h2 h3 h4 h5 h6 h7 h8 ha hn
      obtain rfl : bn = 0 := e1
      obtain rfl : sh = 0 := e2
      obtain rfl : cd = 0 := e3
      obtain rfl : sr = 0 := e5
      obtain rfl : im = 0 := e6
      obtain rfl : ba = 0 := e7
      obtain rfl : ix = 0 := e8
      obtain rfl : hb = false := e9
      obtain rfl : hi = false := e10
      obtain rfl : dp = 0 := e11
      obtain rfl : lb = 0 := e12
      exact .one _ _ (by omega) (by omega)
    · obtain ⟨he, h1, h2, ha, h3, h4, ⟨h5, h6⟩, ⟨h7, h8⟩, hn⟩ := may_parts (p := 1) h
      obtain ⟨e1, e2, e3, e4, e5, e6, e7, e8, e9, e10, e11, e12⟩ := strip_eq he
      simp only [strip] at e1 e2 e3 e4 e5 e6 e7 e8 e9 e10 e11 e12
      dsimp only at h1 h2 h3 h4 h5 h6 h7 h8 ha hn
      obtain rfl : bn = 0 := e1
      obtain rfl : sh = 0 := e2
      obtain rfl : cd = 0 := e3
      obtain rfl : sr = 0 := e5
      obtain rfl : im = 0 := e6
      obtain rfl : ba = 0 := e7
      obtain rfl : ix = 0 := e8
      obtain rfl : hb = false := e9
      obtain rfl : hi = false := e10
      obtain rfl : dp = 0 := e11
      obtain rfl : lb = 0 := e12
      exact .one _ _ (by omega) (by omega)
    · obtain ⟨he, h1, h2, ha, h3, h4, ⟨h5, h6⟩, ⟨h7, h8⟩, hn⟩ := may_parts (p := 3) h
      obtain ⟨e1, e2, e3, e4, e5, e6, e7, e8, e9, e10, e11, e12⟩ := strip_eq he
      simp only [strip] at e1 e2 e3 e4 e5 e6 e7 e8 e9 e10 e11 e12
      dsimp only at h1 h2 h3 h4 h5 h6 h7 h8 ha hn
      obtain rfl : bn = 0 := e1
      obtain rfl : sh = 0 := e2
      obtain rfl : cd = 0 := e3
      obtain rfl : im = 0 := e6
      obtain rfl : ba = 0 := e7
      obtain rfl : ix = 0 := e8
      obtain rfl : hb = false := e9
      obtain rfl : hi = false := e10
      obtain rfl : dp = 0 := e11
      obtain rfl : lb = 0 := e12
      exact .two _ _ _ (by omega) (by omega) (by omega)
    · obtain ⟨he, h1, h2, ha, h3, h4, ⟨h5, h6⟩, ⟨h7, h8⟩, hn⟩ := may_parts (p := 3) h
      obtain ⟨e1, e2, e3, e4, e5, e6, e7, e8, e9, e10, e11, e12⟩ := strip_eq he
      simp only [strip] at e1 e2 e3 e4 e5 e6 e7 e8 e9 e10 e11 e12
      dsimp only at h1 h2 h3 h4 h5 h6 h7 h8 ha hn
      obtain rfl : bn = 0 := e1
      obtain rfl : sh = 0 := e2
      obtain rfl : cd = 0 := e3
      obtain rfl : im = 0 := e6
      obtain rfl : ba = 0 := e7
      obtain rfl : ix = 0 := e8
      obtain rfl : hb = false := e9
      obtain rfl : hi = false := e10
      obtain rfl : dp = 0 := e11
      obtain rfl : lb = 0 := e12
      exact .two _ _ _ (by omega) (by omega) (by omega)
    · obtain ⟨he, h1, h2, ha, h3, h4, ⟨h5, h6⟩, ⟨h7, h8⟩, hn⟩ := may_parts (p := 5) h
      obtain ⟨e1, e2, e3, e4, e5, e6, e7, e8, e9, e10, e11, e12⟩ := strip_eq he
      simp only [strip] at e1 e2 e3 e4 e5 e6 e7 e8 e9 e10 e11 e12
      dsimp only at h1 h2 h3 h4 h5 h6 h7 h8 ha hn
      obtain rfl : bn = 0 := e1
      obtain rfl : sh = 0 := e2
      obtain rfl : cd = 0 := e3
      obtain rfl : sr = 0 := e5
      obtain rfl : ba = 0 := e7
      obtain rfl : ix = 0 := e8
      obtain rfl : hb = false := e9
      obtain rfl : hi = false := e10
      obtain rfl : dp = 0 := e11
      obtain rfl : lb = 0 := e12
      exact .cmpI _ _ (by omega) hn
    · obtain ⟨he, h1, h2, ha, h3, h4, ⟨h5, h6⟩, ⟨h7, h8⟩, hn⟩ := may_parts (p := 65) h
      obtain ⟨e1, e2, e3, e4, e5, e6, e7, e8, e9, e10, e11, e12⟩ := strip_eq he
      simp only [strip] at e1 e2 e3 e4 e5 e6 e7 e8 e9 e10 e11 e12
      dsimp only at h1 h2 h3 h4 h5 h6 h7 h8 ha hn
      obtain rfl : bn = 0 := e1
      obtain rfl : sh = 0 := e2
      obtain rfl : sr = 0 := e5
      obtain rfl : im = 0 := e6
      obtain rfl : ba = 0 := e7
      obtain rfl : ix = 0 := e8
      obtain rfl : hb = false := e9
      obtain rfl : hi = false := e10
      obtain rfl : dp = 0 := e11
      obtain rfl : lb = 0 := e12
      exact .setc _ _ (by omega) (by omega)
    · obtain ⟨he, h1, h2, ha, h3, h4, ⟨h5, h6⟩, ⟨h7, h8⟩, hn⟩ := may_parts (p := 3) h
      obtain ⟨e1, e2, e3, e4, e5, e6, e7, e8, e9, e10, e11, e12⟩ := strip_eq he
      simp only [strip] at e1 e2 e3 e4 e5 e6 e7 e8 e9 e10 e11 e12
      dsimp only at h1 h2 h3 h4 h5 h6 h7 h8 ha hn
      obtain rfl : bn = 0 := e1
      obtain rfl : sh = 0 := e2
      obtain rfl : cd = 0 := e3
      obtain rfl : im = 0 := e6
      obtain rfl : ba = 0 := e7
      obtain rfl : ix = 0 := e8
      obtain rfl : hb = false := e9
      obtain rfl : hi = false := e10
      obtain rfl : dp = 0 := e11
      obtain rfl : lb = 0 := e12
      exact .two _ _ _ (by omega) (by omega) (by omega)
    · obtain ⟨he, h1, h2, ha, h3, h4, ⟨h5, h6⟩, ⟨h7, h8⟩, hn⟩ := may_parts (p := 67) h
      obtain ⟨e1, e2, e3, e4, e5, e6, e7, e8, e9, e10, e11, e12⟩ := strip_eq he
      simp only [strip] at e1 e2 e3 e4 e5 e6 e7 e8 e9 e10 e11 e12
      dsimp only at h1 h2 h3 h4 h5 h6 h7 h8 ha hn
      obtain rfl : bn = 0 := e1
      obtain rfl : sh = 0 := e2
      obtain rfl : im = 0 := e6
      obtain rfl : ba = 0 := e7
      obtain rfl : ix = 0 := e8
      obtain rfl : hb = false := e9
      obtain rfl : hi = false := e10
      obtain rfl : dp = 0 := e11
      obtain rfl : lb = 0 := e12
      exact .movc _ _ _ (by omega) (by omega) (by omega)
    · obtain ⟨he, h1, h2, ha, h3, h4, ⟨h5, h6⟩, ⟨h7, h8⟩, hn⟩ := may_parts (p := 128) h
      obtain ⟨e1, e2, e3, e4, e5, e6, e7, e8, e9, e10, e11, e12⟩ := strip_eq he
      simp only [strip] at e1 e2 e3 e4 e5 e6 e7 e8 e9 e10 e11 e12
      dsimp only at h1 h2 h3 h4 h5 h6 h7 h8 ha hn
      obtain rfl : bn = 0 := e1
      obtain rfl : sh = 0 := e2
      obtain rfl : cd = 0 := e3
      obtain rfl : ds = 0 := e4
      obtain rfl : sr = 0 := e5
      obtain rfl : im = 0 := e6
      obtain rfl : ba = 0 := e7
      obtain rfl : ix = 0 := e8
      obtain rfl : hb = false := e9
      obtain rfl : hi = false := e10
      obtain rfl : dp = 0 := e11
      exact .jump _ (by omega)
    · obtain ⟨he, h1, h2, ha, h3, h4, ⟨h5, h6⟩, ⟨h7, h8⟩, hn⟩ := may_parts (p := 192) h
      obtain ⟨e1, e2, e3, e4, e5, e6, e7, e8, e9, e10, e11, e12⟩ := strip_eq he
      simp only [strip] at e1 e2 e3 e4 e5 e6 e7 e8 e9 e10 e11 e12
      dsimp only at h1 h2 h3 h4 h5 h6 h7 h8 ha hn
      obtain rfl : bn = 0 := e1
      obtain rfl : sh = 0 := e2
      obtain rfl : ds = 0 := e4
      obtain rfl : sr = 0 := e5
      obtain rfl : im = 0 := e6
      obtain rfl : ba = 0 := e7
      obtain rfl : ix = 0 := e8
      obtain rfl : hb = false := e9
      obtain rfl : hi = false := e10
      obtain rfl : dp = 0 := e11
      exact .brc _ _ (by omega) (by omega)
    · obtain ⟨he, h1, h2, ha, h3, h4, ⟨h5, h6⟩, ⟨h7, h8⟩, hn⟩ := may_parts (p := 128) h
      obtain ⟨e1, e2, e3, e4, e5, e6, e7, e8, e9, e10, e11, e12⟩ := strip_eq he
      simp only [strip] at e1 e2 e3 e4 e5 e6 e7 e8 e9 e10 e11 e12
      dsimp only at h1 h2 h3 h4 h5 h6 h7 h8 ha hn
      obtain rfl : bn = 0 := e1
      obtain rfl : sh = 0 := e2
      obtain rfl : cd = 0 := e3
      obtain rfl : ds = 0 := e4
      obtain rfl : sr = 0 := e5
      obtain rfl : im = 0 := e6
      obtain rfl : ba = 0 := e7
      obtain rfl : ix = 0 := e8
      obtain rfl : hb = false := e9
      obtain rfl : hi = false := e10
      obtain rfl : dp = 0 := e11
      exact .lab _ (by omega)
    · obtain ⟨he, h1, h2, ha, h3, h4, ⟨h5, h6⟩, ⟨h7, h8⟩, hn⟩ := may_parts (p := 0) h
      obtain ⟨e1, e2, e3, e4, e5, e6, e7, e8, e9, e10, e11, e12⟩ := strip_eq he
      simp only [strip] at e1 e2 e3 e4 e5 e6 e7 e8 e9 e10 e11 e12
      dsimp only at h1 h2 h3 h4 h5 h6 h7 h8 ha hn
      obtain rfl : bn = 0 := e1
      obtain rfl : sh = 0 := e2
      obtain rfl : cd = 0 := e3
      obtain rfl : ds = 0 := e4
      obtain rfl : sr = 0 := e5
      obtain rfl : im = 0 := e6
      obtain rfl : ba = 0 := e7
      obtain rfl : ix = 0 := e8
      obtain rfl : hb = false := e9
      obtain rfl : hi = false := e10
      obtain rfl : dp = 0 := e11
      obtain rfl : lb = 0 := e12
      exact .ret 
  · unfold maskO at h
    rw [if_neg ho] at h
    cases h
end Go.Proofs.YtmimmnjdgpdjlaaGreatDoor
namespace Go.Proofs.YtmimmnjdgpdjlaaGreatDoor
open Go.RowKit Go.Lib

def trimP (c : UInt8) : List UInt8 → List UInt8
  | b :: l => if b = c then l else b :: l
  | [] => []
def numS (l : List UInt8) : Option Nat := numI ⟨l.toArray⟩
def neg64 (n : Nat) : Nat := if n = 0 then 0 else 18446744073709551616 - n
/-- number -/
def numP (l : List UInt8) : Nat := if l.head? = some 45 then neg64 ((numS (trimP 45 l)).getD 0) else (numS (trimP 45 l)).getD 0
def immP (l : List UInt8) : Nat := numP (trimP 36 l)
def lblP (l : List UInt8) : Int := min 1048577 (numP (trimP 76 l) : Int)
def idxW : List (List UInt8) → List UInt8 → Option Nat
  | [], _ => none
  | x :: l, s => if x = s then some 0 else (idxW l s).map (· + 1)
def regP (l : List UInt8) : Int := ((idxW regW (trimP 37 l)).getD 0 : Nat)
def lowP (l : List UInt8) : Int := ((idxW lowW (trimP 37 l)).getD 0 : Nat)
/-- ahead of the first such byte, and behind it -/
def cutL (c : UInt8) : List UInt8 → List UInt8 × List UInt8
  | [] => ([], [])
  | b :: l => if b = c then ([], l) else (b :: (cutL c l).1, (cutL c l).2)
def trimS (c : UInt8) (l : List UInt8) : List UInt8 := if l.getLast? = some c then l.dropLast else l
/-- between such bytes -/
def partsC (c : UInt8) : List UInt8 → List (List UInt8)
  | [] => [[]]
  | b :: l => if b = c then [] :: partsC c l else ((b :: (partsC c l).headD []) :: (partsC c l).tail)
structure Ad where
  ba : Int
  ix : Int
  hb : Bool
  hi : Bool
  dp : Int
deriving DecidableEq
def addrP (l : List UInt8) : Ad :=
  let p := partsC 44 (trimS 41 (cutL 40 l).2)
  { ba := if p.headD [] = [] then 0 else regP (p.headD []), hb := !(p.headD []).isEmpty, ix := if p.length ≤ 1 then 0 else regP (p.getD 1 []), hi := decide (1 < p.length), dp := sgn (numP (cutL 40 l).1) }

theorem numS_dec (u : Nat) (hu : u < 18446744073709551616) : numS (Lib.decDigits u) = some u := numI_numT u hu
theorem dec_dig (u : Nat) : ∀ b ∈ Lib.decDigits u, 48 ≤ b.toNat ∧ b.toNat ≤ 57 := fun b hb => (dig_iff b).1 (List.all_eq_true.1 (dec_all u) b hb)
theorem dec_cons (u : Nat) : ∃ c r, Lib.decDigits u = c :: r ∧ 48 ≤ c.toNat ∧ c.toNat ≤ 57 := by
  cases h : Lib.decDigits u with
  | nil => exact absurd h (dec_ne u)
  | cons c r => exact ⟨c, r, rfl, dec_dig u c (by rw [h]; simp)⟩
theorem u8_ne {b c : UInt8} (h : b.toNat ≠ c.toNat) : b ≠ c := fun e => h (by rw [e])
theorem trim_dec (u : Nat) (c : UInt8) (hc : c.toNat < 48 ∨ 57 < c.toNat) : trimP c (Lib.decDigits u) = Lib.decDigits u := by
  obtain ⟨b, r, e, h⟩ := dec_cons u
  rw [e, trimP, if_neg (u8_ne (by omega))]
theorem head_dec (u : Nat) (c : UInt8) (hc : c.toNat < 48 ∨ 57 < c.toNat) : (Lib.decDigits u).head? ≠ some c := by
  obtain ⟨b, r, e, h⟩ := dec_cons u
  rw [e]
  intro h2
  cases h2
  omega
theorem numP_dec (u : Nat) (hu : u < 18446744073709551616) : numP (Lib.decDigits u) = u := by
  unfold numP
  rw [if_neg (head_dec u 45 (by decide)), trim_dec u 45 (by decide), numS_dec u hu]
  rfl
theorem trim_hit (c : UInt8) (l : List UInt8) : trimP c (c :: l) = l := by rw [trimP, if_pos rfl]
theorem numP_neg (u : Nat) (hu : u < 18446744073709551616) : numP (45 :: Lib.decDigits u) = neg64 u := by
  unfold numP
  rw [if_pos (show (45 :: Lib.decDigits u).head? = some 45 from rfl), trim_hit, numS_dec u hu]
  rfl
theorem sgn_neg {x : Nat} (h : 9223372036854775808 ≤ x) (hx : x < 18446744073709551616) : sgn x = -((18446744073709551616 - x : Nat) : Int) := by
  unfold sgn
  rw [if_neg (by omega)]
  omega
theorem numP_itoa (x : Nat) (hx : x < 18446744073709551616) : numP (Lib.itoa (sgn x)) = x := by
  by_cases h : x < 9223372036854775808
  · rw [show sgn x = (x : Int) by unfold sgn; rw [if_pos h], Lib.itoa_nonneg, numP_dec x hx]
  · rw [sgn_neg (by omega) hx, Lib.itoa_neg _ (by omega), numP_neg _ (by omega)]
    unfold neg64
    rw [if_neg (by omega)]
    omega
theorem numP_itoaI (d : Int) (h1 : -9223372036854775808 ≤ d) (h2 : d ≤ 9223372036854775807) : sgn (numP (Lib.itoa d)) = d := by
  by_cases h : 0 ≤ d
  · obtain ⟨n, rfl⟩ := Int.eq_ofNat_of_zero_le h
    rw [Lib.itoa_nonneg, numP_dec _ (by omega)]
    unfold sgn
    rw [if_pos (by omega)]
  · obtain ⟨n, hn⟩ := Int.eq_ofNat_of_zero_le (show 0 ≤ -d by omega)
    obtain rfl : d = -(n : Int) := by omega
    rw [Lib.itoa_neg _ (by omega), numP_neg _ (by omega)]
    unfold neg64
    rw [if_neg (by omega), sgn_neg (by omega) (by omega)]
    omega
theorem itoa_ch (d : Int) : ∀ b ∈ Lib.itoa d, b.toNat = 45 ∨ 48 ≤ b.toNat ∧ b.toNat ≤ 57 := by
  intro b hb
  unfold Lib.itoa at hb
  split at hb
  · rcases List.mem_cons.1 hb with rfl | hb
    · exact .inl rfl
    · exact .inr (dec_dig _ b hb)
  · exact .inr (dec_dig _ b hb)
theorem itoa_no (d : Int) (c : UInt8) (h : c.toNat ≠ 45) (h2 : c.toNat < 48 ∨ 57 < c.toNat) : c ∉ Lib.itoa d := fun hm => by
  have := itoa_ch d c hm
  omega
theorem itoa_cons (d : Int) : ∃ c r, Lib.itoa d = c :: r ∧ (c.toNat = 45 ∨ 48 ≤ c.toNat ∧ c.toNat ≤ 57) := by
  have h := itoa_ch d
  cases e : Lib.itoa d with
  | nil =>
    unfold Lib.itoa at e
    split at e
    · cases e
    · exact absurd e (dec_ne _)
  | cons c r => exact ⟨c, r, rfl, h c (by rw [e]; simp)⟩
theorem imm_back (x : Nat) (hx : x < 18446744073709551616) : immP (immT x) = x := by unfold immP immT; rw [trim_hit, numP_itoa x hx]
theorem immU_back (x : Nat) (hx : x < 18446744073709551616) : immP (36 :: Lib.decDigits x) = x := by unfold immP; rw [trim_hit, numP_dec x hx]
theorem lbl_back (n : Int) (h : 0 ≤ n ∧ n ≤ 1048576) : lblP (lblT n) = n := by
  obtain ⟨k, rfl⟩ := Int.eq_ofNat_of_zero_le h.1
  unfold lblP lblT
  rw [trim_hit, Lib.itoa_nonneg, numP_dec _ (by omega)]
  omega
theorem fin16 {r : Int} (h : 0 ≤ r ∧ r ≤ 15) : ∃ k : Fin 16, r = ((k.val : Nat) : Int) := ⟨⟨r.toNat, by omega⟩, by simp; omega⟩
theorem reg_back16 : ∀ k : Fin 16, regP (regT ((k.val : Nat) : Int)) = (k.val : Nat) := by decide +kernel
theorem low_back16 : ∀ k : Fin 16, lowP (lowT ((k.val : Nat) : Int)) = (k.val : Nat) := by decide +kernel
theorem reg_back (r : Int) (h : 0 ≤ r ∧ r ≤ 15) : regP (regT r) = r := by obtain ⟨k, rfl⟩ := fin16 h; exact reg_back16 k
theorem low_back (r : Int) (h : 0 ≤ r ∧ r ≤ 15) : lowP (lowT r) = r := by obtain ⟨k, rfl⟩ := fin16 h; exact low_back16 k
theorem reg_no16 : ∀ k : Fin 16, ∀ b ∈ regT ((k.val : Nat) : Int), b ≠ 32 ∧ b ≠ 10 ∧ b ≠ 58 := by decide +kernel
theorem low_no16 : ∀ k : Fin 16, ∀ b ∈ lowT ((k.val : Nat) : Int), b ≠ 32 ∧ b ≠ 10 ∧ b ≠ 58 := by decide +kernel
theorem reg_no (r : Int) (h : 0 ≤ r ∧ r ≤ 15) : ∀ b ∈ regT r, b ≠ 32 ∧ b ≠ 10 ∧ b ≠ 58 := by obtain ⟨k, rfl⟩ := fin16 h; exact reg_no16 k
theorem low_no (r : Int) (h : 0 ≤ r ∧ r ≤ 15) : ∀ b ∈ lowT r, b ≠ 32 ∧ b ≠ 10 ∧ b ≠ 58 := by obtain ⟨k, rfl⟩ := fin16 h; exact low_no16 k
theorem cut_mid (c : UInt8) : ∀ (l r : List UInt8), c ∉ l → cutL c (l ++ c :: r) = (l, r)
  | [], r, _ => by rw [List.nil_append, cutL, if_pos rfl]
  | b :: l, r, h => by
    have ih := cut_mid c l r (fun e => h (List.mem_cons_of_mem _ e))
    rw [List.cons_append, cutL, if_neg (fun e => h (by simp [e])), ih]
theorem cut_none (c : UInt8) : ∀ (l : List UInt8), c ∉ l → cutL c l = (l, [])
  | [], _ => rfl
  | b :: l, h => by
    have ih := cut_none c l (fun e => h (List.mem_cons_of_mem _ e))
    rw [cutL, if_neg (fun e => h (by simp [e])), ih]
theorem trimS_hit (c : UInt8) (l : List UInt8) : trimS c (l ++ [c]) = l := by unfold trimS; simp
/-- what stands in an address' brackets -/
def restT (ba ix : Int) (hb hi : Bool) : List UInt8 := (if hb then regT ba else []) ++ (if hi then 44 :: (regT ix ++ [44, 56]) else [])
theorem rest_parts16 : ∀ (b x : Fin 16) (hb hi : Bool), partsC 44 (restT ((b.val : Nat) : Int) ((x.val : Nat) : Int) hb hi) = (if hb then regT ((b.val : Nat) : Int) else []) :: (if hi then [regT ((x.val : Nat) : Int), [56]] else []) := by decide +kernel
theorem rest_no16 : ∀ (b x : Fin 16) (hb hi : Bool), ∀ c ∈ restT ((b.val : Nat) : Int) ((x.val : Nat) : Int) hb hi, c ≠ 32 ∧ c ≠ 10 ∧ c ≠ 58 := by decide +kernel
theorem addr_parts {ba ix dp : Int} {hb hi : Bool} (h : addrB ba ix hb hi dp = true) : (0 ≤ ba ∧ ba ≤ 15) ∧ (hb = false → ba = 0) ∧ (0 ≤ ix ∧ ix ≤ 15) ∧ (hi = false → ix = 0) ∧ (hi = true → ix ≠ 4) ∧ -2147483648 ≤ dp ∧ dp ≤ 2147483647 := by
  unfold addrB regB shortI at h
  simp only [Bool.and_eq_true, decide_eq_true_eq] at h
  obtain ⟨⟨⟨h1, h2⟩, ⟨h3, h4⟩, h5⟩, h6, h7⟩ := h
  refine ⟨h1, fun g => ?_, h3, fun g => ?_, fun g => ?_, h6, h7⟩
  · rw [g] at h2; simpa using h2
  · rw [g] at h4; simpa using h4
  · rw [g] at h5; simpa using h5
theorem addrT_two {ba ix dp : Int} {hb hi : Bool} (h : (!hb && !hi) = false) : addrT ba ix hb hi dp = (if dp = 0 then [] else Lib.itoa dp) ++ 40 :: (restT ba ix hb hi ++ [41]) := by
  unfold addrT restT
  rw [if_neg (by rw [h]; simp)]
  simp
theorem addr_back {ba ix dp : Int} {hb hi : Bool} (h : addrB ba ix hb hi dp = true) : addrP (addrT ba ix hb hi dp) = ⟨ba, ix, hb, hi, dp⟩ := by
  obtain ⟨h1, h2, h3, h4, h5, h6, h7⟩ := addr_parts h
  have hdp := numP_itoaI dp (by omega) (by omega)
  have hno : (40 : UInt8) ∉ Lib.itoa dp := itoa_no dp 40 (by decide) (by decide)
  cases hg : (!hb && !hi) with
  | true =>
    have e : addrT ba ix hb hi dp = Lib.itoa dp := by unfold addrT; rw [if_pos hg]
    obtain ⟨rfl, rfl⟩ : hb = false ∧ hi = false := by cases hb <;> cases hi <;> simp_all
    obtain rfl := h2 rfl
    obtain rfl := h4 rfl
    unfold addrP
    rw [e, cut_none 40 _ hno]
    simp [trimS, partsC, hdp]
  | false =>
    have e := addrT_two (ba := ba) (ix := ix) (dp := dp) hg
    have hd : sgn (numP (if dp = 0 then [] else Lib.itoa dp)) = dp := by
      split
      · rename_i h0
        rw [h0]
        decide +kernel
      · exact hdp
    have hn2 : (40 : UInt8) ∉ (if dp = 0 then ([] : List UInt8) else Lib.itoa dp) := by
      split
      · simp
      · exact hno
    have hp : partsC 44 (restT ba ix hb hi) = (if hb then regT ba else []) :: (if hi then [regT ix, [56]] else []) := by
      obtain ⟨b, rfl⟩ := fin16 h1
      obtain ⟨x, rfl⟩ := fin16 h3
      exact rest_parts16 b x hb hi
    unfold addrP
    rw [e, cut_mid 40 _ _ hn2]
    dsimp only
    rw [trimS_hit, hp, hd]
    have hr : regT ba ≠ [] := by unfold regT; simp
    cases hb <;> cases hi
    · cases hg
    · simp [reg_back _ h1, reg_back _ h3]
      exact (h2 rfl).symm
    · simp [reg_back _ h1, reg_back _ h3, hr]
      exact (h4 rfl).symm
    · simp [reg_back _ h1, reg_back _ h3, hr]


/-! lines split at ", " -/
def noSp (l : List UInt8) : Prop := ∀ b ∈ l, b ≠ 32
theorem pre_sp (b : UInt8) (l : List UInt8) (h : l.head? ≠ some 32) : ([44, 32] : List UInt8).isPrefixOf (b :: l) = false := by
  cases l with
  | nil => simp [List.isPrefixOf]
  | cons c r =>
    have : c ≠ 32 := fun e => h (by rw [e]; rfl)
    simp [List.isPrefixOf, Ne.symm this]
theorem index_no : ∀ l : List UInt8, noSp l → Lib.index l [44, 32] = -1
  | [], _ => rfl
  | b :: l, h => by
    have h1 : noSp l := fun x hx => h x (List.mem_cons_of_mem _ hx)
    have h2 : l.head? ≠ some 32 := fun e => by
      cases l with
      | nil => cases e
      | cons c r =>
        injection e with e
        exact h1 c (by simp) e
    rw [Lib.index, pre_sp b l h2, index_no l h1]
    rfl
theorem index_hit : ∀ (l r : List UInt8), noSp l → Lib.index (l ++ 44 :: 32 :: r) [44, 32] = (l.length : Int)
  | [], r, _ => by
    rw [List.nil_append, Lib.index]
    simp [List.isPrefixOf]
  | b :: l, r, h => by
    have h1 : noSp l := fun x hx => h x (List.mem_cons_of_mem _ hx)
    have h2 : (l ++ 44 :: 32 :: r).head? ≠ some 32 := fun e => by
      cases l with
      | nil => injection e with e; exact absurd e (by decide)
      | cons c q =>
        injection e with e
        exact h1 c (by simp) e
    rw [List.cons_append, Lib.index, pre_sp b _ h2, index_hit l r h1]
    have : ((l.length : Int) == -1) = false := by rw [beq_eq_false_iff_ne]; omega
    simp [this]
def splitCS (l : List UInt8) : List (List UInt8) := Lib.split l [44, 32]
theorem split_one {p : List UInt8} (h : noSp p) : splitCS p = [p] := by
  unfold splitCS Lib.split Lib.count
  rw [Lib.countFrom, index_no p h]
  rfl
theorem split_two {p q : List UInt8} (h : noSp p) (hq : noSp q) : splitCS (p ++ 44 :: 32 :: q) = [p, q] := by
  have hi := index_hit p q h
  have hn : ((p.length : Int) == -1) = false := by rw [beq_eq_false_iff_ne]; omega
  have hd : (p ++ 44 :: 32 :: q).drop (p.length + 2) = q := by
    rw [List.drop_append]
    simp
  have hc : Lib.count (p ++ 44 :: 32 :: q) [44, 32] = 1 := by
    unfold Lib.count
    rw [Lib.countFrom, hi, hn]
    simp only [Bool.false_eq_true, if_false, Int.toNat_natCast, List.length_cons, List.length_nil, Nat.zero_add, Nat.reduceAdd]
    rw [hd]
    have : (p ++ 44 :: 32 :: q).length = (p.length + q.length + 1) + 1 := by simp; omega
    rw [this, Lib.countFrom, index_no q hq]
    rfl
  unfold splitCS Lib.split
  rw [hc, Lib.splitK, hi, hn]
  simp only [Bool.false_eq_true, if_false, Int.toNat_natCast, List.length_cons, List.length_nil, Nat.zero_add, Nat.reduceAdd, Nat.add_zero]
  rw [hd, List.take_append_of_le_length (Nat.le_refl _), List.take_length, Lib.splitK]

/-! what a line's word may mean -/
inductive Rd where
  | two (op bn cd : Int)
  | imm (op bn sh : Int)
  | one (op : Int)
  | lbl (op cd : Int)
  | load
  | store
  | byte
  | ret
  | shc (sh : Int)
  | setc (cd : Int)
deriving DecidableEq
def inZ (op : Int) : In := ⟨op, 0, 0, 0, 0, 0, 0, 0, 0, false, false, 0, 0⟩
def rdM : Rd → List (List UInt8) → In
  | .two op bn cd, l => { inZ op with bn := bn, cd := cd, sr := regP (l.getD 0 []), ds := regP (l.getD 1 []) }
  | .imm op bn sh, l => { inZ op with bn := bn, sh := sh, im := immP (l.getD 0 []), ds := regP (l.getD 1 []) }
  | .one op, l => { inZ op with ds := regP (l.getD 0 []) }
  | .lbl op cd, l => { inZ op with cd := cd, lb := lblP (l.getD 0 []) }
  | .load, l => { inZ 3 with ba := (addrP (l.getD 0 [])).ba, ix := (addrP (l.getD 0 [])).ix, hb := (addrP (l.getD 0 [])).hb, hi := (addrP (l.getD 0 [])).hi, dp := (addrP (l.getD 0 [])).dp, ds := regP (l.getD 1 []) }
  | .store, l => { inZ 4 with sr := regP (l.getD 0 []), ba := (addrP (l.getD 1 [])).ba, ix := (addrP (l.getD 1 [])).ix, hb := (addrP (l.getD 1 [])).hb, hi := (addrP (l.getD 1 [])).hi, dp := (addrP (l.getD 1 [])).dp }
  | .byte, l => { inZ 15 with sr := lowP (l.getD 0 []), ds := regP (l.getD 1 []) }
  | .ret, _ => inZ 20
  | .shc h, l => { inZ 7 with sh := h, ds := regP (l.getD 1 []) }
  | .setc c, l => { inZ 14 with cd := c, ds := lowP (l.getD 0 []) }

def tableL : List (List UInt8 × List Rd) := [([109, 111, 118, 113], [.two 1 0 0, .load, .store]),
  ([109, 111, 118, 97, 98, 115, 113], [.imm 2 0 0]),
  ([110, 111, 116, 113], [.one 9]),
  ([110, 101, 103, 113], [.one 10]),
  ([99, 109, 112, 113], [.two 11 0 0, .imm 13 0 0]),
  ([116, 101, 115, 116, 113], [.two 12 0 0]),
  ([109, 111, 118, 122, 98, 113], [.byte]),
  ([106, 109, 112], [.lbl 17 0]),
  ([114, 101, 116], [.ret]),
  ([97, 100, 100, 113], [.two 5 1 0, .imm 6 1 0]),
  ([97, 100, 99, 113], [.two 5 2 0, .imm 6 2 0]),
  ([115, 117, 98, 113], [.two 5 3 0, .imm 6 3 0]),
  ([115, 98, 98, 113], [.two 5 4 0, .imm 6 4 0]),
  ([97, 110, 100, 113], [.two 5 5 0, .imm 6 5 0]),
  ([111, 114, 113], [.two 5 6 0, .imm 6 6 0]),
  ([120, 111, 114, 113], [.two 5 7 0, .imm 6 7 0]),
  ([105, 109, 117, 108, 113], [.two 5 8 0, .imm 6 8 0]),
  ([115, 104, 108, 113], [.imm 8 0 1, .shc 1]),
  ([115, 104, 114, 113], [.imm 8 0 2, .shc 2]),
  ([115, 97, 114, 113], [.imm 8 0 3, .shc 3]),
  ([114, 111, 108, 113], [.imm 8 0 4, .shc 4]),
  ([114, 111, 114, 113], [.imm 8 0 5, .shc 5]),
  ([115, 101, 116, 111], [.setc 0]),
  ([99, 109, 111, 118, 111], [.two 16 0 0]),
  ([106, 111], [.lbl 18 0]),
  ([115, 101, 116, 110, 111], [.setc 1]),
  ([99, 109, 111, 118, 110, 111], [.two 16 0 1]),
  ([106, 110, 111], [.lbl 18 1]),
  ([115, 101, 116, 98], [.setc 2]),
  ([99, 109, 111, 118, 98], [.two 16 0 2]),
  ([106, 98], [.lbl 18 2]),
  ([115, 101, 116, 97, 101], [.setc 3]),
  ([99, 109, 111, 118, 97, 101], [.two 16 0 3]),
  ([106, 97, 101], [.lbl 18 3]),
  ([115, 101, 116, 101], [.setc 4]),
  ([99, 109, 111, 118, 101], [.two 16 0 4]),
  ([106, 101], [.lbl 18 4]),
  ([115, 101, 116, 110, 101], [.setc 5]),
  ([99, 109, 111, 118, 110, 101], [.two 16 0 5]),
  ([106, 110, 101], [.lbl 18 5]),
  ([115, 101, 116, 98, 101], [.setc 6]),
  ([99, 109, 111, 118, 98, 101], [.two 16 0 6]),
  ([106, 98, 101], [.lbl 18 6]),
  ([115, 101, 116, 97], [.setc 7]),
  ([99, 109, 111, 118, 97], [.two 16 0 7]),
  ([106, 97], [.lbl 18 7]),
  ([115, 101, 116, 115], [.setc 8]),
  ([99, 109, 111, 118, 115], [.two 16 0 8]),
  ([106, 115], [.lbl 18 8]),
  ([115, 101, 116, 110, 115], [.setc 9]),
  ([99, 109, 111, 118, 110, 115], [.two 16 0 9]),
  ([106, 110, 115], [.lbl 18 9]),
  ([115, 101, 116, 112], [.setc 10]),
  ([99, 109, 111, 118, 112], [.two 16 0 10]),
  ([106, 112], [.lbl 18 10]),
  ([115, 101, 116, 110, 112], [.setc 11]),
  ([99, 109, 111, 118, 110, 112], [.two 16 0 11]),
  ([106, 110, 112], [.lbl 18 11]),
  ([115, 101, 116, 108], [.setc 12]),
  ([99, 109, 111, 118, 108], [.two 16 0 12]),
  ([106, 108], [.lbl 18 12]),
  ([115, 101, 116, 103, 101], [.setc 13]),
  ([99, 109, 111, 118, 103, 101], [.two 16 0 13]),
  ([106, 103, 101], [.lbl 18 13]),
  ([115, 101, 116, 108, 101], [.setc 14]),
  ([99, 109, 111, 118, 108, 101], [.two 16 0 14]),
  ([106, 108, 101], [.lbl 18 14]),
  ([115, 101, 116, 103], [.setc 15]),
  ([99, 109, 111, 118, 103], [.two 16 0 15]),
  ([106, 103], [.lbl 18 15])]
def lookT (w : List UInt8) : List Rd := ((tableL.find? fun x => x.1 == w).map (·.2)).getD []
/-- which meaning the operands' looks choose -/
def fits : Rd → List (List UInt8) → Bool
  | .two .., l => (l.getD 0 []).head? == some 37 && (l.getD 1 []).head? == some 37
  | .imm .., l => (l.getD 0 []).head? == some 36
  | .load, l => (l.getD 0 []).head? != some 37
  | .store, l => (l.getD 0 []).head? == some 37 && (l.getD 1 []).head? != some 37
  | _, _ => true
def readF (s : List UInt8) : Option In := ((lookT (cutL 32 s).1).find? fun r => fits r (splitCS (cutL 32 s).2)).map fun r => rdM r (splitCS (cutL 32 s).2)
/-- what the program tries -/
def candsL (s : List UInt8) : List In := (lookT (cutL 32 s).1).map fun r => rdM r (splitCS (cutL 32 s).2)
theorem readF_cands {s : List UInt8} {i : In} (h : readF s = some i) : i ∈ candsL s := by
  unfold readF at h
  obtain ⟨r, hr, rfl⟩ := Option.map_eq_some_iff.1 h
  exact List.mem_map.2 ⟨r, List.mem_of_find?_eq_some hr, rfl⟩
theorem readF_of {w rest : List UInt8} {s : List UInt8} {L : List Rd} {r : Rd} {l : List (List UInt8)} (hw : noSp w) (hs : s = w ++ 32 :: rest) (hl : splitCS rest = l) (hL : lookT w = L) (hf : L.find? (fun r => fits r l) = some r) : readF s = some (rdM r l) := by
  unfold readF
  rw [hs, cut_mid 32 w rest (fun h => hw 32 h rfl), hl, hL, hf]
  rfl
theorem reg_sp {r : Int} (h : 0 ≤ r ∧ r ≤ 15) : noSp (regT r) := fun b hb => (reg_no r h b hb).1
theorem low_sp {r : Int} (h : 0 ≤ r ∧ r ≤ 15) : noSp (lowT r) := fun b hb => (low_no r h b hb).1
theorem u8n {b c : UInt8} (h : b.toNat ≠ c.toNat) : b ≠ c := u8_ne h
theorem itoa_chars (d : Int) : ∀ b ∈ Lib.itoa d, b ≠ 32 ∧ b ≠ 10 ∧ b ≠ 58 := fun b hb => by
  have := itoa_ch d b hb
  exact ⟨u8_ne (by have e : (32 : UInt8).toNat = 32 := rfl; omega), u8_ne (by have e : (10 : UInt8).toNat = 10 := rfl; omega), u8_ne (by have e : (58 : UInt8).toNat = 58 := rfl; omega)⟩
theorem dec_chars (u : Nat) : ∀ b ∈ Lib.decDigits u, b ≠ 32 ∧ b ≠ 10 ∧ b ≠ 58 := by rw [← Lib.itoa_nonneg]; exact itoa_chars _
theorem cons_chars {c : UInt8} {l : List UInt8} (hc : c ≠ 32 ∧ c ≠ 10 ∧ c ≠ 58) (h : ∀ b ∈ l, b ≠ 32 ∧ b ≠ 10 ∧ b ≠ 58) : ∀ b ∈ c :: l, b ≠ 32 ∧ b ≠ 10 ∧ b ≠ 58 := fun b hb => by
  rcases List.mem_cons.1 hb with rfl | hb
  · exact hc
  · exact h b hb
theorem app_chars {l m : List UInt8} (h1 : ∀ b ∈ l, b ≠ 32 ∧ b ≠ 10 ∧ b ≠ 58) (h2 : ∀ b ∈ m, b ≠ 32 ∧ b ≠ 10 ∧ b ≠ 58) : ∀ b ∈ l ++ m, b ≠ 32 ∧ b ≠ 10 ∧ b ≠ 58 := fun b hb => (List.mem_append.1 hb).elim (h1 b) (h2 b)
theorem imm_chars (x : Nat) : ∀ b ∈ immT x, b ≠ 32 ∧ b ≠ 10 ∧ b ≠ 58 := cons_chars (by decide) (itoa_chars _)
theorem lbl_chars (n : Int) : ∀ b ∈ lblT n, b ≠ 32 ∧ b ≠ 10 ∧ b ≠ 58 := cons_chars (by decide) (itoa_chars _)
theorem addr_chars {ba ix dp : Int} {hb hi : Bool} (h : addrB ba ix hb hi dp = true) : ∀ b ∈ addrT ba ix hb hi dp, b ≠ 32 ∧ b ≠ 10 ∧ b ≠ 58 := by
  obtain ⟨h1, h2, h3, h4, h5, h6, h7⟩ := addr_parts h
  cases hg : (!hb && !hi) with
  | true => unfold addrT; rw [if_pos hg]; exact itoa_chars _
  | false =>
    rw [addrT_two hg]
    refine app_chars ?_ (cons_chars (by decide) (app_chars ?_ (cons_chars (by decide) (by simp))))
    · split
      · simp
      · exact itoa_chars _
    · obtain ⟨b, rfl⟩ := fin16 h1
      obtain ⟨x, rfl⟩ := fin16 h3
      exact rest_no16 b x hb hi
theorem addr_sp {ba ix dp : Int} {hb hi : Bool} (h : addrB ba ix hb hi dp = true) : noSp (addrT ba ix hb hi dp) := fun b hb => (addr_chars h b hb).1
theorem addr_head (ba ix : Int) (hb hi : Bool) (dp : Int) : (addrT ba ix hb hi dp).head? ≠ some 37 ∧ (addrT ba ix hb hi dp).head? ≠ some 36 := by
  obtain ⟨c, r, e, h⟩ := itoa_cons dp
  have hc : c ≠ 37 ∧ c ≠ 36 := ⟨u8_ne (by have e : (37 : UInt8).toNat = 37 := rfl; omega), u8_ne (by have e : (36 : UInt8).toNat = 36 := rfl; omega)⟩
  cases hg : (!hb && !hi) with
  | true => unfold addrT; rw [if_pos hg, e]; simp [hc]
  | false =>
    rw [addrT_two hg]
    by_cases h0 : dp = 0
    · rw [if_pos h0]; simp
    · rw [if_neg h0, e]; simp [hc]
theorem fin8 {r : Int} (h : 1 ≤ r ∧ r ≤ 8) : ∃ k : Fin 8, r = ((k.val : Nat) : Int) + 1 := ⟨⟨(r - 1).toNat, by omega⟩, by simp; omega⟩
theorem fin5 {r : Int} (h : 1 ≤ r ∧ r ≤ 5) : ∃ k : Fin 5, r = ((k.val : Nat) : Int) + 1 := ⟨⟨(r - 1).toNat, by omega⟩, by simp; omega⟩
def clean (l : List UInt8) : Bool := l.all fun b => b != 32 && b != 10 && b != 58
theorem clean_ch {l : List UInt8} (h : clean l = true) : ∀ b ∈ l, b ≠ 32 ∧ b ≠ 10 ∧ b ≠ 58 := fun b hb => by
  have := List.all_eq_true.1 h b hb
  simp only [Bool.and_eq_true, bne_iff_ne, ne_eq] at this
  exact ⟨this.1.1, this.1.2, this.2⟩
theorem clean_sp {l : List UInt8} (h : clean l = true) : noSp l := fun b hb => (clean_ch h b hb).1
theorem bin_look : ∀ k : Fin 8, clean (atW binW (((k.val : Nat) : Int) + 1 - 1)) = true ∧ lookT (atW binW (((k.val : Nat) : Int) + 1 - 1)) = [.two 5 (((k.val : Nat) : Int) + 1) 0, .imm 6 (((k.val : Nat) : Int) + 1) 0] := by decide +kernel
theorem shf_look : ∀ k : Fin 5, clean (atW shfW (((k.val : Nat) : Int) + 1 - 1)) = true ∧ lookT (atW shfW (((k.val : Nat) : Int) + 1 - 1)) = [.imm 8 0 (((k.val : Nat) : Int) + 1), .shc (((k.val : Nat) : Int) + 1)] := by decide +kernel

theorem set_look : ∀ k : Fin 16, clean ([115, 101, 116] ++ atW cndW ((k.val : Nat) : Int)) = true ∧ lookT ([115, 101, 116] ++ atW cndW ((k.val : Nat) : Int)) = [.setc ((k.val : Nat) : Int)] := by decide +kernel
theorem cmv_look : ∀ k : Fin 16, clean ([99, 109, 111, 118] ++ atW cndW ((k.val : Nat) : Int)) = true ∧ lookT ([99, 109, 111, 118] ++ atW cndW ((k.val : Nat) : Int)) = [.two 16 0 ((k.val : Nat) : Int)] := by decide +kernel
theorem jcc_look : ∀ k : Fin 16, clean ([106] ++ atW cndW ((k.val : Nat) : Int)) = true ∧ lookT ([106] ++ atW cndW ((k.val : Nat) : Int)) = [.lbl 18 ((k.val : Nat) : Int)] := by decide +kernel
theorem readF_line {i : In} (h : Form i) (hl : i.op ≠ 19) : readF (lineL i) = some i := by
  cases h with
  | two op d s ho hd hs =>
    rcases ho with rfl | rfl | rfl | rfl
    · refine (readF_of (w := [109, 111, 118, 113]) (l := [regT s, regT d]) (clean_sp (by decide)) rfl (split_two (reg_sp hs) (reg_sp hd)) (L := [.two 1 0 0, .load, .store]) (by decide +kernel) (r := .two 1 0 0) (by simp [fits, regT])).trans ?_
      simp [rdM, inZ, reg_back _ hs, reg_back _ hd]
    · refine (readF_of (w := [99, 109, 112, 113]) (l := [regT s, regT d]) (clean_sp (by decide)) rfl (split_two (reg_sp hs) (reg_sp hd)) (L := [.two 11 0 0, .imm 13 0 0]) (by decide +kernel) (r := .two 11 0 0) (by simp [fits, regT])).trans ?_
      simp [rdM, inZ, reg_back _ hs, reg_back _ hd]
    · refine (readF_of (w := [116, 101, 115, 116, 113]) (l := [regT s, regT d]) (clean_sp (by decide)) rfl (split_two (reg_sp hs) (reg_sp hd)) (L := [.two 12 0 0]) (by decide +kernel) (r := .two 12 0 0) (by simp [fits, regT])).trans ?_
      simp [rdM, inZ, reg_back _ hs, reg_back _ hd]
    · refine (readF_of (w := [109, 111, 118, 122, 98, 113]) (l := [lowT s, regT d]) (clean_sp (by decide)) rfl (split_two (low_sp hs) (reg_sp hd)) (L := [.byte]) (by decide +kernel) (r := .byte) (by simp [fits, regT])).trans ?_
      simp [rdM, inZ, low_back _ hs, reg_back _ hd]
  | set d n hd hn =>
    refine (readF_of (w := [109, 111, 118, 97, 98, 115, 113]) (l := [36 :: Lib.decDigits n, regT d]) (clean_sp (by decide)) rfl (split_two (fun b hb => (cons_chars (by decide) (dec_chars n) b hb).1) (reg_sp hd)) (L := [.imm 2 0 0]) (by decide +kernel) (r := .imm 2 0 0) (by simp [fits, regT])).trans ?_
    simp [rdM, inZ, immU_back _ hn, reg_back _ hd]
  | load d ba ix hb hi dp hd ha =>
    have hh := addr_head ba ix hb hi dp
    refine (readF_of (w := [109, 111, 118, 113]) (l := [addrT ba ix hb hi dp, regT d]) (clean_sp (by decide)) rfl (split_two (addr_sp ha) (reg_sp hd)) (L := [.two 1 0 0, .load, .store]) (by decide +kernel) (r := .load) (by simp [fits, hh.1])).trans ?_
    simp [rdM, inZ, addr_back ha, reg_back _ hd]
  | store s ba ix hb hi dp hs ha =>
    have hh := addr_head ba ix hb hi dp
    refine (readF_of (w := [109, 111, 118, 113]) (l := [regT s, addrT ba ix hb hi dp]) (clean_sp (by decide)) rfl (split_two (reg_sp hs) (addr_sp ha)) (L := [.two 1 0 0, .load, .store]) (by decide +kernel) (r := .store) (by simp [fits, hh.1, regT])).trans ?_
    simp [rdM, inZ, addr_back ha, reg_back _ hs]
  | bin b d s hb hd hs =>
    obtain ⟨k, rfl⟩ := fin8 hb
    refine (readF_of (w := atW binW (((k.val : Nat) : Int) + 1 - 1)) (l := [regT s, regT d]) (fun x hx => (clean_ch (bin_look k).1 x hx).1) rfl (split_two (reg_sp hs) (reg_sp hd)) (bin_look k).2 (r := .two 5 (((k.val : Nat) : Int) + 1) 0) (by simp [fits, regT])).trans ?_
    simp [rdM, inZ, reg_back _ hs, reg_back _ hd]
  | binI b d n hb hd hn =>
    obtain ⟨k, rfl⟩ := fin8 hb
    have hn64 := shortN_lt hn
    refine (readF_of (w := atW binW (((k.val : Nat) : Int) + 1 - 1)) (l := [immT n, regT d]) (fun x hx => (clean_ch (bin_look k).1 x hx).1) rfl (split_two (fun x hx => (imm_chars n x hx).1) (reg_sp hd)) (bin_look k).2 (r := .imm 6 (((k.val : Nat) : Int) + 1) 0) (by simp [fits, immT])).trans ?_
    simp [rdM, inZ, imm_back _ hn64, reg_back _ hd]
  | shf h d hh hd =>
    obtain ⟨k, rfl⟩ := fin5 hh
    refine (readF_of (w := atW shfW (((k.val : Nat) : Int) + 1 - 1)) (l := [[37, 99, 108], regT d]) (fun x hx => (clean_ch (shf_look k).1 x hx).1) rfl (split_two (by intro b hb; revert b; decide) (reg_sp hd)) (shf_look k).2 (r := .shc (((k.val : Nat) : Int) + 1)) (by simp [fits])).trans ?_
    simp [rdM, inZ, reg_back _ hd]
  | shfI h d n hh hd hn =>
    obtain ⟨k, rfl⟩ := fin5 hh
    refine (readF_of (w := atW shfW (((k.val : Nat) : Int) + 1 - 1)) (l := [immT n, regT d]) (fun x hx => (clean_ch (shf_look k).1 x hx).1) rfl (split_two (fun x hx => (imm_chars n x hx).1) (reg_sp hd)) (shf_look k).2 (r := .imm 8 0 (((k.val : Nat) : Int) + 1)) (by simp [fits, immT])).trans ?_
    simp [rdM, inZ, imm_back n (by omega), reg_back _ hd]
  | one op d ho hd =>
    rcases ho with rfl | rfl
    · refine (readF_of (w := [110, 111, 116, 113]) (l := [regT d]) (clean_sp (by decide)) rfl (split_one (reg_sp hd)) (L := [.one 9]) (by decide +kernel) (r := .one 9) (by simp [fits])).trans ?_
      simp [rdM, inZ, reg_back _ hd]
    · refine (readF_of (w := [110, 101, 103, 113]) (l := [regT d]) (clean_sp (by decide)) rfl (split_one (reg_sp hd)) (L := [.one 10]) (by decide +kernel) (r := .one 10) (by simp [fits])).trans ?_
      simp [rdM, inZ, reg_back _ hd]
  | cmpI d n hd hn =>
    have hn64 := shortN_lt hn
    refine (readF_of (w := [99, 109, 112, 113]) (l := [immT n, regT d]) (clean_sp (by decide)) rfl (split_two (fun x hx => (imm_chars n x hx).1) (reg_sp hd)) (L := [.two 11 0 0, .imm 13 0 0]) (by decide +kernel) (r := .imm 13 0 0) (by simp [fits, immT])).trans ?_
    simp [rdM, inZ, imm_back _ hn64, reg_back _ hd]
  | setc c d hc hd =>
    obtain ⟨k, rfl⟩ := fin16 hc
    refine (readF_of (w := [115, 101, 116] ++ atW cndW ((k.val : Nat) : Int)) (l := [lowT d]) (fun x hx => (clean_ch (set_look k).1 x hx).1) rfl (split_one (low_sp hd)) (set_look k).2 (r := .setc ((k.val : Nat) : Int)) (by simp [fits])).trans ?_
    simp [rdM, inZ, low_back _ hd]
  | movc c d s hc hd hs =>
    obtain ⟨k, rfl⟩ := fin16 hc
    refine (readF_of (w := [99, 109, 111, 118] ++ atW cndW ((k.val : Nat) : Int)) (l := [regT s, regT d]) (fun x hx => (clean_ch (cmv_look k).1 x hx).1) rfl (split_two (reg_sp hs) (reg_sp hd)) (cmv_look k).2 (r := .two 16 0 ((k.val : Nat) : Int)) (by simp [fits, regT])).trans ?_
    simp [rdM, inZ, reg_back _ hs, reg_back _ hd]
  | jump n hn =>
    refine (readF_of (w := [106, 109, 112]) (l := [lblT n]) (clean_sp (by decide)) rfl (split_one (fun x hx => (lbl_chars n x hx).1)) (L := [.lbl 17 0]) (by decide +kernel) (r := .lbl 17 0) (by simp [fits])).trans ?_
    simp [rdM, inZ, lbl_back _ hn]
  | brc c n hc hn =>
    obtain ⟨k, rfl⟩ := fin16 hc
    refine (readF_of (w := [106] ++ atW cndW ((k.val : Nat) : Int)) (l := [lblT n]) (fun x hx => (clean_ch (jcc_look k).1 x hx).1) rfl (split_one (fun x hx => (lbl_chars n x hx).1)) (jcc_look k).2 (r := .lbl 18 ((k.val : Nat) : Int)) (by simp [fits])).trans ?_
    simp [rdM, inZ, lbl_back _ hn]
  | lab n hn => exact absurd rfl hl
  | ret => decide +kernel

end Go.Proofs.YtmimmnjdgpdjlaaGreatDoor
namespace Go.Proofs.YtmimmnjdgpdjlaaGreatDoor
open Go.RowKit Go.Lib

theorem atW_clean8 : ∀ k : Fin 8, clean (atW binW (((k.val : Nat) : Int) + 1 - 1)) = true := fun k => (bin_look k).1
theorem no10 {l : List UInt8} (h : ∀ b ∈ l, b ≠ 32 ∧ b ≠ 10 ∧ b ≠ 58) : ∀ b ∈ l, b ≠ 10 ∧ b ≠ 58 := fun b hb => (h b hb).2
theorem line_ch2 {w r : List UInt8} (hw : ∀ b ∈ w, b ≠ 10 ∧ b ≠ 58) (hr : ∀ b ∈ r, b ≠ 10 ∧ b ≠ 58) : ∀ b ∈ w ++ 32 :: r, b ≠ 10 ∧ b ≠ 58 := fun b hb => by
  rcases List.mem_append.1 hb with hb | hb
  · exact hw b hb
  · rcases List.mem_cons.1 hb with rfl | hb
    · decide
    · exact hr b hb
theorem two_ch2 {p q : List UInt8} (hp : ∀ b ∈ p, b ≠ 32 ∧ b ≠ 10 ∧ b ≠ 58) (hq : ∀ b ∈ q, b ≠ 32 ∧ b ≠ 10 ∧ b ≠ 58) : ∀ b ∈ p ++ 44 :: 32 :: q, b ≠ 10 ∧ b ≠ 58 := fun b hb => by
  rcases List.mem_append.1 hb with hb | hb
  · exact (hp b hb).2
  · rcases List.mem_cons.1 hb with rfl | hb
    · decide
    · rcases List.mem_cons.1 hb with rfl | hb
      · decide
      · exact (hq b hb).2
/-- a line that is no label's: a word; behind a blank one or two operands -/
inductive Shape : List UInt8 → Prop
  | bare : Shape [114, 101, 116]
  | one (w p : List UInt8) (hw : clean w = true) (hn : w ≠ []) (hp : ∀ b ∈ p, b ≠ 32 ∧ b ≠ 10 ∧ b ≠ 58) (hp0 : p ≠ []) : Shape (w ++ 32 :: p)
  | two (w p q : List UInt8) (hw : clean w = true) (hn : w ≠ []) (hp : ∀ b ∈ p, b ≠ 32 ∧ b ≠ 10 ∧ b ≠ 58) (hp0 : p ≠ []) (hq : ∀ b ∈ q, b ≠ 32 ∧ b ≠ 10 ∧ b ≠ 58) (hq0 : q ≠ []) : Shape (w ++ 32 :: (p ++ 44 :: 32 :: q))
theorem reg_ne (r : Int) : regT r ≠ [] := by unfold regT; simp
theorem low_ne (r : Int) : lowT r ≠ [] := by unfold lowT; simp
theorem imm_ne (n : Nat) : immT n ≠ [] := by unfold immT; simp
theorem lbl_ne (n : Int) : lblT n ≠ [] := by unfold lblT; simp
theorem addr_ne (ba ix : Int) (hb hi : Bool) (dp : Int) : addrT ba ix hb hi dp ≠ [] := by
  obtain ⟨c, r, e, h⟩ := itoa_cons dp
  cases hg : (!hb && !hi) with
  | true => unfold addrT; rw [if_pos hg, e]; simp
  | false => rw [addrT_two hg]; simp
theorem bin_ne : ∀ k : Fin 8, atW binW (((k.val : Nat) : Int) + 1 - 1) ≠ [] := by decide +kernel
theorem shf_ne : ∀ k : Fin 5, atW shfW (((k.val : Nat) : Int) + 1 - 1) ≠ [] := by decide +kernel
theorem shape_line {i : In} (h : Form i) (hl : i.op ≠ 19) : Shape (lineL i) := by
  cases h with
  | two op d s ho hd hs =>
    rcases ho with rfl | rfl | rfl | rfl
    · exact .two [109, 111, 118, 113] (regT s) (regT d) (by decide) (by decide) (reg_no s hs) (reg_ne s) (reg_no d hd) (reg_ne d)
    · exact .two [99, 109, 112, 113] (regT s) (regT d) (by decide) (by decide) (reg_no s hs) (reg_ne s) (reg_no d hd) (reg_ne d)
    · exact .two [116, 101, 115, 116, 113] (regT s) (regT d) (by decide) (by decide) (reg_no s hs) (reg_ne s) (reg_no d hd) (reg_ne d)
    · exact .two [109, 111, 118, 122, 98, 113] (lowT s) (regT d) (by decide) (by decide) (low_no s hs) (low_ne s) (reg_no d hd) (reg_ne d)
  | set d n hd hn => exact .two [109, 111, 118, 97, 98, 115, 113] (36 :: Lib.decDigits n) (regT d) (by decide) (by decide) (cons_chars (by decide) (dec_chars n)) (by simp) (reg_no d hd) (reg_ne d)
  | load d ba ix hb hi dp hd ha => exact .two [109, 111, 118, 113] (addrT ba ix hb hi dp) (regT d) (by decide) (by decide) (addr_chars ha) (addr_ne _ _ _ _ _) (reg_no d hd) (reg_ne d)
  | store s ba ix hb hi dp hs ha => exact .two [109, 111, 118, 113] (regT s) (addrT ba ix hb hi dp) (by decide) (by decide) (reg_no s hs) (reg_ne s) (addr_chars ha) (addr_ne _ _ _ _ _)
  | bin b d s hb hd hs =>
    obtain ⟨k, rfl⟩ := fin8 hb
    exact .two (atW binW (((k.val : Nat) : Int) + 1 - 1)) (regT s) (regT d) (bin_look k).1 (bin_ne k) (reg_no s hs) (reg_ne s) (reg_no d hd) (reg_ne d)
  | binI b d n hb hd hn =>
    obtain ⟨k, rfl⟩ := fin8 hb
    exact .two (atW binW (((k.val : Nat) : Int) + 1 - 1)) (immT n) (regT d) (bin_look k).1 (bin_ne k) (imm_chars n) (imm_ne n) (reg_no d hd) (reg_ne d)
  | shf h d hh hd =>
    obtain ⟨k, rfl⟩ := fin5 hh
    exact .two (atW shfW (((k.val : Nat) : Int) + 1 - 1)) [37, 99, 108] (regT d) (shf_look k).1 (shf_ne k) (clean_ch (by decide)) (by decide) (reg_no d hd) (reg_ne d)
  | shfI h d n hh hd hn =>
    obtain ⟨k, rfl⟩ := fin5 hh
    exact .two (atW shfW (((k.val : Nat) : Int) + 1 - 1)) (immT n) (regT d) (shf_look k).1 (shf_ne k) (imm_chars n) (imm_ne n) (reg_no d hd) (reg_ne d)
  | one op d ho hd =>
    rcases ho with rfl | rfl
    · exact .one [110, 111, 116, 113] (regT d) (by decide) (by decide) (reg_no d hd) (reg_ne d)
    · exact .one [110, 101, 103, 113] (regT d) (by decide) (by decide) (reg_no d hd) (reg_ne d)
  | cmpI d n hd hn => exact .two [99, 109, 112, 113] (immT n) (regT d) (by decide) (by decide) (imm_chars n) (imm_ne n) (reg_no d hd) (reg_ne d)
  | setc c d hc hd =>
    obtain ⟨k, rfl⟩ := fin16 hc
    exact .one ([115, 101, 116] ++ atW cndW ((k.val : Nat) : Int)) (lowT d) (set_look k).1 (List.cons_ne_nil _ _) (low_no d hd) (low_ne d)
  | movc c d s hc hd hs =>
    obtain ⟨k, rfl⟩ := fin16 hc
    exact .two ([99, 109, 111, 118] ++ atW cndW ((k.val : Nat) : Int)) (regT s) (regT d) (cmv_look k).1 (List.cons_ne_nil _ _) (reg_no s hs) (reg_ne s) (reg_no d hd) (reg_ne d)
  | jump n hn => exact .one [106, 109, 112] (lblT n) (by decide) (by decide) (lbl_chars n) (lbl_ne n)
  | brc c n hc hn =>
    obtain ⟨k, rfl⟩ := fin16 hc
    exact .one ([106] ++ atW cndW ((k.val : Nat) : Int)) (lblT n) (jcc_look k).1 (List.cons_ne_nil _ _) (lbl_chars n) (lbl_ne n)
  | lab n hn => exact absurd rfl hl
  | ret => exact .bare
theorem Shape.chars {s : List UInt8} (h : Shape s) : ∀ b ∈ s, b ≠ 10 ∧ b ≠ 58 := by
  cases h with
  | bare => decide
  | one w p hw hn hp hp0 => exact line_ch2 (fun b hb => (clean_ch hw b hb).2) (fun b hb => (hp b hb).2)
  | two w p q hw hn hp hp0 hq hq0 => exact line_ch2 (fun b hb => (clean_ch hw b hb).2) (two_ch2 hp hq)
theorem line_no10 {i : In} (h : Form i) : ∀ b ∈ lineL i, b ≠ 10 := by
  by_cases hl : i.op = 19
  · cases h with
    | lab n hn =>
      intro b hb
      have e : lineL ⟨19, 0, 0, 0, 0, 0, 0, 0, 0, false, false, 0, n⟩ = lblT n ++ [58] := rfl
      rw [e] at hb
      rcases List.mem_append.1 hb with hb | hb
      · exact (lbl_chars n b hb).2.1
      · rw [List.mem_singleton.1 hb]; decide
    | two op d s ho hd hs => rcases ho with h | h | h | h <;> (dsimp only at hl; omega)
    | one op d ho hd => rcases ho with h | h <;> (dsimp only at hl; omega)
    | _ => first | (dsimp only at hl; omega) | (simp at hl)
  · exact fun b hb => ((shape_line h hl).chars b hb).1
theorem line_no58 {i : In} (h : Form i) (hl : i.op ≠ 19) : ∀ b ∈ lineL i, b ≠ 58 := fun b hb => ((shape_line h hl).chars b hb).2
theorem line_last {i : In} (h : Form i) : (lineL i).getLast? = some 58 ↔ i.op = 19 := by
  constructor
  · intro e
    refine Decidable.byContradiction fun hl => ?_
    exact line_no58 h hl 58 (List.mem_of_getLast? e) rfl
  · intro e
    cases h with
    | lab n hn =>
      show (lblT n ++ [58]).getLast? = some 58
      simp
    | two op d s ho hd hs => rcases ho with h | h | h | h <;> (dsimp only at e; omega)
    | one op d ho hd => rcases ho with h | h <;> (dsimp only at e; omega)
    | _ => first | (dsimp only at e; omega) | (simp at e)
/-- what a label's line is read as -/
def labP (s : List UInt8) : In := { inZ 19 with lb := lblP s.dropLast }
theorem labP_line {i : In} (h : Form i) (hl : i.op = 19) : labP (lineL i) = i := by
  cases h with
  | lab n hn =>
    show labP (lblT n ++ [58]) = _
    unfold labP
    rw [List.dropLast_concat, lbl_back n hn]
    rfl
  | two op d s ho hd hs => rcases ho with h | h | h | h <;> (dsimp only at hl; omega)
  | one op d ho hd => rcases ho with h | h <;> (dsimp only at hl; omega)
  | _ => first | (dsimp only at hl; omega) | (simp at hl)
theorem IsLine.form {s : List UInt8} {i : In} (h : IsLine s i) : Form i := form_of h.1 h.2.1
theorem IsLine.inj {s : List UInt8} {i j : In} (h : IsLine s i) (g : IsLine s j) : i = j := by
  have hi := h.form
  have hj := g.form
  by_cases e : i.op = 19
  · have e2 : j.op = 19 := (line_last hj).1 (by rw [g.2.2, ← h.2.2]; exact (line_last hi).2 e)
    rw [← labP_line hi e, ← labP_line hj e2, h.2.2, g.2.2]
  · have e2 : j.op ≠ 19 := fun e3 => e ((line_last hi).1 (by rw [h.2.2, ← g.2.2]; exact (line_last hj).2 e3))
    have h1 := readF_line hi e
    have h2 := readF_line hj e2
    rw [h.2.2] at h1
    rw [g.2.2, h1] at h2
    exact Option.some.inj h2
theorem IsLine.cands {s : List UInt8} {i : In} (h : IsLine s i) (hl : s.getLast? ≠ some 58) : i ∈ candsL s := by
  have hi := h.form
  have e : i.op ≠ 19 := fun e => hl (by rw [← h.2.2]; exact (line_last hi).2 e)
  have h1 := readF_line hi e
  rw [h.2.2] at h1
  exact readF_cands h1
theorem IsLine.lab {s : List UInt8} {i : In} (h : IsLine s i) (hl : s.getLast? = some 58) : labP s = i := by
  have hi := h.form
  have e : i.op = 19 := (line_last hi).1 (by rw [h.2.2]; exact hl)
  rw [← h.2.2]
  exact labP_line hi e
/-- the instruction whose line it is, if there is one -/
def isL (s : List UInt8) (i : In) : Bool := mayB i && decide (i.im < 18446744073709551616) && decide (lineL i = s)
def triesL (s : List UInt8) : List In := if s.getLast? = some 58 then [labP s] else candsL s
def unlL (s : List UInt8) : Option In := (triesL s).find? (isL s)
theorem isL_iff {s : List UInt8} {j : In} : isL s j = true ↔ IsLine s j := by
  unfold IsLine isL
  simp only [Bool.and_eq_true, decide_eq_true_eq]
  exact ⟨fun h => ⟨h.1.1, h.1.2, h.2⟩, fun h => ⟨⟨h.1, h.2.1⟩, h.2.2⟩⟩
theorem IsLine.tries {s : List UInt8} {i : In} (h : IsLine s i) : i ∈ triesL s := by
  unfold triesL
  split
  · rw [h.lab (by assumption)]; simp
  · exact h.cands (by assumption)
theorem find_iff {s : List UInt8} {L : List In} (hL : ∀ i, IsLine s i → i ∈ L) {i : In} : L.find? (isL s) = some i ↔ IsLine s i := by
  constructor
  · intro h
    exact isL_iff.1 (List.find?_some h)
  · intro h
    cases hf : L.find? (isL s) with
    | none => exact absurd (isL_iff.2 h) (List.find?_eq_none.1 hf i (hL i h))
    | some j => rw [(isL_iff.1 (List.find?_some hf)).inj h]
theorem unl_iff {s : List UInt8} {i : In} : unlL s = some i ↔ IsLine s i := find_iff fun i h => h.tries
theorem unl_none {s : List UInt8} : unlL s = none ↔ ∀ i, ¬ IsLine s i := by
  constructor
  · intro h i hi
    rw [unl_iff.2 hi] at h
    cases h
  · intro h
    cases hu : unlL s with
    | none => rfl
    | some i => exact absurd (unl_iff.1 hu) (h i)

/-! the reference's guesses -/
def unregR (l : List UInt8) : Int := if l.head? = some 37 then ((max ((idxW regW l.tail).getD 0) ((idxW lowW l.tail).getD 0) : Nat) : Int) else 0
def unaddrR (l : List UInt8) : Ad :=
  let p := cutL 44 (cutL 41 (cutL 40 l).2).1
  { ba := if p.1 = [] then 0 else unregR p.1, hb := !p.1.isEmpty, ix := if p.2 = [] then 0 else unregR (cutL 44 p.2).1, hi := !p.2.isEmpty, dp := sgn (numP (cutL 40 l).1) }
def lastCS : List UInt8 → Option (List UInt8 × List UInt8)
  | [] => none
  | b :: l => match lastCS l with
    | some p => some (b :: p.1, p.2)
    | none => if b = 44 ∧ l.head? = some 32 then some ([], l.tail) else none
def atA (i : In) (a : Ad) : In := { i with ba := a.ba, ix := a.ix, hb := a.hb, hi := a.hi, dp := a.dp }
def guess1 (a d : Int) (n : Nat) (lab at_ : Int) (A1 A2 : Ad) : List In :=
  [{ inZ 1 with sr := a, ds := d }, { inZ 2 with im := n, ds := d }, atA { inZ 3 with ds := d } A1, atA { inZ 4 with sr := a } A2, { inZ 9 with ds := d }, { inZ 10 with ds := d }, { inZ 11 with sr := a, ds := d }, { inZ 12 with sr := a, ds := d },
   { inZ 13 with im := n, ds := d }, { inZ 15 with sr := a, ds := d }, { inZ 17 with lb := lab }, { inZ 19 with lb := at_ }, inZ 20]
def guess2 (b h a d : Int) (n : Nat) : List In := [{ inZ 5 with bn := b, sr := a, ds := d }, { inZ 6 with bn := b, im := n, ds := d }, { inZ 7 with sh := h, ds := d }, { inZ 8 with sh := h, im := n, ds := d }]
def guess3 (a d lab : Int) (c : Int) : List In := [{ inZ 14 with cd := c, ds := d }, { inZ 16 with cd := c, sr := a, ds := d }, { inZ 18 with cd := c, lb := lab }]
def binR : List (List UInt8) := [] :: binW
def shfR : List (List UInt8) := [] :: shfW
def guessC (a d lab : Int) (k : Nat) : List In := (List.range k).flatMap fun c => guess3 a d lab (c : Nat)
def guessL (w : List UInt8) (a d : Int) (n : Nat) (lab at_ : Int) (A1 A2 : Ad) : List In :=
  guess1 a d n lab at_ A1 A2 ++ guess2 ((idxW binR w).getD 0 : Nat) ((idxW shfR w).getD 0 : Nat) a d n ++ guessC a d lab 16
structure Gs where
  w : List UInt8
  f : List UInt8
  l : List UInt8
  rest : List UInt8
def gsOf (s : List UInt8) : Gs := ⟨(cutL 32 s).1, ((lastCS (cutL 32 s).2).getD ((cutL 32 s).2, (cutL 32 s).2)).1, ((lastCS (cutL 32 s).2).getD ((cutL 32 s).2, (cutL 32 s).2)).2, (cutL 32 s).2⟩
def numG (l : List UInt8) : Nat := if l.head? = some 36 then numP l.tail else 0
def labG (l : List UInt8) : Nat := if l = [] then 0 else (numS l.tail).getD 0
def atG (s : List UInt8) : Nat := if 2 < s.length then (numS s.tail.dropLast).getD 0 else 0
def guessesL (s : List UInt8) : List In :=
  let g := gsOf s
  if 1048576 < labG g.rest ∨ 1048576 < atG s then [] else guessL g.w (unregR g.f) (unregR g.l) (numG g.f) (labG g.rest) (atG s) (unaddrR g.f) (unaddrR g.l)
theorem numS_bad {l : List UInt8} {b : UInt8} (hb : b ∈ l) (h : digB b = false) : numS l = none := by
  unfold numS
  refine numI_zero ?_
  unfold canonB
  rw [show (⟨l.toArray⟩ : ByteArray).data.toList = l from rfl, show l.all digB = false from List.all_eq_false.2 ⟨b, hb, by rw [h]; simp⟩, Bool.and_false]
theorem unreg_reg16 : ∀ k : Fin 16, unregR (regT ((k.val : Nat) : Int)) = (k.val : Nat) := by decide +kernel
theorem unreg_low16 : ∀ k : Fin 16, unregR (lowT ((k.val : Nat) : Int)) = (k.val : Nat) := by decide +kernel
theorem unreg_reg {r : Int} (h : 0 ≤ r ∧ r ≤ 15) : unregR (regT r) = r := by obtain ⟨k, rfl⟩ := fin16 h; exact unreg_reg16 k
theorem unreg_low {r : Int} (h : 0 ≤ r ∧ r ≤ 15) : unregR (lowT r) = r := by obtain ⟨k, rfl⟩ := fin16 h; exact unreg_low16 k
theorem rest_cut16 : ∀ (b x : Fin 16) (hb hi : Bool), cutL 41 (restT ((b.val : Nat) : Int) ((x.val : Nat) : Int) hb hi ++ [41]) = (restT ((b.val : Nat) : Int) ((x.val : Nat) : Int) hb hi, []) ∧
    cutL 44 (restT ((b.val : Nat) : Int) ((x.val : Nat) : Int) hb hi) = ((if hb then regT ((b.val : Nat) : Int) else []), (if hi then regT ((x.val : Nat) : Int) ++ [44, 56] else [])) ∧ cutL 44 (regT ((x.val : Nat) : Int) ++ [44, 56]) = (regT ((x.val : Nat) : Int), [56]) := by decide +kernel
theorem unaddr_back {ba ix dp : Int} {hb hi : Bool} (h : addrB ba ix hb hi dp = true) : unaddrR (addrT ba ix hb hi dp) = ⟨ba, ix, hb, hi, dp⟩ := by
  obtain ⟨h1, h2, h3, h4, h5, h6, h7⟩ := addr_parts h
  have hdp := numP_itoaI dp (by omega) (by omega)
  have hno : (40 : UInt8) ∉ Lib.itoa dp := itoa_no dp 40 (by decide) (by decide)
  cases hg : (!hb && !hi) with
  | true =>
    have e : addrT ba ix hb hi dp = Lib.itoa dp := by unfold addrT; rw [if_pos hg]
    obtain ⟨rfl, rfl⟩ : hb = false ∧ hi = false := by cases hb <;> cases hi <;> simp_all
    obtain rfl := h2 rfl
    obtain rfl := h4 rfl
    unfold unaddrR
    rw [e, cut_none 40 _ hno]
    simp [cutL, hdp]
  | false =>
    have e := addrT_two (ba := ba) (ix := ix) (dp := dp) hg
    have hd : sgn (numP (if dp = 0 then [] else Lib.itoa dp)) = dp := by
      split
      · rename_i h0
        rw [h0]
        decide +kernel
      · exact hdp
    have hn2 : (40 : UInt8) ∉ (if dp = 0 then ([] : List UInt8) else Lib.itoa dp) := by
      split
      · simp
      · exact hno
    have hr := reg_ne ba
    have hub := unreg_reg h1
    have hux := unreg_reg h3
    obtain ⟨hc1, hc2, hc3⟩ : cutL 41 (restT ba ix hb hi ++ [41]) = (restT ba ix hb hi, []) ∧ cutL 44 (restT ba ix hb hi) = ((if hb then regT ba else []), (if hi then regT ix ++ [44, 56] else [])) ∧ cutL 44 (regT ix ++ [44, 56]) = (regT ix, [56]) := by
      obtain ⟨b, rfl⟩ := fin16 h1
      obtain ⟨x, rfl⟩ := fin16 h3
      exact rest_cut16 b x hb hi
    unfold unaddrR
    rw [e, cut_mid 40 _ _ hn2]
    dsimp only
    rw [hc1]
    dsimp only
    rw [hc2, hd]
    cases hb <;> cases hi
    · cases hg
    · simp [hub, hux, hc3]
      exact (h2 rfl).symm
    · simp [hub, hux, hc3, hr]
      exact (h4 rfl).symm
    · simp [hub, hux, hc3, hr]
theorem last_none : ∀ l : List UInt8, noSp l → lastCS l = none
  | [], _ => rfl
  | b :: l, h => by
    have h2 : ¬ (b = 44 ∧ l.head? = some 32) := fun e => by
      cases l with
      | nil => cases e.2
      | cons c r =>
        have := e.2
        injection this with e
        exact h c (by simp) e
    rw [lastCS, last_none l (fun x hx => h x (List.mem_cons_of_mem _ hx))]
    exact if_neg h2
theorem last_hit (q : List UInt8) (hq : noSp q) : ∀ p : List UInt8, lastCS (p ++ 44 :: 32 :: q) = some (p, q)
  | [] => by
    rw [List.nil_append, lastCS, lastCS, last_none q hq]
    simp
  | b :: p => by rw [List.cons_append, lastCS, last_hit q hq p]
theorem gs_two {w p q : List UInt8} (hw : noSp w) (hq : noSp q) : gsOf (w ++ 32 :: (p ++ 44 :: 32 :: q)) = ⟨w, p, q, p ++ 44 :: 32 :: q⟩ := by
  unfold gsOf
  rw [cut_mid 32 w _ (fun h => hw 32 h rfl), last_hit q hq p]
  rfl
theorem gs_one {w p : List UInt8} (hw : noSp w) (hp : noSp p) : gsOf (w ++ 32 :: p) = ⟨w, p, p, p⟩ := by
  unfold gsOf
  rw [cut_mid 32 w _ (fun h => hw 32 h rfl), last_none p hp]
  rfl
theorem at_mid {w r : List UInt8} (hw : w ≠ []) (hr : r ≠ []) : atG (w ++ 32 :: r) = 0 := by
  obtain ⟨b, w', rfl⟩ := List.exists_cons_of_ne_nil hw
  have hm : (32 : UInt8) ∈ ((b :: w') ++ 32 :: r).tail.dropLast := by
    rw [List.cons_append, List.tail_cons, List.dropLast_append_of_ne_nil (by simp), List.dropLast_cons_of_ne_nil hr]
    simp
  unfold atG
  rw [numS_bad hm (by decide)]
  simp
theorem lab_two {p q : List UInt8} (hp : p ≠ []) : labG (p ++ 44 :: 32 :: q) = 0 := by
  obtain ⟨b, p', rfl⟩ := List.exists_cons_of_ne_nil hp
  unfold labG
  rw [List.cons_append, List.tail_cons, numS_bad (b := 32) (by simp) (by decide)]
  simp
theorem lab_reg16 : ∀ k : Fin 16, labG (regT ((k.val : Nat) : Int)) = 0 ∧ labG (lowT ((k.val : Nat) : Int)) = 0 := by decide +kernel
theorem lab_lbl {n : Int} (h : 0 ≤ n ∧ n ≤ 1048576) : (labG (lblT n) : Int) = n := by
  obtain ⟨k, rfl⟩ := Int.eq_ofNat_of_zero_le h.1
  unfold labG lblT
  rw [if_neg (by simp), List.tail_cons, Lib.itoa_nonneg, numS_dec k (by omega)]
  rfl
theorem num_imm (x : Nat) (hx : x < 18446744073709551616) : numG (immT x) = x := by unfold numG immT; rw [if_pos (show (36 :: Lib.itoa (sgn x)).head? = some 36 from rfl), List.tail_cons, numP_itoa x hx]
theorem num_immU (x : Nat) (hx : x < 18446744073709551616) : numG (36 :: Lib.decDigits x) = x := by unfold numG; rw [if_pos (show (36 :: Lib.decDigits x).head? = some 36 from rfl), List.tail_cons, numP_dec x hx]
theorem guesses_two {w p q : List UInt8} {i : In} (hw : clean w = true) (hn : w ≠ []) (hp0 : p ≠ []) (hq : noSp q) (h : i ∈ guessL w (unregR p) (unregR q) (numG p) 0 0 (unaddrR p) (unaddrR q)) : i ∈ guessesL (w ++ 32 :: (p ++ 44 :: 32 :: q)) := by
  unfold guessesL
  rw [gs_two (clean_sp hw) hq]
  dsimp only
  rw [lab_two hp0, at_mid hn (by simp)]
  exact h
theorem guesses_one {w p : List UInt8} {i : In} (hw : clean w = true) (hn : w ≠ []) (hp0 : p ≠ []) (hp : noSp p) (hl : labG p ≤ 1048576) (h : i ∈ guessL w (unregR p) (unregR p) (numG p) (labG p) 0 (unaddrR p) (unaddrR p)) : i ∈ guessesL (w ++ 32 :: p) := by
  unfold guessesL
  rw [gs_one (clean_sp hw) hp]
  dsimp only
  rw [at_mid hn hp0, if_neg (by omega)]
  exact h
theorem in1 {w : List UInt8} {a d : Int} {n : Nat} {lab at_ : Int} {A1 A2 : Ad} {i : In} (h : i ∈ guess1 a d n lab at_ A1 A2) : i ∈ guessL w a d n lab at_ A1 A2 := by unfold guessL; simp [h]
theorem in2 {w : List UInt8} {a d : Int} {n : Nat} {lab at_ : Int} {A1 A2 : Ad} {i : In} (h : i ∈ guess2 ((idxW binR w).getD 0 : Nat) ((idxW shfR w).getD 0 : Nat) a d n) : i ∈ guessL w a d n lab at_ A1 A2 := by unfold guessL; simp [h]
theorem in3 {w : List UInt8} {a d : Int} {n : Nat} {lab at_ : Int} {A1 A2 : Ad} {i : In} (k : Fin 16) (h : i ∈ guess3 a d lab ((k.val : Nat) : Int)) : i ∈ guessL w a d n lab at_ A1 A2 := by
  unfold guessL guessC
  refine List.mem_append.2 (.inr (List.mem_flatMap.2 ⟨k.val, ?_, h⟩))
  simp
theorem bin_find : ∀ k : Fin 8, (((idxW binR (atW binW (((k.val : Nat) : Int) + 1 - 1))).getD 0 : Nat) : Int) = ((k.val : Nat) : Int) + 1 := by decide +kernel
theorem shf_find : ∀ k : Fin 5, (((idxW shfR (atW shfW (((k.val : Nat) : Int) + 1 - 1))).getD 0 : Nat) : Int) = ((k.val : Nat) : Int) + 1 := by decide +kernel
theorem lab_reg {r : Int} (h : 0 ≤ r ∧ r ≤ 15) : labG (regT r) ≤ 1048576 := by obtain ⟨k, rfl⟩ := fin16 h; rw [(lab_reg16 k).1]; omega
theorem lab_low {r : Int} (h : 0 ≤ r ∧ r ≤ 15) : labG (lowT r) ≤ 1048576 := by obtain ⟨k, rfl⟩ := fin16 h; rw [(lab_reg16 k).2]; omega
theorem guess_line {i : In} (h : Form i) : i ∈ guessesL (lineL i) := by
  cases h with
  | two op d s ho hd hs =>
    rcases ho with rfl | rfl | rfl | rfl
    · exact guesses_two (p := regT s) (q := regT d) (w := [109, 111, 118, 113]) (by decide) (by decide) (reg_ne s) (reg_sp hd) (in1 (by rw [unreg_reg hs, unreg_reg hd]; simp [guess1, inZ, atA]))
    · exact guesses_two (p := regT s) (q := regT d) (w := [99, 109, 112, 113]) (by decide) (by decide) (reg_ne s) (reg_sp hd) (in1 (by rw [unreg_reg hs, unreg_reg hd]; simp [guess1, inZ, atA]))
    · exact guesses_two (p := regT s) (q := regT d) (w := [116, 101, 115, 116, 113]) (by decide) (by decide) (reg_ne s) (reg_sp hd) (in1 (by rw [unreg_reg hs, unreg_reg hd]; simp [guess1, inZ, atA]))
    · exact guesses_two (p := lowT s) (q := regT d) (w := [109, 111, 118, 122, 98, 113]) (by decide) (by decide) (low_ne s) (reg_sp hd) (in1 (by rw [unreg_low hs, unreg_reg hd]; simp [guess1, inZ, atA]))
  | set d n hd hn => exact guesses_two (p := 36 :: Lib.decDigits n) (q := regT d) (w := [109, 111, 118, 97, 98, 115, 113]) (by decide) (by decide) (by simp) (reg_sp hd) (in1 (by rw [unreg_reg hd, num_immU n hn]; simp [guess1, inZ, atA]))
  | load d ba ix hb hi dp hd ha => exact guesses_two (p := addrT ba ix hb hi dp) (q := regT d) (w := [109, 111, 118, 113]) (by decide) (by decide) (addr_ne _ _ _ _ _) (reg_sp hd) (in1 (by rw [unreg_reg hd, unaddr_back ha]; simp [guess1, inZ, atA]))
  | store s ba ix hb hi dp hs ha => exact guesses_two (p := regT s) (q := addrT ba ix hb hi dp) (w := [109, 111, 118, 113]) (by decide) (by decide) (reg_ne s) (addr_sp ha) (in1 (by rw [unreg_reg hs, unaddr_back ha]; simp [guess1, inZ, atA]))
  | bin b d s hb hd hs =>
    obtain ⟨k, rfl⟩ := fin8 hb
    exact guesses_two (p := regT s) (q := regT d) (w := atW binW (((k.val : Nat) : Int) + 1 - 1)) (bin_look k).1 (bin_ne k) (reg_ne s) (reg_sp hd) (in2 (by rw [unreg_reg hs, unreg_reg hd, bin_find k]; simp [guess2, inZ]))
  | binI b d n hb hd hn =>
    obtain ⟨k, rfl⟩ := fin8 hb
    exact guesses_two (p := immT n) (q := regT d) (w := atW binW (((k.val : Nat) : Int) + 1 - 1)) (bin_look k).1 (bin_ne k) (imm_ne n) (reg_sp hd) (in2 (by rw [unreg_reg hd, num_imm n (shortN_lt hn), bin_find k]; simp [guess2, inZ]))
  | shf h d hh hd =>
    obtain ⟨k, rfl⟩ := fin5 hh
    exact guesses_two (p := [37, 99, 108]) (q := regT d) (w := atW shfW (((k.val : Nat) : Int) + 1 - 1)) (shf_look k).1 (shf_ne k) (by decide) (reg_sp hd) (in2 (by rw [unreg_reg hd, shf_find k]; simp [guess2, inZ]))
  | shfI h d n hh hd hn =>
    obtain ⟨k, rfl⟩ := fin5 hh
    exact guesses_two (p := immT n) (q := regT d) (w := atW shfW (((k.val : Nat) : Int) + 1 - 1)) (shf_look k).1 (shf_ne k) (imm_ne n) (reg_sp hd) (in2 (by rw [unreg_reg hd, num_imm n (by omega), shf_find k]; simp [guess2, inZ]))
  | one op d ho hd =>
    rcases ho with rfl | rfl
    · exact guesses_one (p := regT d) (w := [110, 111, 116, 113]) (by decide) (by decide) (reg_ne d) (reg_sp hd) (lab_reg hd) (in1 (by rw [unreg_reg hd]; simp [guess1, inZ, atA]))
    · exact guesses_one (p := regT d) (w := [110, 101, 103, 113]) (by decide) (by decide) (reg_ne d) (reg_sp hd) (lab_reg hd) (in1 (by rw [unreg_reg hd]; simp [guess1, inZ, atA]))
  | cmpI d n hd hn => exact guesses_two (p := immT n) (q := regT d) (w := [99, 109, 112, 113]) (by decide) (by decide) (imm_ne n) (reg_sp hd) (in1 (by rw [unreg_reg hd, num_imm n (shortN_lt hn)]; simp [guess1, inZ, atA]))
  | setc c d hc hd =>
    obtain ⟨k, rfl⟩ := fin16 hc
    exact guesses_one (p := lowT d) (set_look k).1 (List.cons_ne_nil _ _) (low_ne d) (low_sp hd) (lab_low hd) (in3 k (by rw [unreg_low hd]; simp [guess3, inZ]))
  | movc c d s hc hd hs =>
    obtain ⟨k, rfl⟩ := fin16 hc
    exact guesses_two (p := regT s) (q := regT d) (cmv_look k).1 (List.cons_ne_nil _ _) (reg_ne s) (reg_sp hd) (in3 k (by rw [unreg_reg hs, unreg_reg hd]; simp [guess3, inZ]))
  | jump n hn =>
    have hh := lab_lbl hn
    exact guesses_one (p := lblT n) (w := [106, 109, 112]) (by decide) (by decide) (lbl_ne n) (fun b hb => (lbl_chars n b hb).1) (by omega) (in1 (by rw [hh]; simp [guess1, inZ, atA]))
  | brc c n hc hn =>
    obtain ⟨k, rfl⟩ := fin16 hc
    have hh := lab_lbl hn
    exact guesses_one (p := lblT n) (jcc_look k).1 (List.cons_ne_nil _ _) (lbl_ne n) (fun b hb => (lbl_chars n b hb).1) (by omega) (in3 k (by rw [hh]; simp [guess3, inZ]))
  | lab n hn =>
    obtain ⟨k, rfl⟩ := Int.eq_ofNat_of_zero_le hn.1
    have hsp : (32 : UInt8) ∉ lblT (k : Int) ++ [58] := fun h => (app_chars (lbl_chars (k : Int)) (m := []) (by simp) 32 (by simpa using h)).1 rfl
    have hat : atG (lblT (k : Int) ++ [58]) = k := by
      unfold atG lblT
      rw [Lib.itoa_nonneg, if_pos (by obtain ⟨c, r, e, _⟩ := dec_cons k; rw [e]; simp), List.cons_append, List.tail_cons, List.dropLast_concat, numS_dec k (by omega)]
      rfl
    show _ ∈ guessesL (lblT (k : Int) ++ [58])
    unfold guessesL gsOf
    rw [cut_none 32 _ hsp, hat]
    have hl0 : labG [] = 0 := rfl
    dsimp only
    rw [hl0, if_neg (by omega)]
    exact in1 (by simp [guess1, inZ, atA])
  | ret =>
    have h : guessesL (lineL ⟨20, 0, 0, 0, 0, 0, 0, 0, 0, false, false, 0, 0⟩) = guessL [114, 101, 116] 0 0 0 0 0 (unaddrR []) (unaddrR []) := by decide +kernel
    rw [h]
    exact in1 (by simp [guess1, inZ, atA])
/-- the reference's answer -/
def unlR (s : List UInt8) : Option In := (guessesL s).find? (isL s)
theorem unlR_iff {s : List UInt8} {i : In} : unlR s = some i ↔ IsLine s i := find_iff fun i h => by have := guess_line h.form; rwa [h.2.2] at this
theorem unlR_eq (s : List UInt8) : unlR s = unlL s := by
  cases h : unlL s with
  | some i => exact unlR_iff.2 (unl_iff.1 h)
  | none =>
    cases g : unlR s with
    | none => rfl
    | some i => rw [unl_iff.2 (unlR_iff.1 g)] at h; cases h

end Go.Proofs.YtmimmnjdgpdjlaaGreatDoor
namespace Go.Proofs.YtmimmnjdgpdjlaaGreatDoor
open Go.RowKit Go.Lib

/-! ## labels -/
def labsL (L : List In) : List Int := (L.filter fun i => decide (i.op = 19)).map (·.lb)
def needB (L : List In) (i : In) : Bool := !(decide (i.op = 17) || decide (i.op = 18)) || (labsL L).contains i.lb
/-- code that may be -/
def mayAll (L : List In) : Bool := decide (L.length ≤ 1048576) && decide (labsL L).Nodup && L.all fun i => mayB i && needB L i
theorem labs_app (L M : List In) : labsL (L ++ M) = labsL L ++ labsL M := by simp [labsL]
theorem labs_one_yes {i : In} (h : i.op = 19) : labsL [i] = [i.lb] := by simp [labsL, h]
theorem labs_one_no {i : In} (h : ¬ i.op = 19) : labsL [i] = [] := by simp [labsL, h]
theorem labs_cons_yes {i : In} (L : List In) (h : i.op = 19) : labsL (i :: L) = i.lb :: labsL L := by simp [labsL, h]
theorem labs_cons_no {i : In} (L : List In) (h : ¬ i.op = 19) : labsL (i :: L) = labsL L := by simp [labsL, h]
theorem labs_len (L : List In) : (labsL L).length ≤ L.length := by unfold labsL; rw [List.length_map]; exact List.length_filter_le _ _
theorem mayAll_parts {L : List In} (h : mayAll L = true) : L.length ≤ 1048576 ∧ (labsL L).Nodup ∧ ∀ i ∈ L, mayB i = true ∧ needB L i = true := by
  unfold mayAll at h
  simp only [Bool.and_eq_true, decide_eq_true_eq, List.all_eq_true] at h
  exact ⟨h.1.1, h.1.2, h.2⟩
theorem mayAll_long {L : List In} (h : 1048576 < L.length) : mayAll L = false := by
  unfold mayAll
  rw [decide_eq_false (by omega), Bool.false_and, Bool.false_and]
theorem mayAll_dup {L : List In} (h : ¬ (labsL L).Nodup) : mayAll L = false := by
  unfold mayAll
  rw [decide_eq_false h, Bool.and_false, Bool.false_and]
theorem mayAll_bad {L : List In} {i : In} (hi : i ∈ L) (h : (mayB i && needB L i) = false) : mayAll L = false := by
  unfold mayAll
  rw [show (L.all fun i => mayB i && needB L i) = false from List.all_eq_false.2 ⟨i, hi, by rw [h]; simp⟩, Bool.and_false]
theorem mayAll_yes {L : List In} (h : L.length ≤ 1048576) (hn : (labsL L).Nodup) (ha : ∀ i ∈ L, mayB i = true ∧ needB L i = true) : mayAll L = true := by
  unfold mayAll
  rw [decide_eq_true h, decide_eq_true hn, Bool.true_and, Bool.true_and, List.all_eq_true]
  intro i hi
  rw [(ha i hi).1, (ha i hi).2]
  rfl
/-- the reference's Where -/
def whereL (n : Int) : List In → Option Nat
  | [] => none
  | i :: L => if i.op = 19 ∧ i.lb = n then some 0 else (whereL n L).map (· + 1)
theorem where_none {n : Int} : ∀ {L : List In}, whereL n L = none ↔ n ∉ labsL L
  | [] => by simp [whereL, labsL]
  | i :: L => by
    unfold whereL
    by_cases h : i.op = 19
    · rw [labs_cons_yes L h]
      by_cases hn : i.lb = n
      · rw [if_pos ⟨h, hn⟩]; simp [hn]
      · rw [if_neg (fun e => hn e.2), Option.map_eq_none_iff, where_none (L := L)]
        simp [Ne.symm hn]
    · rw [labs_cons_no L h, if_neg (fun e => h e.1), Option.map_eq_none_iff, where_none (L := L)]
theorem where_some {n : Int} : ∀ {L : List In} {k : Nat}, whereL n L = some k → ∃ i, L[k]? = some i ∧ i.op = 19 ∧ i.lb = n
  | [], k, h => by simp [whereL] at h
  | i :: L, k, h => by
    unfold whereL at h
    by_cases e : i.op = 19 ∧ i.lb = n
    · rw [if_pos e] at h
      obtain rfl : 0 = k := Option.some.inj h
      exact ⟨i, rfl, e⟩
    · rw [if_neg e] at h
      obtain ⟨j, hj, rfl⟩ := Option.map_eq_some_iff.1 h
      obtain ⟨x, hx, h2⟩ := where_some hj
      exact ⟨x, by simpa using hx, h2⟩
theorem where_lt {n : Int} {L : List In} {k : Nat} (h : whereL n L = some k) : k < L.length := by
  obtain ⟨i, hi, _⟩ := where_some h
  exact (List.getElem?_eq_some_iff.1 hi).1
theorem lab_mem {L : List In} {k : Nat} {i : In} (h : L[k]? = some i) (h19 : i.op = 19) : i.lb ∈ labsL L := by
  unfold labsL
  exact List.mem_map.2 ⟨i, List.mem_filter.2 ⟨List.mem_of_getElem? h, by simp [h19]⟩, rfl⟩
theorem where_at : ∀ {L : List In} {k : Nat} {i : In}, (labsL L).Nodup → L[k]? = some i → i.op = 19 → whereL i.lb L = some k
  | [], k, i, _, h, _ => by simp at h
  | j :: L, k, i, hn, h, h19 => by
    unfold whereL
    cases k with
    | zero =>
      obtain rfl : j = i := by simpa using h
      rw [if_pos ⟨h19, rfl⟩]
    | succ k =>
      have h' : L[k]? = some i := by simpa using h
      have hm := lab_mem h' h19
      by_cases hj : j.op = 19
      · rw [labs_cons_yes L hj, List.nodup_cons] at hn
        rw [if_neg (fun e => hn.1 (by rw [e.2]; exact hm)), where_at hn.2 h' h19]
        rfl
      · rw [labs_cons_no L hj] at hn
        rw [if_neg (fun e => hj e.1), where_at hn h' h19]
        rfl
theorem nodup_where : ∀ {L : List In}, (∀ (k : Nat) (i : In), L[k]? = some i → i.op = 19 → whereL i.lb L = some k) → (labsL L).Nodup
  | [], _ => by simp [labsL]
  | j :: L, h => by
    have hr : ∀ (k : Nat) (i : In), L[k]? = some i → i.op = 19 → whereL i.lb L = some k ∧ ¬ (j.op = 19 ∧ j.lb = i.lb) := fun k i hi h19 => by
      have := h (k + 1) i (by simpa using hi) h19
      unfold whereL at this
      by_cases e : j.op = 19 ∧ j.lb = i.lb
      · rw [if_pos e] at this; cases this
      · rw [if_neg e] at this
        obtain ⟨k', hk', e2⟩ := Option.map_eq_some_iff.1 this
        have : k' = k := by omega
        exact ⟨by rw [hk', this], e⟩
    have ih := nodup_where (L := L) fun k i hi h19 => (hr k i hi h19).1
    by_cases hj : j.op = 19
    · rw [labs_cons_yes L hj, List.nodup_cons]
      refine ⟨fun hm => ?_, ih⟩
      unfold labsL at hm
      obtain ⟨x, hx, e⟩ := List.mem_map.1 hm
      obtain ⟨hx1, hx2⟩ := List.mem_filter.1 hx
      obtain ⟨k, hk⟩ := List.getElem?_of_mem hx1
      exact (hr k x hk (by simpa using hx2)).2 ⟨hj, e.symm⟩
    · rw [labs_cons_no L hj]; exact ih

/-! ## texts -/
def tabT (i : In) : List UInt8 := if i.op = 19 then [] else [9]
def tellI (i : In) : List UInt8 := tabT i ++ lineL i
def tellT (L : List In) : List UInt8 := L.flatMap fun i => tellI i ++ [10]
theorem tell_cons (i : In) (L : List In) : tellT (i :: L) = tellI i ++ 10 :: tellT L := by simp [tellT]
theorem tell_app (L M : List In) : tellT (L ++ M) = tellT L ++ tellT M := by simp [tellT]
theorem tell_snoc (L : List In) (i : In) : tellT (L ++ [i]) = tellT L ++ (tellI i ++ [10]) := by simp [tellT]
/-- what a text's next line is -/
def stepR (rest : List UInt8) : Option (In × List UInt8) :=
  if rest.contains 10 then
    match unlL (trimP 9 (cutL 10 rest).1) with
    | some i => if ((cutL 10 rest).1.head? == some 9) = decide (i.op ≠ 19) then some (i, (cutL 10 rest).2) else none
    | none => none
  else none
theorem cut_has (c : UInt8) : ∀ l : List UInt8, c ∈ l → l = (cutL c l).1 ++ c :: (cutL c l).2 ∧ c ∉ (cutL c l).1
  | [], h => by simp at h
  | b :: l, h => by
    by_cases e : b = c
    · subst e; simp [cutL]
    · have hm : c ∈ l := by
        rcases List.mem_cons.1 h with h | h
        · exact absurd h.symm e
        · exact h
      obtain ⟨h1, h2⟩ := cut_has c l hm
      rw [cutL, if_neg e]
      refine ⟨by rw [List.cons_append]; exact congrArg (b :: ·) h1, ?_⟩
      intro hx
      rcases List.mem_cons.1 hx with hx | hx
      · exact e hx.symm
      · exact h2 hx
theorem step_back {rest : List UInt8} {i : In} {more : List UInt8} (h : stepR rest = some (i, more)) : rest = tellI i ++ 10 :: more ∧ IsLine (lineL i) i := by
  unfold stepR at h
  by_cases hc : rest.contains 10 = true
  · rw [if_pos hc] at h
    have hm : (10 : UInt8) ∈ rest := by simpa using hc
    obtain ⟨h1, h2⟩ := cut_has 10 rest hm
    cases hu : unlL (trimP 9 (cutL 10 rest).1) with
    | none => rw [hu] at h; cases h
    | some j =>
      rw [hu] at h
      dsimp only at h
      have hl := unl_iff.1 hu
      by_cases ht : ((cutL 10 rest).1.head? == some 9) = decide (j.op ≠ 19)
      · rw [if_pos ht] at h
        obtain ⟨rfl, rfl⟩ := Prod.mk.inj (Option.some.inj h)
        refine ⟨?_, ⟨hl.1, hl.2.1, rfl⟩⟩
        refine h1.trans ?_
        congr 1
        unfold tellI tabT
        have hln := hl.2.2
        cases hs : (cutL 10 rest).1 with
        | nil =>
          rw [hs] at ht hln
          have h19 : j.op = 19 := by
            have : decide (j.op ≠ 19) = false := by rw [← ht]; rfl
            simpa using this
          rw [if_pos h19, hln]; rfl
        | cons b l =>
          rw [hs] at ht hln
          by_cases h9 : b = 9
          · subst h9
            have h19 : j.op ≠ 19 := by
              have : decide (j.op ≠ 19) = true := by rw [← ht]; rfl
              simpa using this
            rw [if_neg h19, hln, trim_hit]; rfl
          · have h19 : j.op = 19 := by
              have : decide (j.op ≠ 19) = false := by rw [← ht]; simp [h9]
              simpa using this
            rw [if_pos h19, hln, trimP, if_neg h9]; rfl
      · rw [if_neg ht] at h; cases h
  · rw [if_neg hc] at h; cases h
theorem lineL_head {i : In} (h : i.op = 19) : trimP 9 (lineL i) = lineL i ∧ (lineL i).head? ≠ some 9 := by
  unfold lineL lblT
  rw [if_pos h]
  exact ⟨by rw [List.cons_append, trimP, if_neg (by decide)], by simp⟩
theorem step_tell {i : In} (h : IsLine (lineL i) i) (r : List UInt8) : stepR (tellI i ++ 10 :: r) = some (i, r) := by
  have hno := line_no10 h.form
  have hu := unl_iff.2 h
  have hn : (10 : UInt8) ∉ tellI i := fun hm => by
    unfold tellI tabT at hm
    rcases List.mem_append.1 hm with hm | hm
    · split at hm
      · simp at hm
      · simp at hm
    · exact hno 10 hm rfl
  unfold stepR
  rw [if_pos (by simp), cut_mid 10 _ r hn]
  dsimp only
  unfold tellI tabT
  by_cases h19 : i.op = 19
  · obtain ⟨h1, h2⟩ := lineL_head h19
    rw [if_pos h19, List.nil_append, h1, hu]
    dsimp only
    rw [if_pos]
    rw [decide_eq_false (by simp [h19])]
    simpa using h2
  · rw [if_neg h19, List.singleton_append, trim_hit, hu]
    dsimp only
    rw [if_pos]
    rw [decide_eq_true h19]
    rfl
theorem step_less {rest : List UInt8} {i : In} {more : List UInt8} (h : stepR rest = some (i, more)) : more.length < rest.length := by
  rw [(step_back h).1]
  simp only [List.length_append, List.length_cons]
  omega
/-- all lines of a text: the instructions, the number of lines gone, good or not -/
def readG (rest : List UInt8) (n : Nat) (acc : List In) : List In × Nat × Bool :=
  if rest = [] then (acc, n, true) else
  match h : stepR rest with
  | none => ([], n + 1, false)
  | some p => readG p.2 (n + 1) (acc ++ [p.1])
termination_by rest.length
decreasing_by exact step_less h
theorem readG_nil (n : Nat) (acc : List In) : readG [] n acc = (acc, n, true) := by rw [readG, if_pos rfl]
theorem readG_bad {rest : List UInt8} (h0 : rest ≠ []) (h : stepR rest = none) (n : Nat) (acc : List In) : readG rest n acc = ([], n + 1, false) := by
  rw [readG, if_neg h0]
  split
  · rfl
  · rename_i p hp; rw [h] at hp; cases hp
theorem readG_good {rest : List UInt8} {p : In × List UInt8} (h0 : rest ≠ []) (h : stepR rest = some p) (n : Nat) (acc : List In) : readG rest n acc = readG p.2 (n + 1) (acc ++ [p.1]) := by
  rw [readG, if_neg h0]
  split
  · rename_i hp; rw [h] at hp; cases hp
  · rename_i q hp; rw [h] at hp; obtain rfl := Option.some.inj hp; rfl
theorem step_ne {rest : List UInt8} {p : In × List UInt8} (h : stepR rest = some p) : rest ≠ [] := fun e => by
  have := step_less (more := p.2) h
  rw [e] at this
  simp at this
theorem readG_tell : ∀ (L : List In) (n : Nat) (acc : List In), (∀ i ∈ L, IsLine (lineL i) i) → readG (tellT L) n acc = (acc ++ L, n + L.length, true)
  | [], n, acc, _ => by rw [show tellT [] = [] from rfl, readG_nil]; simp
  | i :: L, n, acc, h => by
    have h1 := step_tell (h i (by simp)) (tellT L)
    rw [tell_cons, readG_good (step_ne h1) h1, readG_tell L _ _ fun j hj => h j (by simp [hj])]
    simp only [List.append_assoc, List.singleton_append, List.length_cons]
    rw [show n + 1 + L.length = n + (L.length + 1) by omega]
theorem readG_back : ∀ (k : Nat) (rest : List UInt8) (n : Nat) (acc R : List In) (m : Nat), rest.length ≤ k → readG rest n acc = (R, m, true) → ∃ L, R = acc ++ L ∧ rest = tellT L ∧ ∀ i ∈ L, IsLine (lineL i) i
  | k, rest, n, acc, R, m, hk, h => by
    by_cases h0 : rest = []
    · subst h0
      rw [readG_nil] at h
      obtain ⟨rfl, _⟩ := Prod.mk.inj h
      exact ⟨[], by simp, rfl, by simp⟩
    · cases hs : stepR rest with
      | none => rw [readG_bad h0 hs] at h; cases h
      | some p =>
        have hlt := step_less (more := p.2) hs
        rw [readG_good h0 hs] at h
        cases k with
        | zero => omega
        | succ k =>
          obtain ⟨L, h1, h2, h3⟩ := readG_back k p.2 _ _ R m (by omega) h
          obtain ⟨h4, h5⟩ := step_back (i := p.1) (more := p.2) hs
          refine ⟨p.1 :: L, by rw [h1]; simp, by rw [h4, tell_cons, h2], fun j hj => ?_⟩
          rcases List.mem_cons.1 hj with rfl | hj
          · exact h5
          · exact h3 j hj
theorem readG_false {k : Nat} : ∀ (rest : List UInt8) (n : Nat) (acc R : List In) (m : Nat), rest.length ≤ k → readG rest n acc = (R, m, false) → R = [] := by
  induction k with
  | zero =>
    intro rest n acc R m hk h
    have : rest = [] := List.length_eq_zero_iff.1 (by omega)
    rw [this, readG_nil] at h
    simp at h
  | succ k ih =>
    intro rest n acc R m hk h
    by_cases h0 : rest = []
    · rw [h0, readG_nil] at h
      simp at h
    · cases hs : stepR rest with
      | none => rw [readG_bad h0 hs] at h; exact (Prod.mk.inj h).1.symm
      | some p =>
        have hlt := step_less (more := p.2) hs
        rw [readG_good h0 hs] at h
        exact ih _ _ _ _ _ (by omega) h
/-- what a text is read as: the code, the wrong line, the error's number -/
def readAll (s : List UInt8) : List In × Nat × Nat :=
  if (readG s 0 []).2.2 then (if mayAll (readG s 0 []).1 then ((readG s 0 []).1, 0, 0) else ([], 0, 15)) else ([], (readG s 0 []).2.1, 15)
theorem readAll_tell {L : List In} (h : mayAll L = true) (him : ∀ i ∈ L, i.im < 18446744073709551616) : readAll (tellT L) = (L, 0, 0) := by
  obtain ⟨h1, h2, h3⟩ := mayAll_parts h
  unfold readAll
  rw [readG_tell L 0 [] fun i hi => ⟨(h3 i hi).1, him i hi, rfl⟩]
  simp [h]
theorem readAll_back {s : List UInt8} {L : List In} {n : Nat} (h : readAll s = (L, n, 0)) : s = tellT L ∧ n = 0 ∧ mayAll L = true ∧ ∀ i ∈ L, i.im < 18446744073709551616 := by
  unfold readAll at h
  by_cases hg : (readG s 0 []).2.2 = true
  · rw [if_pos hg] at h
    by_cases hm : mayAll (readG s 0 []).1 = true
    · rw [if_pos hm] at h
      obtain ⟨rfl, h2⟩ := Prod.mk.inj h
      obtain ⟨rfl, _⟩ := Prod.mk.inj h2
      obtain ⟨L, h1, h2, h3⟩ := readG_back s.length s 0 [] _ (readG s 0 []).2.1 (Nat.le_refl _) (by rw [← hg])
      rw [List.nil_append] at h1
      rw [h1]
      exact ⟨h2, rfl, by rw [← h1]; exact hm, fun i hi => (h3 i hi).2.1⟩
    · rw [if_neg hm] at h
      simp at h
  · rw [if_neg hg] at h
    simp at h
end Go.Proofs.YtmimmnjdgpdjlaaGreatDoor
namespace Go.Proofs.YtmimmnjdgpdjlaaGreatDoor
open Go.RowKit Go.Lib

def addT : List (List UInt8 × List Rd) → List UInt8 → Rd → List (List UInt8 × List Rd)
  | [], w, r => [(w, [r])]
  | x :: T, w, r => if x.1 = w then (x.1, x.2 ++ [r]) :: T else x :: addT T w r
def add0 : List (List UInt8 × Rd) := [([109, 111, 118, 113], .two 1 0 0), ([109, 111, 118, 113], .load), ([109, 111, 118, 113], .store), ([109, 111, 118, 97, 98, 115, 113], .imm 2 0 0), ([110, 111, 116, 113], .one 9), ([110, 101, 103, 113], .one 10),
  ([99, 109, 112, 113], .two 11 0 0), ([99, 109, 112, 113], .imm 13 0 0), ([116, 101, 115, 116, 113], .two 12 0 0), ([109, 111, 118, 122, 98, 113], .byte), ([106, 109, 112], .lbl 17 0), ([114, 101, 116], .ret)]
def add1 (k : Nat) : List (List UInt8 × Rd) := [(atW binW (k : Int), .two 5 ((k : Int) + 1) 0), (atW binW (k : Int), .imm 6 ((k : Int) + 1) 0)]
def add2 (k : Nat) : List (List UInt8 × Rd) := [(atW shfW (k : Int), .imm 8 0 ((k : Int) + 1)), (atW shfW (k : Int), .shc ((k : Int) + 1))]
def add3 (k : Nat) : List (List UInt8 × Rd) := [([115, 101, 116] ++ atW cndW (k : Int), .setc (k : Int)), ([99, 109, 111, 118] ++ atW cndW (k : Int), .two 16 0 (k : Int)), ([106] ++ atW cndW (k : Int), .lbl 18 (k : Int))]
def addAll (T : List (List UInt8 × List Rd)) (A : List (List UInt8 × Rd)) : List (List UInt8 × List Rd) := A.foldl (fun T x => addT T x.1 x.2) T
def tab0 : List (List UInt8 × List Rd) := addAll [] add0
def tab1 (k : Nat) : List (List UInt8 × List Rd) := (List.range k).foldl (fun T k => addAll T (add1 k)) tab0
def tab2 (k : Nat) : List (List UInt8 × List Rd) := (List.range k).foldl (fun T k => addAll T (add2 k)) (tab1 8)
def tab3 (k : Nat) : List (List UInt8 × List Rd) := (List.range k).foldl (fun T k => addAll T (add3 k)) (tab2 5)
theorem tab1_next (k : Nat) : tab1 (k + 1) = addT (addT (tab1 k) (atW binW (k : Int)) (.two 5 ((k : Int) + 1) 0)) (atW binW (k : Int)) (.imm 6 ((k : Int) + 1) 0) := by unfold tab1; rw [List.range_succ, List.foldl_append]; rfl
theorem tab2_next (k : Nat) : tab2 (k + 1) = addT (addT (tab2 k) (atW shfW (k : Int)) (.imm 8 0 ((k : Int) + 1))) (atW shfW (k : Int)) (.shc ((k : Int) + 1)) := by unfold tab2; rw [List.range_succ, List.foldl_append]; rfl
theorem tab3_next (k : Nat) : tab3 (k + 1) = addT (addT (addT (tab3 k) ([115, 101, 116] ++ atW cndW (k : Int)) (.setc (k : Int))) ([99, 109, 111, 118] ++ atW cndW (k : Int)) (.two 16 0 (k : Int))) ([106] ++ atW cndW (k : Int)) (.lbl 18 (k : Int)) := by unfold tab3; rw [List.range_succ, List.foldl_append]; rfl
theorem tab3_all : tab3 16 = tableL := by decide +kernel
/-- the meanings of a word in a table -/
def lookIn (T : List (List UInt8 × List Rd)) (w : List UInt8) : List Rd := ((T.find? fun x => x.1 == w).map (·.2)).getD []
theorem lookIn_add (w : List UInt8) (r : Rd) : ∀ T : List (List UInt8 × List Rd), lookIn (addT T w r) w = lookIn T w ++ [r]
  | [] => by simp [addT, lookIn]
  | x :: T => by
    unfold addT
    by_cases e : x.1 = w
    · rw [if_pos e]; simp [lookIn, e]
    · have ih := lookIn_add w r T
      rw [if_neg e]
      unfold lookIn at ih ⊢
      have hb : (x.1 == w) = false := by simpa using e
      rw [List.find?_cons, List.find?_cons, hb]
      exact ih
end Go.Proofs.YtmimmnjdgpdjlaaGreatDoor
