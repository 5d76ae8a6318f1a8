/- The reference's guesses at a line. -/
import Derived.Test.YtmimmnjdgpdjlaaGreatDoorDE
import Derived.Deep.Cut
import Derived.Deep.CutRange
set_option linter.unusedSimpArgs false
set_option linter.unusedVariables false
namespace Go.Proofs.YtmimmnjdgpdjlaaGreatDoor
open Go.RowKit Go.Lib Go.Shelf

def GuessPost (l : List UInt8) (w : World) (e : Ending) (w' : World) : Prop := ∃ A c, e = .returned (.slice A (guessesL l).length c) ∧ InsAt w' (guessesL l) A ∧ Below w.heap.size w w'
theorem guess_nil {l : List UInt8} {w W : World} (h : 1048576 < labG (cutL 32 l).2 ∨ 1048576 < atG l) (hb : Below w.heap.size w W) : GuessPost l w (.returned (.slice none 0 0)) W := by
  have e : guessesL l = [] := by
    unfold guessesL gsOf
    exact if_pos h
  unfold GuessPost
  rw [e]
  exact ⟨none, 0, rfl, CellsAt.nil _, hb⟩
def guessA (wd P Q : List UInt8) (lab at_ : Nat) (k : Nat) : List In :=
  guess1 (unregR P) (unregR Q) (numG P) lab at_ (unaddrR P) (unaddrR Q) ++ guess2 ((idxW binR wd).getD 0 : Nat) ((idxW shfR wd).getD 0 : Nat) (unregR P) (unregR Q) (numG P) ++ guessC (unregR P) (unregR Q) lab k
theorem guessC_len (a d lab : Int) (k : Nat) : (guessC a d lab k).length = 3 * k := by
  induction k with
  | zero => rfl
  | succ k ih =>
    unfold guessC at ih ⊢
    rw [List.range_succ, List.flatMap_append, List.length_append, ih]
    simp [guess3]
    omega
theorem guessC_succ (a d lab : Int) (k : Nat) : guessC a d lab (k + 1) = guessC a d lab k ++ guess3 a d lab (k : Int) := by
  unfold guessC
  rw [List.range_succ, List.flatMap_append]
  simp
theorem guess_fin {l : List UInt8} {w W : World} {v : Value} {P Q : List UInt8} (h : ¬ (1048576 < labG (cutL 32 l).2 ∨ 1048576 < atG l)) (h1 : ((lastCS (cutL 32 l).2).getD ((cutL 32 l).2, (cutL 32 l).2)).1 = P) (h2 : ((lastCS (cutL 32 l).2).getD ((cutL 32 l).2, (cutL 32 l).2)).2 = Q)
    (ho : W.ownsRow w.heap.size 32 13 v 65 (insCells (guessA (cutL 32 l).1 P Q (labG (cutL 32 l).2) (atG l) 16))) (hb : Below w.heap.size w W) : GuessPost l w (.returned v) W := by
  have e : guessesL l = guessA (cutL 32 l).1 P Q (labG (cutL 32 l).2) (atG l) 16 := by
    unfold guessesL gsOf
    dsimp only
    rw [if_neg h, h1, h2]
    rfl
  unfold GuessPost
  rw [e]
  have hl : (guessA (cutL 32 l).1 P Q (labG (cutL 32 l).2) (atG l) 16).length = 65 := by
    unfold guessA
    rw [List.length_append, List.length_append, guessC_len]
    rfl
  rw [← hl] at ho
  obtain ⟨A, c, hv, hi, _⟩ := ins_own ho
  exact ⟨A, c, by rw [hv], hi, hb⟩
theorem adv_flat (a : Ad) : AdV a = .agg #[.int .i64 a.ba, .int .i64 a.ix, .bool a.hb, .bool a.hi, .int .i64 a.dp] := rfl
set_option maxRecDepth 100000 in
set_option maxHeartbeats 8000000 in
theorem guesses35_any (s : ByteArray) (w : World) (hs : s.size ≤ 2000000) : Calls Tryz.prog 35 #[.string s] w (GuessPost s.data.toList w) := by
  have k1 := Lib.hid (fun W => cut42_any s 32 32 rfl W hs)
  have z1 := cut_le 32 s hs
  have hnil := Lib.hid (fun W h hb => guess_nil (l := s.data.toList) (w := w) (W := W) h hb)
  have hfin := Lib.hid (fun W v P Q h h1 h2 ho hb => guess_fin (l := s.data.toList) (w := w) (W := W) (v := v) (P := P) (Q := Q) h h1 h2 ho hb)
  have hat := Lib.hid (show atG s.data.toList = if 2 < s.data.toList.length then (numI (s.extract 1 (s.size - 1))).getD 0 else 0 from by
    unfold atG
    rw [extract_bytes, numI_bt, tail_drop, size_list])
  obtain ⟨Z, hZ⟩ : ∃ Z, GuessPost s.data.toList w = Z := ⟨_, rfl⟩
  rw [hZ] at hnil hfin ⊢
  clear hZ
  obtain ⟨wd, hwd⟩ : ∃ x, (cutL 32 s.data.toList).1 = x := ⟨_, rfl⟩
  obtain ⟨rest, hrest⟩ : ∃ x, (cutL 32 s.data.toList).2 = x := ⟨_, rfl⟩
  rw [hwd, hrest] at k1 hfin z1
  rw [hrest] at hnil
  obtain ⟨at_, hatt⟩ : ∃ x, atG s.data.toList = x := ⟨_, rfl⟩
  obtain ⟨lab, hlab⟩ : ∃ x, labG rest = x := ⟨_, rfl⟩
  rw [hatt] at hnil hfin hat
  rw [hlab] at hnil hfin
  have hlab := Lib.hid (show (if (bt rest).size = 0 then 0 else (numI ((bt rest).extract 1 (bt rest).size)).getD 0) = lab from by
    rw [← hlab]
    unfold labG
    rw [tail_extract, bt_list, bt_size, numI_bt]
    by_cases h : rest = []
    · rw [if_pos h, if_pos (by rw [h]; rfl)]
    · rw [if_neg h, if_neg (by rw [List.length_eq_zero_iff]; exact h)])
  obtain ⟨R, hR⟩ : ∃ R, bt rest = R := ⟨_, rfl⟩
  obtain ⟨V, hV⟩ : ∃ R, bt wd = R := ⟨_, rfl⟩
  have hRl := Lib.hid (show R.data.toList = rest from by rw [← hR, bt_list])
  have hVl := Lib.hid (show V.data.toList = wd from by rw [← hV, bt_list])
  rw [hR, hV] at k1
  rw [hR] at z1 hlab
  have z1 := Lib.hid z1.2
  have hs' := Lib.hid hs
  rw [size_list] at hat
  clear hwd hrest hatt hR hV hs
  go_enter Tryz.func35, Tryz.ntmps35
  go_wp2_with fail
  refine (k1.out _).mono ?_
  rintro e w2 ⟨rfl, hb2⟩
  have hbw := Lib.hid hb2
  clear hb2 k1
  go_wp2_with fail
  go_loopg [5, 6, 7] R.size (fun g s5 s6 s7 wr => ∃ (k : Nat) (P Q : ByteArray), k + g = R.size ∧ s7 = .int .i64 k ∧ s5 = .string P ∧ s6 = .string Q ∧ CsAt R.data.toList k P.data.toList Q.data.toList ∧ Below w.heap.size w wr)
  case atStart => exact ⟨0, R, R, by omega, rfl, rfl, rfl, CsAt.zero _, hbw.out⟩
  case round =>
    obtain ⟨k, P, Q, hkg, rfl, rfl, rfl, hcs, hbr⟩ := hrel
    have hcs := Lib.hid hcs
    have hbw := Lib.hid hbr
    clear hbr
    have hRs := z1.out
    have hw1 : IntKind.i64.wrap ((k : Int) + 1) = (k : Int) + 1 := by rw [IntKind.wrap_i64]; omega
    by_cases hlt : k + 1 < R.size
    · have e0 : (k : Int) + 1 < (R.size : Int) := by omega
      have hk0 : k < R.size := by omega
      obtain ⟨g2, rfl⟩ : ∃ g2, gk = g2 + 1 := ⟨gk - 1, by omega⟩
      have g0 := get_list R k hk0
      have g1 := get_list R (k + 1) hlt
      have hmiss := Lib.hid (fun hn => CsAt.miss hcs.out hn)
      by_cases c0 : R[k]'hk0 = 44
      · have e1 : (((R[k]'hk0).toNat : Int) == 44) = true := by rw [c0]; rfl
        by_cases c1 : R[k + 1]'hlt = 32
        · have e2 : (((R[k + 1]'hlt).toNat : Int) == 32) = true := by rw [c1]; rfl
          have hhit := Lib.hid (show CsAt R.data.toList (k + 1) (R.extract 0 k).data.toList (R.extract (k + 2) R.size).data.toList from by
            rw [extract_to, extract_from, bt_list, bt_list]
            exact CsAt.hit (P := []) (Q := []) ⟨by rw [g0, c0], by rw [g1, c1]⟩)
          have hw2 : (k : Int) + 2 ≤ (R.size : Int) := by omega
          have hw3 : IntKind.i64.wrap ((k : Int) + 2) = (k : Int) + 2 := by rw [IntKind.wrap_i64]; omega
          clear g0 g1 c0 c1 hmiss
          go_wp2_with fail
          go_quiet (fail)
          go_wp2
          go_roundg g2
          case measure => omega
          case rel => exact ⟨k + 1, _, _, by omega, by go_num, rfl, rfl, hhit.out, below_drewN hbw.out _⟩
        · have e2 : (((R[k + 1]'hlt).toNat : Int) == 32) = false := by
            have : (R[k + 1]'hlt).toNat ≠ (32 : UInt8).toNat := fun e => c1 (UInt8.toNat_inj.1 e)
            have h32 : (32 : UInt8).toNat = 32 := rfl
            simp; omega
          have hnx := Lib.hid (hmiss.out fun h => c1 (by have := h.2; rw [g1] at this; exact Option.some.inj this))
          clear g0 g1 c0 c1 hmiss
          go_wp2
          go_roundg g2
          case measure => omega
          case rel => exact ⟨k + 1, P, Q, by omega, by go_num, rfl, rfl, hnx.out, hbw.out⟩
      · have e1 : (((R[k]'hk0).toNat : Int) == 44) = false := by
          have : (R[k]'hk0).toNat ≠ (44 : UInt8).toNat := fun e => c0 (UInt8.toNat_inj.1 e)
          have h44 : (44 : UInt8).toNat = 44 := rfl
          simp; omega
        have hnx := Lib.hid (hmiss.out fun h => c0 (by have := h.1; rw [g0] at this; exact Option.some.inj this))
        clear g0 g1 c0 hmiss
        go_wp2
        go_roundg g2
        case measure => omega
        case rel => exact ⟨k + 1, P, Q, by omega, by go_num, rfl, rfl, hnx.out, hbw.out⟩
    · have e0 : ¬ (k : Int) + 1 < (R.size : Int) := by omega
      have hdone := CsAt.done hcs.out (by rw [size_list]; omega)
      have hlen := CsAt.len hcs.out
      rw [hRl.out] at hdone
      rw [size_list, size_list, size_list] at hlen
      have hPs : P.size ≤ 2000000 := by omega
      have hQs : Q.size ≤ 2000000 := by omega
      have hfin := Lib.hid (fun W v h ho hb => hfin.out W v P.data.toList Q.data.toList h hdone.1 hdone.2 ho hb)
      clear hdone hlen hcs hkg hlt hRs
      have ka := Lib.hid (fun W => unreg89_any P W hPs)
      have kb := Lib.hid (fun W => unreg89_any Q W hQs)
      have kc := Lib.hid (fun W => unaddr92_any P W hPs)
      have kd := Lib.hid (fun W => unaddr92_any Q W hQs)
      have hnum := Lib.hid (show numG P.data.toList = if P.data.toList.head? = some 36 then numP P.data.toList.tail else 0 from rfl)
      unfold guessA at hfin
      obtain ⟨a, ha⟩ : ∃ x, unregR P.data.toList = x := ⟨_, rfl⟩
      obtain ⟨d, hd⟩ : ∃ x, unregR Q.data.toList = x := ⟨_, rfl⟩
      obtain ⟨A1, hA1⟩ : ∃ x, unaddrR P.data.toList = x := ⟨_, rfl⟩
      obtain ⟨A2, hA2⟩ : ∃ x, unaddrR Q.data.toList = x := ⟨_, rfl⟩
      obtain ⟨n, hn⟩ : ∃ x, numG P.data.toList = x := ⟨_, rfl⟩
      obtain ⟨bi, hbi⟩ : ∃ x : Int, (((idxW binR wd).getD 0 : Nat) : Int) = x := ⟨_, rfl⟩
      obtain ⟨si, hsi⟩ : ∃ x : Int, (((idxW shfR wd).getD 0 : Nat) : Int) = x := ⟨_, rfl⟩
      rw [ha, hd, hA1, hA2, hn, hbi, hsi] at hfin
      rw [ha] at ka
      rw [hd] at kb
      rw [hA1] at kc
      rw [hA2] at kd
      rw [hn] at hnum
      rw [← hVl.out] at hbi hsi
      have hbi := Lib.hid hbi
      have hsi := Lib.hid hsi
      clear ha hd hA1 hA2 hn hVl hRl
      go_wp2_with fail
      clear hw1 e0
      refine (ka.out _).mono ?_
      rintro e w3 ⟨rfl, hb3⟩
      have hbw := Lib.hid (Below.next hbw.out hb3)
      clear hb3 ka
      go_wp2_with fail
      refine (kb.out _).mono ?_
      rintro e w4 ⟨rfl, hb4⟩
      have hbw := Lib.hid (Below.next hbw.out hb4)
      clear hb4 kb
      have hPs := Lib.hid hPs
      have hQs := Lib.hid hQs
      obtain ⟨hd36, hhd⟩ : ∃ b, decide (P.data.toList.head? = some 36) = b := ⟨_, rfl⟩
      have hhd := Lib.hid hhd
      go_upto_region 10 with fail
      go_cut [60] from 53 to 60 (fun s60 wx => s60 = .bool hd36 ∧ Below w.heap.size w wx)
      case first =>
        by_cases h0 : P.size = 0
        · have e1 : ¬ (0 : Int) < (P.size : Int) := by omega
          have hv := Lib.hid (show false = hd36 from by rw [← hhd.out, bt_empty_iff P h0]; rfl)
          clear h0
          go_wp2_with fail
          go_meet
          case rel => exact ⟨by rw [← hv.out], hbw.out⟩
        · have hp : 0 < P.size := by omega
          have e1 : (0 : Int) < (P.size : Int) := by omega
          have hv := Lib.hid (show (((P[0]'hp).toNat : Int) == 36) = hd36 from by
            rw [← hhd.out, head_get P hp]
            by_cases h : P[0]'hp = 36
            · rw [h]; rfl
            · have : (P[0]'hp).toNat ≠ (36 : UInt8).toNat := fun e => h (UInt8.toNat_inj.1 e)
              have h36 : (36 : UInt8).toNat = 36 := rfl
              rw [decide_eq_false (fun e => h (Option.some.inj e))]
              simp; omega)
          clear h0
          go_wp2_with fail
          go_meet
          case rel => exact ⟨by rw [← hv.out], hbw.out⟩
      case rest =>
        obtain ⟨rfl, hbc⟩ := hcut
        have hbw := Lib.hid hbc
        clear hbc
        go_upto_if 60 with fail
        go_cut [10] from 61 to 63 (fun s10 wx => s10 = .int .u64 (n : Int) ∧ Below w.heap.size w wx)
        case first =>
          cases hd36 with
          | false =>
            have hv := Lib.hid (show 0 = n from by rw [hnum.out, if_neg (of_decide_eq_false hhd.out)])
            go_wp2_with fail
            go_meet
            case rel => exact ⟨by rw [← hv.out]; rfl, hbw.out⟩
          | true =>
            have hh := of_decide_eq_true hhd.out
            have hw1 : (1 : Int) ≤ (P.size : Int) := by
              rcases Nat.eq_zero_or_pos P.size with h | h
              · rw [bt_empty_iff P h] at hh; cases hh
              · omega
            have k10 := fun W => signed90_any (P.extract 1 P.size) W (by rw [tail_extract, bt_size, List.length_tail, size_list]; have := hPs.out; omega)
            have hv : numP (P.extract 1 P.size).data.toList = n := by rw [hnum.out, if_pos hh, tail_extract, bt_list]
            rw [hv] at k10
            have k10 := Lib.hid k10
            clear hh hv
            go_wp2_with fail
            refine (k10.out _).mono ?_
            rintro e w5 ⟨rfl, hq⟩
            obtain rfl := hq.symm
            go_wp2_with fail
            go_meet
            case rel => exact ⟨rfl, hbw.out⟩
        case rest =>
          obtain ⟨rfl, hbc⟩ := hcut
          have hbw := Lib.hid hbc
          clear hbc hhd hnum
          go_upto_if 66 with fail
          go_cut [11] from 64 to 72 (fun s11 wx => s11 = .int .u64 (lab : Int) ∧ Below w.heap.size w wx)
          case first =>
            by_cases h0 : R.size = 0
            · have e1 : ¬ (0 : Int) < (R.size : Int) := by omega
              have hv := Lib.hid (show 0 = lab from by rw [← hlab.out, if_pos h0])
              clear h0
              go_wp2_with fail
              go_meet
              case rel => exact ⟨by rw [← hv.out]; rfl, hbw.out⟩
            · have e1 : (0 : Int) < (R.size : Int) := by omega
              have hw1 : (1 : Int) ≤ (R.size : Int) := by omega
              have k11 := fun W => digits91_any (R.extract 1 R.size) W (by rw [tail_extract, bt_size, List.length_tail, size_list]; have := z1.out; omega)
              have hv : (numI (R.extract 1 R.size)).getD 0 = lab := by rw [← hlab.out, if_neg h0]
              rw [hv] at k11
              have k11 := Lib.hid k11
              clear hv h0
              go_wp2_with fail
              refine (k11.out _).mono ?_
              rintro e w5 ⟨rfl, hq⟩
              obtain rfl := hq.symm
              go_wp2_with fail
              go_meet
              case rel => exact ⟨rfl, hbw.out⟩
          case rest =>
            obtain ⟨rfl, hbc⟩ := hcut
            have hbw := Lib.hid hbc
            clear hbc hlab
            go_upto_if 75 with fail
            go_cut [12] from 73 to 84 (fun s12 wx => s12 = .int .u64 (at_ : Int) ∧ Below w.heap.size w wx)
            case first =>
              by_cases h0 : 2 < s.size
              · have e1 : (2 : Int) < (s.size : Int) := by omega
                have hw1 : IntKind.i64.wrap ((s.size : Int) - 1) = ((s.size - 1 : Nat) : Int) := by rw [IntKind.wrap_i64]; have := hs'.out; omega
                have hw2 : (1 : Int) ≤ ((s.size - 1 : Nat) : Int) := by omega
                have hw3 : ((s.size - 1 : Nat) : Int) ≤ (s.size : Int) := by omega
                have k12 := fun W => digits91_any (s.extract 1 (s.size - 1)) W (by rw [extract_bytes, bt_size, List.length_drop, List.length_take, size_list]; have := hs'.out; omega)
                have hv : (numI (s.extract 1 (s.size - 1))).getD 0 = at_ := by rw [hat.out, if_pos h0]
                rw [hv] at k12
                have k12 := Lib.hid k12
                clear hv h0
                go_wp2_with fail
                refine (k12.out _).mono ?_
                rintro e w5 ⟨rfl, hq⟩
                obtain rfl := hq.symm
                go_wp2_with fail
                go_meet
                case rel => exact ⟨rfl, hbw.out⟩
              · have e1 : ¬ (2 : Int) < (s.size : Int) := by omega
                have hv := Lib.hid (show 0 = at_ from by rw [hat.out, if_neg h0])
                clear h0
                go_wp2_with fail
                go_meet
                case rel => exact ⟨by rw [← hv.out]; rfl, hbw.out⟩
            case rest =>
              obtain ⟨rfl, hbc⟩ := hcut
              have hbw := Lib.hid hbc
              clear hbc hat z1 hs' hPs hQs
              by_cases hl1 : 1048576 < lab
              · have e1 : (1048576 : Int) < (lab : Int) := by omega
                have hq := Lib.hid (hnil.out _ (.inl hl1) hbw.out)
                clear hl1 hnil hfin
                go_wp2
                exact hq.out
              · by_cases hl2 : 1048576 < at_
                · have e1 : ¬ (1048576 : Int) < (lab : Int) := by omega
                  have e2 : (1048576 : Int) < (at_ : Int) := by omega
                  have hq := Lib.hid (hnil.out _ (.inr hl2) hbw.out)
                  clear hl1 hl2 hnil hfin
                  go_wp2
                  exact hq.out
                · have e1 : ¬ (1048576 : Int) < (lab : Int) := by omega
                  have e2 : ¬ (1048576 : Int) < (at_ : Int) := by omega
                  have x1 : IntKind.i64.wrap (lab : Int) = (lab : Int) := by rw [IntKind.wrap_i64]; omega
                  have x2 : IntKind.i64.wrap (at_ : Int) = (at_ : Int) := by rw [IntKind.wrap_i64]; omega
                  have hfin := Lib.hid (fun W v ho hb => hfin.out W v (by omega) ho hb)
                  clear hl1 hl2 hnil
                  go_wp2_with fail
                  refine (kc.out _).mono ?_
                  rintro e w6 ⟨rfl, hb6⟩
                  have hbw := Lib.hid (Below.next hbw.out hb6)
                  clear hb6 kc
                  rw [adv_flat]
                  go_wp2_with fail
                  refine (kd.out _).mono ?_
                  rintro e w7 ⟨rfl, hb7⟩
                  have hbw := Lib.hid (Below.next hbw.out hb7)
                  clear hb7 kd
                  rw [adv_flat]
                  obtain ⟨G1, hG1⟩ : ∃ G, guess1 a d n lab at_ A1 A2 = G := ⟨_, rfl⟩
                  have hG1l : G1.length = 13 := by rw [← hG1]; rfl
                  rw [hG1] at hfin
                  go_wp2_with (refine wpList_sliceI rfl 13 _ rfl G1 hG1l (by omega) (by omega) ?cx1 ?_)
                  case cx1 => rw [← hG1]; rfl
                  intro b1 w8 hb1 hb8 hx8
                  have hle1 := Lib.hid (show w.heap.size ≤ b1 from by have := hbw.out.size; omega)
                  have ho8 := Lib.hid (own_made (base := w.heap.size) G1 13 hG1l (by omega) hle1.out hx8)
                  have hbw := Lib.hid (Below.next hbw.out hb8)
                  clear hb8 hx8 hb1 hG1
                  obtain ⟨v13, hv13⟩ : ∃ v, Value.slice (some ⟨b1, 0, none⟩) 13 13 = v := ⟨_, rfl⟩
                  rw [hv13] at ho8 ⊢
                  clear hv13 hle1
                  have hW := rbins_any w8
                  unfold LisPost at hW
                  obtain ⟨w9, hw9⟩ : ∃ W, w8.alloc (.cells (lisC binR) 9) = W := ⟨_, rfl⟩
                  have hb9 : Below w8.heap.size w8 w9 := by rw [← hw9]; exact below_new _ _
                  have hx9 : w9.heap[w8.heap.size]? = some (.cells (lisC binR) 9 (0, 0)) := by rw [← hw9]; exact heap_alloc_new _ _
                  rw [hw9] at hW
                  have ho9 := Lib.hid (own_keep ho8.out fun g hg => hb9.block g (own_at ho8.out hg).2)
                  have hbw := Lib.hid (Below.next hbw.out hb9)
                  have hW := Lib.hid hW
                  have hF := find93_any binR 9 rfl (by omega) w8.heap.size w9 hx9 V
                  rw [hbi.out] at hF
                  have hF := Lib.hid hF
                  clear hw9 hb9 hx9 ho8
                  go_wp2_with fail
                  refine hW.out.mono ?_
                  rintro e wy ⟨rfl, hq⟩
                  obtain rfl := hq.symm
                  go_wp2_with fail
                  refine hF.out.mono ?_
                  rintro e wy ⟨rfl, rfl⟩
                  clear hW hF
                  have hW := rshifts_any w9
                  unfold LisPost at hW
                  obtain ⟨wa, hwa⟩ : ∃ W, w9.alloc (.cells (lisC shfR) 9) = W := ⟨_, rfl⟩
                  have hba : Below w9.heap.size w9 wa := by rw [← hwa]; exact below_new _ _
                  have hxa : wa.heap[w9.heap.size]? = some (.cells (lisC shfR) 9 (0, 0)) := by rw [← hwa]; exact heap_alloc_new _ _
                  rw [hwa] at hW
                  have hoa := Lib.hid (own_keep ho9.out fun g hg => hba.block g (own_at ho9.out hg).2)
                  have hbw := Lib.hid (Below.next hbw.out hba)
                  have hW := Lib.hid hW
                  have hF := find93_any shfR 6 rfl (by omega) w9.heap.size wa hxa V
                  rw [hsi.out] at hF
                  have hF := Lib.hid hF
                  clear hwa hba hxa ho9
                  go_wp2_with fail
                  refine hW.out.mono ?_
                  rintro e wy ⟨rfl, hq⟩
                  obtain rfl := hq.symm
                  go_wp2_with fail
                  refine hF.out.mono ?_
                  rintro e wy ⟨rfl, rfl⟩
                  clear hW hF
                  obtain ⟨G2, hG2⟩ : ∃ G, guess2 bi si a d n = G := ⟨_, rfl⟩
                  have hG2l : G2.length = 4 := by rw [← hG2]; rfl
                  rw [hG2] at hfin
                  go_wp2_with (refine wpList_sliceI rfl 4 _ rfl G2 hG2l (by omega) (by omega) ?cx2 ?_)
                  case cx2 => rw [← hG2]; rfl
                  intro b2 wb hb2 hbb hxb
                  have hob := Lib.hid (own_keep hoa.out fun g hg => hbb.block g (own_at hoa.out hg).2)
                  have hbw := Lib.hid (Below.next hbw.out hbb)
                  have hxb := Lib.hid hxb
                  clear hbb hb2 hG2 hoa
                  go_wp2_with (at_builtin; refine wpList_append_ins rfl _ _ rfl w.heap.size v13 13 G1 rfl hob.out b2 4 G2 rfl hG2l hxb.out (by omega) (by omega) hbw.out.size ?_)
                  intro v17 wz ho17 hg17
                  have hbw := Lib.hid (grown_below hbw.out hob.out hg17 (Nat.le_refl _))
                  have ho17 := Lib.hid ho17
                  obtain ⟨G3, hG3⟩ : ∃ G, G1 ++ G2 = G := ⟨_, rfl⟩
                  rw [hG3] at ho17 hfin
                  clear hob hxb hg17 hG1l hG2l hG3
                  go_wp2_with fail
                  go_loopg [13, 16] 16 (fun g s13 s16 wr => ∃ k : Nat, k + g = 16 ∧ s16 = .int .i64 k ∧ wr.ownsRow w.heap.size 32 13 s13 (17 + 3 * k) (insCells (G3 ++ guessC a d lab k)) ∧ Below w.heap.size w wr)
                  case atStart => exact ⟨0, by omega, rfl, by rw [show guessC a d (lab : Int) 0 = [] from rfl, List.append_nil]; exact ho17.out, hbw.out⟩
                  case round =>
                    obtain ⟨k3, hkg, rfl, hor, hbr⟩ := hrel
                    have hor := Lib.hid hor
                    have hbw := Lib.hid hbr
                    clear hbr
                    cases gk with
                    | zero =>
                      obtain rfl : k3 = 16 := by omega
                      have hq := Lib.hid (hfin.out _ _ hor.out hbw.out)
                      clear hfin hor
                      go_wp2
                      exact hq.out
                    | succ g3 =>
                      have e3 : (k3 : Int) ≤ 15 := by omega
                      obtain ⟨M, hM⟩ : ∃ G, guess3 a d lab (k3 : Int) = G := ⟨_, rfl⟩
                      have hMl : M.length = 3 := by rw [← hM]; rfl
                      have hnx := guessC_succ a d (lab : Int) k3
                      rw [hM] at hnx
                      have hnx := Lib.hid hnx
                      go_wp2_with (refine wpList_sliceI rfl 3 _ rfl M hMl (by omega) (by omega) ?cx3 ?_)
                      case cx3 => rw [← hM]; rfl
                      intro b3 wd3 hb3 hbd hxd
                      have hod := Lib.hid (own_keep hor.out fun g hg => hbd.block g (own_at hor.out hg).2)
                      have hbw := Lib.hid (Below.next hbw.out hbd)
                      have hxd := Lib.hid hxd
                      clear hbd hb3 hM hor
                      go_wp2_with (at_builtin; refine wpList_append_ins rfl _ _ rfl w.heap.size _ (17 + 3 * k3) _ rfl hod.out b3 3 M rfl hMl hxd.out (by omega) (by omega) hbw.out.size ?_)
                      intro v4 we ho4 hg4
                      have hbw := Lib.hid (grown_below hbw.out hod.out hg4 (Nat.le_refl _))
                      first | rw [← hnx.out] at ho4 | rw [List.append_assoc, ← hnx.out] at ho4
                      have ho4 := Lib.hid ho4
                      clear hod hxd hg4 hnx hMl
                      go_wp2
                      go_roundg g3
                      case measure => omega
                      case rel => exact ⟨k3 + 1, by omega, by go_num, ho4.out, hbw.out⟩
end Go.Proofs.YtmimmnjdgpdjlaaGreatDoor
