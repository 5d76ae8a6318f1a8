/- ScriptBounds: the walk. -/
import Derived.Test.YtkbmckmlnphpmaaGreatDoorCH
import Derived.Laws.OwnMore
import Derived.Deep.OwnRows
set_option linter.unusedSimpArgs false
set_option linter.unusedVariables false
namespace Go.Proofs.YtkbmckmlnphpmaaGreatDoor
open Go.RowKit Go.Lib Go.Shelf

def cell5 : List Value := [.int .i64 1, .slice none 0 0, .slice none 0 0, .int .u64 0, .int .i64 0]
def cellsR (k : Nat) : List Value := (List.replicate k cell5).flatten
theorem cellsR_succ (k : Nat) : cellsR (k + 1) = cellsR k ++ cell5 := by
  unfold cellsR
  rw [List.replicate_succ', List.flatten_append]
  simp
theorem cellsR_len : ∀ k, (cellsR k).length = 5 * k
  | 0 => rfl
  | k + 1 => by rw [cellsR_succ, List.length_append, cellsR_len k]; simp [cell5]; omega
theorem cellsR_at : ∀ (n i j : Nat) (v : Value), i < n → cell5[j]? = some v → (cellsR n)[i * 5 + j]? = some v
  | 0, i, j, v, h, _ => absurd h (by omega)
  | n + 1, i, j, v, h, hj => by
    have hl := (List.getElem?_eq_some_iff.1 hj).1
    have hl5 : cell5.length = 5 := rfl
    rw [cellsR_succ]
    rcases Nat.lt_or_ge i n with hlt | hge
    · rw [List.getElem?_append_left (by rw [cellsR_len]; omega)]
      exact cellsR_at n i j v hlt hj
    · obtain rfl : i = n := by omega
      rw [List.getElem?_append_right (by rw [cellsR_len]; omega), cellsR_len]
      have e : i * 5 + j - 5 * i = j := by omega
      rw [e]
      exact hj
theorem own_asks {w : World} {b0 : Nat} {v : Value} {n m : Nat} (h : w.ownsRow b0 42 5 v n (cellsR n)) (hn : 0 < n) (hm : m ≤ n) : ∃ g cap, v = .slice (some ⟨g, 0, none⟩) n cap ∧ n ≤ cap ∧ cap ≤ 9223372036854775807 ∧ AsksK w (some ⟨g, 0, none⟩) (List.replicate m ask0) := by
  rcases h.2 with ⟨_, h0⟩ | ⟨g, cap, cur, hv, hg, hh, hcap, hmx, hs, ht⟩
  · omega
  · refine ⟨g, cap, hv, hcap, by unfold maxLen at hmx; exact hmx, fun _ => ⟨g, 0, rfl, fun i a hi => ?_⟩⟩
    have hil := (List.getElem?_eq_some_iff.1 hi).1
    rw [List.length_replicate] at hil
    have ha : a = ask0 := List.eq_of_mem_replicate (List.mem_of_getElem? hi)
    subst ha
    refine ⟨none, 0, none, 0, fun j v hj => ?_, ⟨(fun x hx => by cases hx), fun h => absurd h (Nat.lt_irrefl 0)⟩, fun h => absurd h (Nat.lt_irrefl 0), Nat.zero_le _, Nat.zero_le _⟩
    have h5 := cellsR_at n i j v (by omega) hj
    have hlt : i * 5 + j < n * 5 := by have := (List.getElem?_eq_some_iff.1 hj).1; simp [askCells] at this; omega
    rw [Nat.zero_add, blk_cell hh]
    rw [← ht, List.getElem?_take, if_pos hlt] at h5
    simpa using h5
theorem made_bytes (n : Nat) : (madeCells #[.int .u8 0] n).toList = byteCells (List.replicate n 0) := by
  apply List.ext_getElem?
  intro i
  unfold madeCells byteCells
  rcases Nat.lt_or_ge i n with h | h
  · simp [h, Nat.mod_one]
  · simp [h]
theorem conv_big (w : World) (n : Nat) (hn : n ≤ maxLen) : (convert 73 9 (.slice (some ⟨w.heap.size, 0, none⟩) n n)).run Tryz.prog (w.alloc (.cells (madeCells #[.int .u8 0] n) 5)) = .ok (.string ⟨(List.replicate n 0).toArray⟩) (w.alloc (.cells (madeCells #[.int .u8 0] n) 5)) := by
  refine ownsRow_all (b0 := w.heap.size) (n := n) ?_
  rw [← made_bytes]
  exact World.ownsRow_lit w _ n (Nat.le_refl _) hn (by rw [size_madeCells]; omega)
theorem new_own (w : World) {b0 : Nat} {n : Nat} {v : Value} {xs : List Value} (h : w.ownsRow b0 42 5 v n xs) (o : Obj) : (w.alloc o).ownsRow b0 42 5 v n xs := h.alloc o
set_option maxRecDepth 100000 in
set_option maxHeartbeats 1000000 in
theorem nothing_any (w : World) : Calls Tryz.prog 42 #[.agg #[.int .i64 0, .slice none 0 0, .slice none 0 0, .int .u64 0, .int .i64 0]] w (BoolPost true w) := by
  have hb0 := Lib.hid ((Below.refl w.heap.size w).alloc (Nat.le_refl _) (.cells #[.int .i64 0, .slice none 0 0, .slice none 0 0, .int .u64 0, .int .i64 0] 42))
  have kE := refSame_any ⟨0, [], [], 0, 0⟩ ⟨0, [], [], 0, 0⟩ none none none none 0 0 0 0 (w.alloc (.cells #[.int .i64 0, .slice none 0 0, .slice none 0 0, .int .u64 0, .int .i64 0] 42)) ⟨⟨by simp, fun h => absurd h (by simp)⟩, fun h => absurd h (by simp), by simp, by simp⟩ ⟨⟨by simp, fun h => absurd h (by simp)⟩, fun h => absurd h (by simp), by simp, by simp⟩
  rw [show decide ((⟨0, [], [], 0, 0⟩ : Ask) = ⟨0, [], [], 0, 0⟩) = true from decide_eq_true rfl] at kE
  unfold askVal at kE
  simp only [List.length_nil] at kE
  have kE := Lib.hid kE
  go_enter Tryz.func42, Tryz.ntmps42
  go_wp2_with fail
  refine kE.out.mono ?_
  rintro e w1 ⟨rfl, hb1⟩
  have b1 := Lib.hid (Below.next hb0.out hb1)
  clear hb1
  go_wp2
  go_ret
  exact ⟨rfl, b1.out⟩
theorem wrong0 {t : ByteArray} (h : parseM t = ([], 0, 15)) (hs : t.size ≤ 2000000) (w : World) (hE : Env w) : Calls Tryz.prog 43 #[.string t, .int .i64 0] w (BoolPost true w) := by
  have := wrong_any t 0 w hE (.inl hs)
  rw [h] at this
  simpa using this
theorem wrong1 {t : ByteArray} (h : parseM t = ([], 1, 15)) (hs : t.size ≤ 2000000) (w : World) (hE : Env w) : Calls Tryz.prog 43 #[.string t, .int .i64 1] w (BoolPost true w) := by
  have := wrong_any t 1 w hE (.inl hs)
  rw [h] at this
  simpa using this
theorem make_big (w : World) : (Instr.makeSlice 73 (.int .i64 1048577) (.int .i64 1048577)).run Tryz.prog w = .ok (.slice (some ⟨w.heap.size, 0, none⟩) 1048577 1048577) (w.alloc (.cells (madeCells #[.int .u8 0] 1048577) 5)) :=
  run_make_row' 73 5 (.int .u8 0) 1 und73 byte5 rfl .i64 .i64 1048577 (by omega) (by omega) w

set_option maxRecDepth 100000 in
set_option maxHeartbeats 16000000 in
theorem scriptBounds_any (w : World) (hE : Env w) : Calls Tryz.prog 9 #[] w (BoolPost true w) := by
  obtain ⟨i0, hi, hz0, hz1, hz2⟩ := info_parts info42
  have hi' := Lib.hid (And.intro hi (And.intro hz0 (And.intro hz1 hz2)))
  have kK := Lib.hid fun W (hb : Below w.heap.size w W) => known_any W (hE.below hb)
  have hnn := Lib.hid fun e w => num_any e w
  have kW0 := Lib.hid fun t (h : parseM t = ([], 0, 15)) (hs : t.size ≤ 2000000) W (hb : Below w.heap.size w W) => wrong0 h hs W (hE.below hb)
  have kW1 := Lib.hid fun t (h : parseM t = ([], 1, 15)) (hs : t.size ≤ 2000000) W (hb : Below w.heap.size w W) => wrong1 h hs W (hE.below hb)
  have kP := Lib.hid fun t L n er (h : parseM t = (L, n, er)) (hs : t.size ≤ 2000000) W (hb : Below w.heap.size w W) => (show Calls Tryz.prog 24 #[.string t] W (fun e w' => ∃ A c, e = .returned (.tuple #[.slice A L.length c, .int .i64 n, .int .i64 er]) ∧ Below W.heap.size W w') from (parse_any t W (hE.below hb) (.inl hs)).mono fun e w' hp => by
    unfold ParsePost at hp
    rw [h] at hp
    obtain ⟨A, c, h1, _, h3⟩ := hp
    exact ⟨A, c, h1, h3⟩)
  have kN := Lib.hid fun W => nothing_any W
  have hE' := Lib.hid hE
  have hbx := Lib.hid (heap_alloc_new w (.cells #[.int .i64 1, .slice none 0 0, .slice none 0 0, .int .u64 0, .int .i64 0] 42))
  have hb0 := Lib.hid ((Below.refl w.heap.size w).alloc (Nat.le_refl _) (.cells #[.int .i64 1, .slice none 0 0, .slice none 0 0, .int .u64 0, .int .i64 0] 42))
  have hown0 := Lib.hid (World.ownsRow_nil (w.alloc (.cells #[.int .i64 1, .slice none 0 0, .slice none 0 0, .int .u64 0, .int .i64 0] 42)) (w.heap.size + 1) 42 5)
  clear hi hz0 hz1 hz2 hE
  go_enter Tryz.func9, Tryz.ntmps9
  go_wp2_with fail
  go_loopg [2, 3, 4, 6] 65 (fun g s2 s3 s4 s6 wr => ∃ k : Nat, k + g = 65 ∧ s6 = .int .i64 k ∧ wr.ownsRow (w.heap.size + 1) 42 5 s2 k (cellsR k) ∧ s3 = .string (scrT (List.replicate k ask0)) ∧ s4 = .string (lineT inW (List.replicate k 1)) ∧ wr.heap[w.heap.size]? = some (.cells #[.int .i64 1, .slice none 0 0, .slice none 0 0, .int .u64 0, .int .i64 0] 42 (0, 0)) ∧ Below w.heap.size w wr)
  case atStart => exact ⟨0, by omega, rfl, hown0.out, rfl, by rw [ones0]; rfl, hbx.out, hb0.out⟩
  case round =>
    obtain ⟨k, hkg, rfl, ho, rfl, rfl, hbr, hb⟩ := hrel
    have ho := Lib.hid ho
    have hbr := Lib.hid hbr
    have hb := Lib.hid hb
    cases gk with
    | zero =>
      obtain rfl : k = 65 := by omega
      have e0 : ¬ ((65 : Int) < 65) := by omega
      obtain ⟨g1, cap, rfl, hcap, hcap2, hA65⟩ := own_asks ho.out (m := 65) (by omega) (Nat.le_refl _)
      obtain ⟨g1', cap', hv', _, _, hA64⟩ := own_asks ho.out (m := 64) (by omega) (by omega)
      cases hv'
      have t64 := text_any (List.replicate 64 ask0) (some ⟨g1, 0, none⟩) 64 cap wr (by rw [List.length_replicate]) hA64 (by omega) (fun a ha => (rep_all 64 a ha).2.st) (hE'.out.below hb.out).tab
      have t65 := fun W (hbW : Below wr.heap.size wr W) => text_any (List.replicate 65 ask0) (some ⟨g1, 0, none⟩) 65 cap W (by rw [List.length_replicate]) (hA65.below hbW) (by omega) (fun a ha => (rep_all 65 a ha).2.st) (hE'.out.below (Below.next hb.out hbW)).tab
      unfold TextPost at t64 t65
      rw [text64] at t64
      rw [text65] at t65
      have hp65 := parse65
      have hw65 := wrong65
      have hs1 := rep_size 65
      have hs2 := ones_size inW 65
      have hq : inW.size = 2 := rfl
      generalize scrT (List.replicate 64 ask0) = T64 at t64
      generalize scrT (List.replicate 65 ask0) = T65 at hp65 hs1 ⊢
      generalize lineT inW (List.replicate 65 1) = A65 at hw65 hs2 ⊢
      have t64 := Lib.hid t64
      have t65 := Lib.hid t65
      have hp65 := Lib.hid hp65
      have hw65 := Lib.hid hw65
      clear hA64 hA65 ho
      go_wp2_with fail
      go_loopg [5, 7] 513 (fun g s5 s7 wy => ∃ j : Nat, j + g = 513 ∧ s7 = .int .i64 j ∧ s5 = .string (lineT withW (List.replicate j 1)) ∧ wr = wy)
      case atStart => exact ⟨0, by omega, rfl, by rw [ones0]; rfl, rfl⟩
      case round =>
        obtain ⟨j, hjg, rfl, rfl, rfl⟩ := hrel
        cases gk with
        | succ g =>
          have e1 : (j : Int) < 513 := by omega
          have q2 := ones_size withW j
          have q3 : withW.size = 4 := rfl
          have q5 : (⟨#[32, 49]⟩ : ByteArray).size = 2 := rfl
          have r2 := ones withW j
          generalize lineT withW (List.replicate j 1) = Y at q2 r2 ⊢
          have p2 : ¬ 9223372036854775807 < Y.size + (⟨#[32, 49]⟩ : ByteArray).size := by omega
          have r2 := Lib.hid r2
          have hw1 : IntKind.i64.wrap ((j : Int) + 1) = (j : Int) + 1 := by rw [IntKind.wrap_i64]; omega
          clear q2 q3 q5
          go_wp2
          go_roundg g
          case measure => omega
          case rel =>
            refine ⟨j + 1, by omega, by go_num, ?_, rfl⟩
            rw [r2.out]; rfl
        | zero =>
          obtain rfl : j = 513 := by omega
          have e1 : ¬ ((513 : Int) < 513) := by omega
          have hw513 := wrong513
          have hs3 := ones_size withW 513
          have hq3 : withW.size = 4 := rfl
          generalize lineT withW (List.replicate 513 1) = B513 at hw513 hs3 ⊢
          have hw513 := Lib.hid hw513
          have hz1 : (⟨#[10, 115, 111, 117, 114, 99, 101, 32, 48, 10]⟩ : ByteArray).size = 10 := rfl
          have hz2 : (⟨#[105, 110, 10]⟩ : ByteArray).size = 3 := rfl
          have y1 : ¬ 9223372036854775807 < A65.size + (⟨#[10, 115, 111, 117, 114, 99, 101, 32, 48, 10]⟩ : ByteArray).size := by omega
          have y2 : ¬ 9223372036854775807 < (⟨#[105, 110, 10]⟩ : ByteArray).size + B513.size := by omega
          have y3 : ¬ 9223372036854775807 < ((⟨#[105, 110, 10]⟩ : ByteArray) ++ B513).size + (⟨#[10, 115, 111, 117, 114, 99, 101, 32, 48, 10]⟩ : ByteArray).size := by rw [ByteArray.size_append]; omega
          have y4 : ¬ 9223372036854775807 < (⟨#[105, 110, 10]⟩ : ByteArray).size + B513.size + (⟨#[10, 115, 111, 117, 114, 99, 101, 32, 48, 10]⟩ : ByteArray).size := by omega
          have y5 : ¬ 9223372036854775807 < 3 + B513.size + 10 := by omega
          have z65 := Lib.hid (show T65.size ≤ 2000000 by omega)
          have zA := Lib.hid (show (A65 ++ tail0).size ≤ 2000000 by rw [ByteArray.size_append, show tail0.size = 10 from rfl]; omega)
          have zB := Lib.hid (show (in1 ++ B513 ++ tail0).size ≤ 2000000 by rw [ByteArray.size_append, ByteArray.size_append, show tail0.size = 10 from rfl, show in1.size = 3 from rfl]; omega)
          have hcap' : (64 : Int) ≤ (cap : Int) := by omega
          have hmk := make_big
          clear hs1 hs2 hq hs3 hq3
          go_wp2_with fail
          refine t64.out.mono ?_
          rintro e w1 ⟨rfl, hb1⟩
          have d1 := Lib.hid hb1
          clear hb1
          go_wp2_with fail
          refine (t65.out _ d1.out).mono ?_
          rintro e w2 ⟨rfl, hb2⟩
          have b2 := Lib.hid (Below.next hb.out (Below.next d1.out hb2))
          clear hb2
          go_wp2_with fail
          refine (kP.out _ _ _ _ hp65.out z65.out _ b2.out).mono ?_
          rintro e w3 ⟨B1, k1, rfl, hb3⟩
          have b3 := Lib.hid (Below.next b2.out hb3)
          clear hb3
          have hcv := conv_big w3 1048577 (by decide)
          have b3a := Lib.hid (b3.out.alloc b3.out.size (.cells (madeCells #[.int .u8 0] 1048577) 5))
          have hbig : (⟨(List.replicate 1048577 (0 : UInt8)).toArray⟩ : ByteArray).size = 1048577 := by
            show (List.replicate 1048577 (0 : UInt8)).toArray.size = _
            rw [List.size_toArray, List.length_replicate]
          generalize (⟨(List.replicate 1048577 (0 : UInt8)).toArray⟩ : ByteArray) = BIG at hcv hbig
          have hpb := parseBig (t := BIG) (by omega)
          have zbig := Lib.hid (show BIG.size ≤ 2000000 by omega)
          have hpb := Lib.hid hpb
          generalize madeCells #[.int .u8 0] 1048577 = CS at hcv hmk b3a
          clear hbig
          go_wp2_with fail
          refine (kP.out _ _ _ _ hpb.out zbig.out _ b3a.out).mono ?_
          rintro e w4 ⟨B2, k2, rfl, hb4⟩
          have b4 := Lib.hid (Below.next b3a.out hb4)
          clear hb4 hmk hcv
          go_wp2_with fail
          refine (kP.out _ _ _ _ parse0 (by decide) _ b4.out).mono ?_
          rintro e w5 ⟨B3, k3, rfl, hb5⟩
          have b5 := Lib.hid (Below.next b4.out hb5)
          clear hb5
          go_wp2_with fail
          refine (kN.out _).mono ?_
          rintro e w6 ⟨rfl, hb6⟩
          have bb := Lib.hid (Below.next b5.out hb6)
          clear hb6
          have f65 := Lib.hid (show parseM (A65 ++ ⟨#[10, 115, 111, 117, 114, 99, 101, 32, 48, 10]⟩) = ([], 0, 15) from hw65.out)
          have f513 := Lib.hid (show parseM ((⟨#[105, 110, 10]⟩ : ByteArray) ++ B513 ++ ⟨#[10, 115, 111, 117, 114, 99, 101, 32, 48, 10]⟩) = ([], 1, 15) from hw513.out)
          have zA' := Lib.hid (show (A65 ++ ⟨#[10, 115, 111, 117, 114, 99, 101, 32, 48, 10]⟩ : ByteArray).size ≤ 2000000 from zA.out)
          have zB' := Lib.hid (show ((⟨#[105, 110, 10]⟩ : ByteArray) ++ B513 ++ ⟨#[10, 115, 111, 117, 114, 99, 101, 32, 48, 10]⟩).size ≤ 2000000 from zB.out)
          have fpw1 := Lib.hid (And.intro (show parseM ⟨#[105, 110, 10, 115, 111, 117, 114, 99, 101, 32, 49, 48, 48, 48, 48, 48, 49, 10]⟩ = ([], 1, 15) from pw1) (show (⟨#[105, 110, 10, 115, 111, 117, 114, 99, 101, 32, 49, 48, 48, 48, 48, 48, 49, 10]⟩ : ByteArray).size ≤ 2000000 by decide))
          have fpw2 := Lib.hid (And.intro (show parseM ⟨#[105, 110, 10, 109, 97, 99, 104, 105, 110, 101, 32, 49, 10]⟩ = ([], 1, 15) from pw2) (show (⟨#[105, 110, 10, 109, 97, 99, 104, 105, 110, 101, 32, 49, 10]⟩ : ByteArray).size ≤ 2000000 by decide))
          have fpw3 := Lib.hid (And.intro (show parseM ⟨#[105, 110, 10]⟩ = ([], 1, 15) from pw3) (show (⟨#[105, 110, 10]⟩ : ByteArray).size ≤ 2000000 by decide))
          have fpw4 := Lib.hid (And.intro (show parseM ⟨#[115, 111, 117, 114, 99, 101, 32, 49, 10]⟩ = ([], 0, 15) from pw4) (show (⟨#[115, 111, 117, 114, 99, 101, 32, 49, 10]⟩ : ByteArray).size ≤ 2000000 by decide))
          have fpw5 := Lib.hid (And.intro (show parseM ⟨#[105, 110, 10, 115, 111, 117, 114, 99, 101, 32, 49]⟩ = ([], 1, 15) from pw5) (show (⟨#[105, 110, 10, 115, 111, 117, 114, 99, 101, 32, 49]⟩ : ByteArray).size ≤ 2000000 by decide))
          have fpw6 := Lib.hid (And.intro (show parseM ⟨#[105, 110, 10, 108, 101, 97, 107, 32, 49, 56, 52, 52, 54, 55, 52, 52, 48, 55, 51, 55, 48, 57, 53, 53, 49, 54, 49, 54, 32, 49, 10]⟩ = ([], 1, 15) from pw6) (show (⟨#[105, 110, 10, 108, 101, 97, 107, 32, 49, 56, 52, 52, 54, 55, 52, 52, 48, 55, 51, 55, 48, 57, 53, 53, 49, 54, 49, 54, 32, 49, 10]⟩ : ByteArray).size ≤ 2000000 by decide))
          go_wp2_with (go_at_call 16; refine (hnn.out _ _).mono ?_; rintro e wA ⟨rfl, rfl⟩)
          refine (kW0.out _ f65.out zA'.out _ bb.out).mono ?_
          rintro e wq1 ⟨rfl, hbq⟩
          have bb := Lib.hid (Below.next bb.out hbq)
          clear hbq
          go_wp2_with fail
          refine (kW1.out _ f513.out zB'.out _ bb.out).mono ?_
          rintro e wq2 ⟨rfl, hbq⟩
          have bb := Lib.hid (Below.next bb.out hbq)
          clear hbq
          go_wp2_with fail
          refine (kW1.out _ fpw1.out.1 fpw1.out.2 _ bb.out).mono ?_
          rintro e wq3 ⟨rfl, hbq⟩
          have bb := Lib.hid (Below.next bb.out hbq)
          clear hbq
          go_wp2_with fail
          refine (kW1.out _ fpw2.out.1 fpw2.out.2 _ bb.out).mono ?_
          rintro e wq4 ⟨rfl, hbq⟩
          have bb := Lib.hid (Below.next bb.out hbq)
          clear hbq
          go_wp2_with fail
          refine (kW1.out _ fpw3.out.1 fpw3.out.2 _ bb.out).mono ?_
          rintro e wq5 ⟨rfl, hbq⟩
          have bb := Lib.hid (Below.next bb.out hbq)
          clear hbq
          go_wp2_with fail
          refine (kW0.out _ fpw4.out.1 fpw4.out.2 _ bb.out).mono ?_
          rintro e wq6 ⟨rfl, hbq⟩
          have bb := Lib.hid (Below.next bb.out hbq)
          clear hbq
          go_wp2_with fail
          refine (kW1.out _ fpw5.out.1 fpw5.out.2 _ bb.out).mono ?_
          rintro e wq7 ⟨rfl, hbq⟩
          have bb := Lib.hid (Below.next bb.out hbq)
          clear hbq
          go_wp2_with fail
          refine (kW1.out _ fpw6.out.1 fpw6.out.2 _ bb.out).mono ?_
          rintro e wq8 ⟨rfl, hbq⟩
          have bb := Lib.hid (Below.next bb.out hbq)
          clear hbq
          go_wp2_with fail
          refine (kK.out _ bb.out).mono ?_
          rintro e wk ⟨rfl, hbk⟩
          have bk := Lib.hid (Below.next bb.out hbk)
          clear hbk
          go_wp2
          go_ret
          exact ⟨rfl, bk.out⟩
    | succ g =>
      have e0 : (k : Int) < 65 := by omega
      obtain ⟨g0, g1, g2, g3, g4, gf⟩ := box5 hbr.out
      have hk65 : k < 65 := by omega
      have q1 := rep_size k
      have q2 := ones_size inW k
      have q3 : inW.size = 2 := rfl
      have q4 : (⟨#[105, 110, 10, 115, 111, 117, 114, 99, 101, 32, 48, 10]⟩ : ByteArray).size = 12 := rfl
      have q5 : (⟨#[32, 49]⟩ : ByteArray).size = 2 := rfl
      have r1 := rep_text k
      have r2 := ones inW k
      obtain ⟨X, hX⟩ : ∃ X, scrT (List.replicate k ask0) = X := ⟨_, rfl⟩
      obtain ⟨Y, hY⟩ : ∃ Y, lineT inW (List.replicate k 1) = Y := ⟨_, rfl⟩
      rw [hX] at q1 r1 ⊢
      rw [hY] at q2 r2 ⊢
      have p1 : ¬ 9223372036854775807 < X.size + (⟨#[105, 110, 10, 115, 111, 117, 114, 99, 101, 32, 48, 10]⟩ : ByteArray).size := by omega
      have p2 : ¬ 9223372036854775807 < Y.size + (⟨#[32, 49]⟩ : ByteArray).size := by omega
      have r1 := Lib.hid r1
      have r2 := Lib.hid r2
      have hoa := Lib.hid (ho.out.alloc (.cells #[.int .i64 1, .slice none 0 0, .slice none 0 0, .int .u64 0, .int .i64 0] 42))
      have hnew := Lib.hid (heap_alloc_new wr (.cells #[.int .i64 1, .slice none 0 0, .slice none 0 0, .int .u64 0, .int .i64 0] 42))
      have hba := Lib.hid (hb.out.alloc hb.out.size (.cells #[.int .i64 1, .slice none 0 0, .slice none 0 0, .int .u64 0, .int .i64 0] 42))
      have hlt := blk_lt hbr.out
      have hbra := Lib.hid ((heap_alloc_old wr (.cells #[.int .i64 1, .slice none 0 0, .slice none 0 0, .int .u64 0, .int .i64 0] 42) hlt).trans hbr.out)
      have hk1 := Lib.hid (show k + 1 ≤ maxLen by unfold maxLen; omega)
      have hk2 := Lib.hid (show (k + 1) * 72 ≤ 140737488355328 by omega)
      have hbs := Lib.hid (show w.heap.size + 1 ≤ (wr.alloc (.cells #[.int .i64 1, .slice none 0 0, .slice none 0 0, .int .u64 0, .int .i64 0] 42)).heap.size by simp; omega)
      have hone := Lib.hid (show ∀ v ∈ cell5, v.oneCell' = true by simp [cell5, Value.oneCell'])
      have hcl := Lib.hid (show ∀ j u, cell5[j]? = some u → (wr.alloc (.cells #[.int .i64 1, .slice none 0 0, .slice none 0 0, .int .u64 0, .int .i64 0] 42)).cell? ((⟨wr.heap.size, 0, none⟩ : Addr).add j) = some u from fun j u hj => by
        rw [Lib.add_plain, blk_cell hnew.out, Nat.zero_add]
        simpa [cell5] using hj)
      obtain ⟨hj1, hj2, hj3, hj4⟩ := hi'.out
      have hw1 : IntKind.i64.wrap ((k : Int) + 1) = (k : Int) + 1 := by rw [IntKind.wrap_i64]; omega
      clear q1 q2 q3 q4 q5 hX hY
      go_wp2_with ((at_builtin; refine wpList_append_own_at _ rfl _ _ 48 rfl (w.heap.size + 1) 42 i0 _ 5 72 und48 hj1 hj2 hj3 hj4 rfl (by decide) _ _ _ rfl hoa.out ⟨wr.heap.size, 0, none⟩ 1 1 cell5 rfl rfl hcl.out hone.out hk1.out hk2.out hbs.out ?_))
      intro v5 w5 ho5 hg5 _ _
      have ho5 := Lib.hid ho5
      have hb5 := Lib.hid (hba.out.grown hg5 hba.out.size (fun k' hk' => by have := (hoa.out.lt k' hk').1; omega))
      have hbr5 := Lib.hid ((hg5.block _ (blk_lt hbra.out) (fun e => by have := (hoa.out.lt _ e.symm).1; omega)).trans hbra.out)
      clear hg5 g0 g1 g2 g3 g4 gf
      go_wp2
      go_roundg g
      case measure => omega
      case rel =>
        refine ⟨k + 1, by omega, by go_num, ?_, ?_, ?_, hbr5.out, hb5.out⟩
        · rw [cellsR_succ]; exact ho5.out
        · rw [r1.out]; rfl
        · rw [r2.out]; rfl
end Go.Proofs.YtkbmckmlnphpmaaGreatDoor
