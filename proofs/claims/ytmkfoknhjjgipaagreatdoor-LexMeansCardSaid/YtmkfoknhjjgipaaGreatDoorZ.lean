/- The reference's sign. -/
import Derived.Test.YtmkfoknhjjgipaaGreatDoorY
set_option linter.unusedSimpArgs false
set_option linter.unusedVariables false
namespace Go.Proofs.YtmkfoknhjjgipaaGreatDoor
open Go.RowKit Go.Lib Go.Shelf

def sgCells : Array Value := #[Value.string ⟨#[40]⟩, Value.string ⟨#[41]⟩, Value.string ⟨#[123]⟩, Value.string ⟨#[125]⟩, Value.string ⟨#[91]⟩, Value.string ⟨#[93]⟩, Value.string ⟨#[44]⟩, Value.string ⟨#[59]⟩, Value.string ⟨#[61]⟩, Value.string ⟨#[43]⟩, Value.string ⟨#[45]⟩, Value.string ⟨#[42]⟩, Value.string ⟨#[38]⟩, Value.string ⟨#[124]⟩, Value.string ⟨#[94]⟩, Value.string ⟨#[126]⟩, Value.string ⟨#[60]⟩, Value.string ⟨#[60, 60]⟩, Value.string ⟨#[60, 60, 60]⟩, Value.string ⟨#[60, 61]⟩, Value.string ⟨#[62]⟩, Value.string ⟨#[62, 62]⟩, Value.string ⟨#[62, 62, 62]⟩, Value.string ⟨#[62, 62, 62, 62]⟩, Value.string ⟨#[61, 61]⟩, Value.string ⟨#[33, 61]⟩, Value.string ⟨#[45, 62]⟩]
theorem sgCells_get {j : Nat} {x : ByteArray} (h : signS[j]? = some x) : sgCells[j]? = some (.string x) := by
  have e : sgCells = (signS.map Value.string).toArray := rfl
  rw [e, List.getElem?_toArray, List.getElem?_map, h]
  rfl
theorem sg_get (j : Nat) (hj : j < 27) : ∃ x, signS[j]? = some x := ⟨_, List.getElem?_eq_getElem (show j < signS.length from hj)⟩
theorem bytes_ne' {x y : ByteArray} (h : x ≠ y) : (x.toList == y.toList) = false := by
  rw [beq_eq_false_iff_ne]
  intro e
  rw [ByteArray.toList_eq, ByteArray.toList_eq] at e
  exact h (ext_bytes e)
theorem below_drewN' {B : Nat} {a w : World} (h : Below B a w) (n : Nat) : Below B a (w.drewN n) := ⟨h.os, h.tape, h.output, h.size, h.block⟩
theorem take_fold {l : List UInt8} {k : Nat} {x : ByteArray} (h : signS[k]? = some x) : (signS.take (k + 1)).foldl (bStep l) 0 = bStep l ((signS.take k).foldl (bStep l) 0) x := by
  rw [List.take_add_one, h, List.foldl_append]
  rfl
theorem bStep_le {l : List UInt8} : ∀ (ss : List ByteArray) (b : Nat), b ≤ l.length → ss.foldl (bStep l) b ≤ l.length
  | [], b, h => h
  | x :: ss, b, h => by
    rw [List.foldl_cons]
    refine bStep_le ss _ ?_
    unfold bStep
    split
    · rename_i hc; exact hc.2.1
    · exact h
set_option maxRecDepth 100000 in
set_option maxHeartbeats 4000000 in
theorem sg_any (s : ByteArray) (a : Nat) (w : World) (hs : s.size ≤ 2000000) (ha : a ≤ s.size) : Calls Tryz.prog 65 #[.string s, .int .i64 a] w fun e w' => e = .returned (.int .i64 (sgN (s.data.toList.drop a) : Nat)) ∧ Below w.heap.size w w' := by
  obtain ⟨l, hl⟩ : ∃ l, s.data.toList.drop a = l := ⟨_, rfl⟩
  have hlen : l.length = s.size - a := by rw [← hl, List.length_drop, size_list]
  have hex : ∀ n, s.extract a (a + n) = mkB (l.take n) := fun n => by rw [extract_mk, hl]
  have hex := Lib.hid hex
  rw [hl]
  clear hl
  have hb0 := Lib.hid ((Below.refl w.heap.size w).alloc (Nat.le_refl _) (.cells sgCells 9))
  have hc0 := Lib.hid (show ∀ j x, signS[j]? = some x → (w.alloc (.cells sgCells 9)).cell? ⟨w.heap.size, j, none⟩ = some (.string x) from fun j x hx => by
    rw [blk_cell (heap_alloc_new w _)]
    exact sgCells_get hx)
  go_enter Tryz.func65, Tryz.ntmps65
  go_wp2_with fail
  have hcells : (#[Value.string ⟨#[40]⟩, Value.string ⟨#[41]⟩, Value.string ⟨#[123]⟩, Value.string ⟨#[125]⟩, Value.string ⟨#[91]⟩, Value.string ⟨#[93]⟩, Value.string ⟨#[44]⟩, Value.string ⟨#[59]⟩, Value.string ⟨#[61]⟩, Value.string ⟨#[43]⟩, Value.string ⟨#[45]⟩, Value.string ⟨#[42]⟩, Value.string ⟨#[38]⟩, Value.string ⟨#[124]⟩, Value.string ⟨#[94]⟩, Value.string ⟨#[126]⟩, Value.string ⟨#[60]⟩, Value.string ⟨#[60, 60]⟩, Value.string ⟨#[60, 60, 60]⟩, Value.string ⟨#[60, 61]⟩, Value.string ⟨#[62]⟩, Value.string ⟨#[62, 62]⟩, Value.string ⟨#[62, 62, 62]⟩, Value.string ⟨#[62, 62, 62, 62]⟩, Value.string ⟨#[61, 61]⟩, Value.string ⟨#[33, 61]⟩, Value.string ⟨#[45, 62]⟩] : Array Value) = sgCells := rfl
  rw [hcells]
  clear hcells
  go_loopg [6, 7] 27 (fun g s6 s7 wr => ∃ k : Nat, k + g = 27 ∧ s7 = .int .i64 k ∧ s6 = .int .i64 (((signS.take k).foldl (bStep l) 0 : Nat) : Int) ∧ Below w.heap.size w wr ∧ (∀ j x, signS[j]? = some x → wr.cell? ⟨w.heap.size, j, none⟩ = some (.string x)))
  case atStart => exact ⟨0, by omega, rfl, rfl, hb0.out, hc0.out⟩
  case round =>
    obtain ⟨k, hkg, rfl, rfl, hb, hc⟩ := hrel
    have hble := bStep_le (l := l) (signS.take k) 0 (Nat.zero_le _)
    obtain ⟨b, hbe⟩ : ∃ b, (signS.take k).foldl (bStep l) 0 = b := ⟨_, rfl⟩
    rw [hbe] at hble ⊢
    have hbe := Lib.hid hbe
    have hb := Lib.hid hb
    have hc := Lib.hid hc
    cases gk with
    | zero =>
      have e0 : ¬ ((k : Int) < 27) := by omega
      have hfin := Lib.hid (show b = sgN l by
        rw [← best_sg, ← hbe.out, List.take_of_length_le (by rw [sign_len]; omega)])
      go_wp2
      go_ret
      exact ⟨congrArg (fun x : Nat => Ending.returned (.int .i64 (x : Int))) hfin.out, hb.out⟩
    | succ g =>
      have e0 : (k : Int) < 27 := by omega
      obtain ⟨x, hx⟩ := sg_get k (by omega)
      have cx := hc.out k x hx
      have hst := Lib.hid (take_fold (l := l) hx)
      obtain ⟨n, hn⟩ : ∃ n, x.size = n := ⟨_, rfl⟩
      have hnx := Lib.hid hn
      have hn4 : n ≤ 1000 := by
        have := (sign_calm (l := x.data.toList) ((Lib.containsS_iff _ _).2 (by
          have e : mkB x.data.toList = x := ext_bytes (mkB_list _)
          rw [e]; exact List.mem_of_getElem? hx))).2.1
        rw [size_list] at this
        omega
      have w1 : IntKind.i64.wrap ((a : Int) + (n : Int)) = ((a + n : Nat) : Int) := by rw [IntKind.wrap_i64]; omega
      clear hx
      by_cases c1 : b < n
      · have d1 : decide ((b : Int) < (n : Int)) = true := by simp; omega
        by_cases c2 : a + n ≤ s.size
        · have d2 : decide ((a : Int) + (n : Int) ≤ (s.size : Int)) = true := by simp; omega
          have hle : (a : Int) + (n : Int) ≤ (s.size : Int) := by omega
          by_cases c3 : mkB (l.take n) = x
          · have d3 : ((mkB (l.take n)).toList == x.toList) = true := by rw [c3]; simp
            have hnew := Lib.hid (show bStep l b x = n by unfold bStep; rw [hnx.out, if_pos ⟨c1, by omega, c3⟩])
            clear c3
            go_wp2
            go_quiet (fail)
            go_wp2
            go_roundg g
            case measure => omega
            case rel => exact ⟨k + 1, by omega, by go_num, by rw [hst.out, hbe.out, hnew.out], below_drewN' hb.out _, hc.out⟩
          · have d3 := bytes_ne' c3
            have hnew := Lib.hid (show bStep l b x = b by unfold bStep; rw [hnx.out, if_neg (fun h => c3 h.2.2)])
            clear c3
            go_wp2
            go_quiet (fail)
            go_wp2
            go_roundg g
            case measure => omega
            case rel => exact ⟨k + 1, by omega, by go_num, by rw [hst.out, hbe.out, hnew.out], below_drewN' hb.out _, hc.out⟩
        · have d2 : decide ((a : Int) + (n : Int) ≤ (s.size : Int)) = false := by simp; omega
          have hnew := Lib.hid (show bStep l b x = b by unfold bStep; rw [hnx.out, if_neg (fun h => c2 (by have := h.2.1; omega))])
          go_wp2
          go_quiet (fail)
          go_wp2
          go_roundg g
          case measure => omega
          case rel => exact ⟨k + 1, by omega, by go_num, by rw [hst.out, hbe.out, hnew.out], below_drewN' hb.out _, hc.out⟩
      · have d1 : decide ((b : Int) < (n : Int)) = false := by simp; omega
        have hnew := Lib.hid (show bStep l b x = b by unfold bStep; rw [hnx.out, if_neg (fun h => c1 h.1)])
        go_wp2
        go_quiet (fail)
        go_wp2
        go_roundg g
        case measure => omega
        case rel => exact ⟨k + 1, by omega, by go_num, by rw [hst.out, hbe.out, hnew.out], below_drewN' hb.out _, hc.out⟩
end Go.Proofs.YtmkfoknhjjgipaaGreatDoor
