/- ScriptParses: the walk. -/
import Derived.Test.YtkbmckmlnphpmaaGreatDoorBC
import Derived.Laws.Rows
set_option linter.unusedSimpArgs false
set_option linter.unusedVariables false
namespace Go.Proofs.YtkbmckmlnphpmaaGreatDoor
open Go.RowKit Go.Lib Go.Shelf

/-- the worlds that have grown out of w -/
def Sub (w : World) : Type := { w' : World // Below w.heap.size w w' }
instance (w : World) : Nonempty (Sub w) := ⟨⟨w, Below.refl _ _⟩⟩
theorem wp_region_below {P : Program} {id : Nat} {Q : Exit → Act → World → Prop} {a : Act} {w : World} {l : List Oper} (hm : P.follows .mixedOrders = true) (hB : Region.lexB .any l.toArray = true)
    (h : wpQuiet P l.toArray (fun w' => ∃ s : Sub w, w' = s.val) (fun a' => ∀ w', (∃ s : Sub w, w' = s.val) → Q .normal a' w') l a) : (Code.region id l.toArray true).wp P Q a w :=
  wp_region_quiet (C := fun w' => ∃ s : Sub w, w' = s.val) hm hB ⟨⟨{ w with drawn := w.drawn + 1 }, (Below.refl _ _).drew⟩, rfl⟩ (by simpa using h)
theorem Sub.cell {w : World} {b o : Nat} {v : Value} (h : w.cell? ⟨b, o, none⟩ = some v) : ∀ s : Sub w, s.val.cell? ⟨b, o, none⟩ = some v :=
  fun s => (s.property.cell (p := ⟨b, o, none⟩) (World.block_lt_of_cell? w _ h)).trans h
theorem Sub.call {P : Program} {f : FuncId} {args : Array Value} {w : World} {s : Sub w} {v : Value} (h : Calls P f args s.val fun e w' => e = .returned v ∧ Below s.val.heap.size s.val w') :
    Calls P f args s.val fun e w'' => e = .returned v ∧ ∃ t : Sub w, w'' = t.val :=
  h.mono fun _ w'' ⟨he, hb⟩ => ⟨he, ⟨w'', Below.next s.property hb⟩, rfl⟩
theorem AskAt.ok {w : World} {a : Ask} {A1 A2 : Option Addr} (h : AskAt w a A1 A2) : AskOK w a A1 A2 := ⟨h.1, h.2.1, by have := h.2.2.1; omega, by have := h.2.2.2; omega⟩
/-- an asking's cells in a slice -/
theorem ask_cells {w : World} {A : Option Addr} {L : List Ask} (h : AsksAt w A L) {k : Nat} (hk : k < L.length) : ∃ g a A1 c1 A2 c2, A = some ⟨g, 0, none⟩ ∧ L[k]? = some a ∧ AskAt w a A1 A2 ∧
    w.cell? ⟨g, k * 5, none⟩ = some (.int .i64 a.k) ∧ w.cell? ⟨g, k * 5 + 1, none⟩ = some (.slice A1 a.args.length c1) ∧ w.cell? ⟨g, k * 5 + 2, none⟩ = some (.slice A2 a.regs.length c2) ∧ w.cell? ⟨g, k * 5 + 3, none⟩ = some (.int .u64 a.st) ∧ w.cell? ⟨g, k * 5 + 4, none⟩ = some (.int .i64 a.fu) := by
  obtain ⟨g, e, hc⟩ := h (by omega)
  have e1 : L[k]? = some L[k] := List.getElem?_eq_getElem hk
  obtain ⟨A1, c1, A2, c2, h1, h2⟩ := hc k _ e1
  exact ⟨g, _, A1, c1, A2, c2, e, e1, h2, h1 0 _ rfl, h1 1 _ rfl, h1 2 _ rfl, h1 3 _ rfl, h1 4 _ rfl⟩
theorem AsksAt.below {w w' : World} {A : Option Addr} {L : List Ask} (h : AsksAt w A L) (hb : Below w.heap.size w w') : AsksAt w' A L := by
  intro hn
  obtain ⟨g, e, hc⟩ := h hn
  refine ⟨g, e, fun i a hi => ?_⟩
  obtain ⟨A1, c1, A2, c2, h1, h2⟩ := hc i a hi
  exact ⟨A1, c1, A2, c2, fun j v hj => (hb.cell (p := ⟨g, i * 5 + j, none⟩) (cell_some_lt (h1 j v hj))).trans (h1 j v hj), h2.1.below hb, h2.2.1.below hb, h2.2.2⟩

theorem parseM_len (text : ByteArray) : (parseM text).1.length ≤ 64 := by
  unfold parseM
  split
  · exact Nat.zero_le _
  · unfold finM
    split
    · exact Nat.zero_le _
    · split
      · exact Nat.zero_le _
      · split
        · exact Nat.zero_le _
        · dsimp only; omega

set_option maxRecDepth 100000 in
set_option maxHeartbeats 8000000 in
theorem scriptParses_any (text : ByteArray) (w : World) (hE : Env w) : Calls Tryz.prog 5 #[.string text] w (BoolPost true w) := by
  have hk0 := Lib.hid (known_any w hE)
  by_cases h1 : 30000 < text.size
  · have e1 : (30000 : Int) < (text.size : Int) := by omega
    clear h1
    go_enter Tryz.func5, Tryz.ntmps5
    go_wp2_with fail
    refine hk0.out.mono ?_
    rintro e w1 ⟨rfl, hb⟩
    have hb' := Lib.hid hb
    clear hb
    go_wp2
    go_ret
    exact ⟨rfl, hb'.out⟩
  · have e1 : ¬ (30000 : Int) < (text.size : Int) := by omega
    have kP := parse_any text w hE (.inl (by omega))
    have kQ := fun W => refParse_any text W (.inl (by omega))
    unfold ParsePost at kP kQ
    have hlen := parseM_len text
    obtain ⟨⟨L, nn, er⟩, hp⟩ : ∃ x, parseM text = x := ⟨_, rfl⟩
    rw [hp] at kP kQ hlen
    dsimp only at kP kQ hlen
    obtain ⟨n, hn⟩ : ∃ n, L.length = n := ⟨_, rfl⟩
    rw [hn] at kP kQ hlen
    have kP := Lib.hid kP
    have kQ := Lib.hid kQ
    have hn' := Lib.hid hn
    have kK := Lib.hid fun (W : World) (hb : Below w.heap.size w W) => known_any W (hE.below hb)
    have hnn := Lib.hid fun e w => num_any e w
    clear hE h1 hk0 hp hn
    go_enter Tryz.func5, Tryz.ntmps5
    go_wp2_with fail
    refine kP.out.mono ?_
    rintro e w1 ⟨A, c, rfl, hA, hb1⟩
    have b1 := Lib.hid hb1
    have hA := Lib.hid hA
    clear hb1
    go_wp2_with fail
    refine (kQ.out _).mono ?_
    rintro e w2 ⟨B, c2, rfl, hB, hb2⟩
    have hA := Lib.hid (hA.out.below hb2)
    have hB := Lib.hid hB
    have b2 := Lib.hid (Below.next b1.out hb2)
    clear hb2
    go_wp2_with fail
    refine (hnn.out _ _).mono ?_
    rintro e w3 ⟨rfl, rfl⟩
    go_wp2_with fail
    go_loopg [9] n (fun g s9 wr => ∃ k : Nat, k + g = n ∧ s9 = .int .i64 k ∧ Below w2.heap.size w2 wr)
    case atStart => exact ⟨0, by omega, rfl, Below.refl _ _⟩
    case round =>
      obtain ⟨k, hkg, rfl, hb⟩ := hrel
      have hb' := Lib.hid hb
      clear hb
      cases gk with
      | zero =>
        have e0 : ¬ ((k : Int) < (n : Int)) := by omega
        go_wp2_with fail
        refine (kK.out _ (Below.next b2.out hb'.out)).mono ?_
        rintro e w4 ⟨rfl, hb4⟩
        have b4 := Lib.hid (Below.next (Below.next b2.out hb'.out) hb4)
        clear hb4
        go_wp2
        go_ret
        exact ⟨rfl, b4.out⟩
      | succ g =>
        have e0 : (k : Int) < (n : Int) := by omega
        obtain ⟨g1, a, A1, c1, A2, c2', rfl, ha, hok, y0, y1, y2, y3, y4⟩ := ask_cells (hA.out.below hb'.out) (k := k) (by rw [hn'.out]; omega)
        obtain ⟨g2, a2, B1, d1, B2, d2, rfl, ha2, hok2, z0, z1, z2, z3, z4⟩ := ask_cells (hB.out.below hb'.out) (k := k) (by rw [hn'.out]; omega)
        rw [ha] at ha2
        cases ha2
        have y0 := Sub.cell y0
        have y1 := Sub.cell y1
        have y2 := Sub.cell y2
        have y3 := Sub.cell y3
        have y4 := Sub.cell y4
        have z0 := Sub.cell z0
        have z1 := Sub.cell z1
        have z2 := Sub.cell z2
        have z3 := Sub.cell z3
        have z4 := Sub.cell z4
        have hsame := Lib.hid fun (s : Sub wr) => (show Calls Tryz.prog 23 #[.agg #[.int .i64 a.k, .slice A1 a.args.length c1, .slice A2 a.regs.length c2', .int .u64 a.st, .int .i64 a.fu], .agg #[.int .i64 a.k, .slice B1 a.args.length d1, .slice B2 a.regs.length d2, .int .u64 a.st, .int .i64 a.fu]] s.val (fun e w' => e = .returned (.bool true) ∧ Below s.val.heap.size s.val w') from by
          have h := refSame_any a a A1 A2 B1 B2 c1 c2' d1 d2 s.val (hok.ok.below s.property) (hok2.ok.below s.property)
          rw [decide_eq_true rfl] at h
          exact h)
        clear ha hok hok2
        go_wp2_with fail
        refine wp_region_below (by kernel_rfl) (by kernel_rfl) ?_
        repeat (go_big_quiet_step (((go_at_call 23; exact Sub.call (hsame.out _)))))
        refine wpQuiet_nil ?_
        rintro _ ⟨⟨w3, hb3⟩, rfl⟩
        have hb3' := Lib.hid (Below.next hb'.out hb3)
        clear hb3 y0 y1 y2 y3 y4 z0 z1 z2 z3 z4
        go_wp2
        go_roundg g
        case measure => omega
        case rel => exact ⟨k + 1, by omega, by go_num, hb3'.out⟩
end Go.Proofs.YtkbmckmlnphpmaaGreatDoor
