/- A meaning called, whichever it is; the search's plain law. The instruction whose line it is: what unline answers. The instruction whose line it is: unline, of a label's line. The instruction whose line it is: unline, of any other line. The instruction whose line it is: unline, Unline. -/
import Derived.Test.YtmimmnjdgpdjlaaGreatDoorQ
import Derived.Test.YtmimmnjdgpdjlaaGreatDoorR
import Derived.Test.YtmimmnjdgpdjlaaGreatDoorY
import Derived.Deep.MidRow
import Derived.OrdersHeld
import Derived.Laws.CopyOwn
set_option linter.unusedSimpArgs false
set_option linter.unusedVariables false
namespace Go.Proofs.YtmimmnjdgpdjlaaGreatDoor
open Go.RowKit Go.Lib Go.Shelf Go.MapKept

theorem ent68 (args : Array Value) (w2 : World) : (callFunc 68 args).run Tryz.prog w2 = .ok (.enter 68 args) w2 := by kernel_rfl
theorem ent71 (args : Array Value) (w2 : World) : (callFunc 71 args).run Tryz.prog w2 = .ok (.enter 71 args) w2 := by kernel_rfl
theorem ent74 (args : Array Value) (w2 : World) : (callFunc 74 args).run Tryz.prog w2 = .ok (.enter 74 args) w2 := by kernel_rfl
theorem ent76 (args : Array Value) (w2 : World) : (callFunc 76 args).run Tryz.prog w2 = .ok (.enter 76 args) w2 := by kernel_rfl
theorem ent77 (args : Array Value) (w2 : World) : (callFunc 77 args).run Tryz.prog w2 = .ok (.enter 77 args) w2 := by kernel_rfl
theorem ent79 (args : Array Value) (w2 : World) : (callFunc 79 args).run Tryz.prog w2 = .ok (.enter 79 args) w2 := by kernel_rfl
theorem ent80 (args : Array Value) (w2 : World) : (callFunc 80 args).run Tryz.prog w2 = .ok (.enter 80 args) w2 := by kernel_rfl
theorem ent82 (args : Array Value) (w2 : World) : (callFunc 82 args).run Tryz.prog w2 = .ok (.enter 82 args) w2 := by kernel_rfl
theorem ent85 (args : Array Value) (w2 : World) : (callFunc 85 args).run Tryz.prog w2 = .ok (.enter 85 args) w2 := by kernel_rfl
theorem ent88 (args : Array Value) (w2 : World) : (callFunc 88 args).run Tryz.prog w2 = .ok (.enter 88 args) w2 := by kernel_rfl
theorem ent_fn (r : Rd) (args : Array Value) (w2 : World) : (callFunc (fnOf r) args).run Tryz.prog w2 = .ok (.enter (fnOf r) args) w2 := by
  cases r with
  | two op bn cd => exact ent68 args w2
  | imm op bn sh => exact ent71 args w2
  | one op => exact ent74 args w2
  | lbl op cd => exact ent76 args w2
  | load => exact ent77 args w2
  | store => exact ent79 args w2
  | byte => exact ent80 args w2
  | ret => exact ent82 args w2
  | shc hh => exact ent85 args w2
  | setc c => exact ent88 args w2
/-- a meaning called: with its box, or without one -/
theorem call_box (r : Rd) (hr : bare r = false) (b : Nat) (G : Nat → Option Gh) (F : Nat → Prop) (w0 w : World) (rb : Nat) (l : List (List UInt8)) (h : Ask G F w0 w rb l) (hb : G b = some (.box r)) :
    Calls Tryz.prog (fnOf r) #[.pointer (some ⟨rb, 0, none⟩), .pointer (some ⟨b, 0, none⟩)] w (ReadPost G (rdM r l) rb w) := by
  cases r with
  | two op bn cd => exact call_two op bn cd b G F w0 w rb l h hb
  | imm op bn sh => exact call_imm op bn sh b G F w0 w rb l h hb
  | one op => exact call_one op b G F w0 w rb l h hb
  | lbl op cd => exact call_lbl op cd b G F w0 w rb l h hb
  | shc hh => exact call_shc hh b G F w0 w rb l h hb
  | setc c => exact call_setc c b G F w0 w rb l h hb
  | load => simp [bare] at hr
  | store => simp [bare] at hr
  | byte => simp [bare] at hr
  | ret => simp [bare] at hr
theorem call_bare (r : Rd) (hr : bare r = true) (G : Nat → Option Gh) (F : Nat → Prop) (w0 w : World) (rb : Nat) (l : List (List UInt8)) (h : Ask G F w0 w rb l) :
    Calls Tryz.prog (fnOf r) #[.pointer (some ⟨rb, 0, none⟩)] w (ReadPost G (rdM r l) rb w) := by
  cases r with
  | load => exact call_load G F w0 w rb l h
  | store => exact call_store G F w0 w rb l h
  | byte => exact call_byte G F w0 w rb l h
  | ret => exact call_ret G F w0 w rb l h
  | two op bn cd => simp [bare] at hr
  | imm op bn sh => simp [bare] at hr
  | one op => simp [bare] at hr
  | lbl op cd => simp [bare] at hr
  | shc hh => simp [bare] at hr
  | setc c => simp [bare] at hr
theorem Keep.mix {S T : Nat → Prop} {w W V : World} (h : Keep S w W) (k : Keep T W V) (hT : ∀ b, b < w.heap.size → T b → S b) : Keep S w V :=
  ⟨k.1.trans h.1, k.2.1.trans h.2.1, k.2.2.1.trans h.2.2.1, Nat.le_trans h.2.2.2.1 k.2.2.2.1, fun i hi hs => (k.2.2.2.2 i (Nat.lt_of_lt_of_le hi h.2.2.2.1) (fun e => hs (hT i hi e))).trans (h.2.2.2.2 i hi hs)⟩
theorem Keep.row {S : Nat → Prop} {w w' : World} {lo : Nat} {v : Value} {n : Nat} {xs : List Value} (h : w.ownsRow lo 105 1 v n xs) (hk : Keep S w w') (hv : ∀ b, v.ownBlock = some b → ¬ S b) : w'.ownsRow lo 105 1 v n xs := by
  refine ⟨h.1, ?_⟩
  rcases h.2 with q | ⟨g, cap, cur, e, q1, q2, rest⟩
  · exact .inl q
  · exact .inr ⟨g, cap, cur, e, q1, hk.at q2 (hv g (by rw [e]; rfl)), rest⟩
/-- the boxes alone may change -/
def Bxs (G : Nat → Option Gh) : Nat → Prop := fun k => ∃ r, G k = some (.box r)
theorem Table.calls {w w' : World} {lo m : Nat} {G : Nat → Option Gh} {T : List (List UInt8 × List Rd)} (h : Table w lo m G T) (hk : Keep (Bxs G) w w') (hb : ∀ b r, G b = some (.box r) → BoxAt w' b r) : Table w' lo m G T := by
  obtain ⟨⟨es, clock, h1, h2, h3⟩, h4, h5, h6, h7⟩ := h
  refine ⟨⟨es, clock, hk.at h1 (fun e => by obtain ⟨r, hr⟩ := e; rw [h5] at hr; cases hr), h2, fun i e x he hx => ?_⟩, h4, h5, hb, fun b x hx => ⟨(h7 b x hx).1, Nat.lt_of_lt_of_le (h7 b x hx).2 hk.2.2.2.1⟩⟩
  obtain ⟨r1, fs, r2, r3, r4⟩ := h3 i e x he hx
  exact ⟨r1, fs, Keep.row r2 hk (fun b hb2 e2 => by obtain ⟨r, hr⟩ := e2; rw [r4 b hb2] at hr; cases hr), r3, r4⟩
/-! what is read lies within its words -/
theorem immP_lt (l : List UInt8) : immP l < 18446744073709551616 := numP_lt _
theorem addrP_dp (l : List UInt8) : -9223372036854775808 ≤ (addrP l).dp ∧ (addrP l).dp ≤ 9223372036854775807 := sgn_range _ (numP_lt _)
theorem rdM_fit (r : Rd) (l : List (List UInt8)) : (rdM r l).im < 18446744073709551616 ∧ -9223372036854775808 ≤ (rdM r l).dp ∧ (rdM r l).dp ≤ 9223372036854775807 := by
  cases r <;> simp only [rdM, inZ] <;> first | exact ⟨immP_lt _, by decide, by decide⟩ | exact ⟨by decide, by decide, by decide⟩ | exact ⟨by decide, (addrP_dp _).1, (addrP_dp _).2⟩
theorem lab_fit (s : List UInt8) : (labP s).im < 18446744073709551616 ∧ -9223372036854775808 ≤ (labP s).dp ∧ (labP s).dp ≤ 9223372036854775807 := by
  show (0 : Nat) < 18446744073709551616 ∧ (-9223372036854775808 : Int) ≤ 0 ∧ (0 : Int) ≤ 9223372036854775807
  omega
theorem isL_eq {s : List UInt8} {i : In} (h : i.im < 18446744073709551616) : isL s i = (mayB i && decide (lineL i = s)) := by unfold isL; rw [decide_eq_true h, Bool.and_true]
theorem find_found {α : Type} {p : α → Bool} : ∀ {L : List α} {k : Nat} {x : α}, L[k]? = some x → p x = true → (∀ (j : Nat) (y : α), j < k → L[j]? = some y → p y = false) → L.find? p = some x
  | [], k, x, h, _, _ => by simp at h
  | a :: L, 0, x, h, hp, _ => by
    obtain rfl : a = x := by simpa using h
    rw [List.find?_cons, hp]
  | a :: L, k + 1, x, h, hp, hn => by
    rw [List.find?_cons, hn 0 a (by omega) rfl]
    exact find_found (by simpa using h) hp fun j y hj hy => hn (j + 1) y (by omega) (by simpa using hy)
theorem find_none {α : Type} {p : α → Bool} {L : List α} (hn : ∀ (j : Nat) (y : α), L[j]? = some y → p y = false) : L.find? p = none := by
  rw [List.find?_eq_none]
  intro x hx
  obtain ⟨j, hj⟩ := List.getElem?_of_mem hx
  rw [hn j x hj]
  simp
end Go.Proofs.YtmimmnjdgpdjlaaGreatDoor
namespace Go.Proofs.YtmimmnjdgpdjlaaGreatDoor
open Go.RowKit Go.Lib Go.Shelf Go.MapKept

theorem Below_on {S : Nat → Prop} {w a b : World} (h : Below w.heap.size w a) (k : Keep S a b) (hS : ∀ k, S k → w.heap.size ≤ k) : Below w.heap.size w b := k.on h hS
def UnlPost (G : Nat → Option Gh) (s : List UInt8) (w : World) (e : Ending) (w' : World) : Prop :=
  ∃ i, e = .returned (.tuple #[inV i, .bool (unlL s).isSome]) ∧ (∀ j, unlL s = some j → i = j) ∧ Keep (Bxs G) w w' ∧ ∀ b r, G b = some (.box r) → BoxAt w' b r
theorem unl_lab {s : List UInt8} (h : s.getLast? = some 58) : unlL s = if mayB (labP s) && decide (lineL (labP s) = s) then some (labP s) else none := by
  unfold unlL triesL
  rw [if_pos h, List.find?_cons, isL_eq (lab_fit s).1]
  cases (mayB (labP s) && decide (lineL (labP s) = s)) <;> rfl
theorem beq_lists (a b : List UInt8) : ((bt a).toList == (bt b).toList) = decide (a = b) := toList_beq a (bt b)
end Go.Proofs.YtmimmnjdgpdjlaaGreatDoor
namespace Go.Proofs.YtmimmnjdgpdjlaaGreatDoor
open Go.RowKit Go.Lib Go.Shelf Go.MapKept

theorem yields_load_row {P : Program} {ops : Array Oper} {S : World → Prop} {o : Oper} {a : Act} (hw : Region.wanted o (yielded ops a.tmps) = true) (ty : TypeId) (x : Operand) (ho : o.op = .load ty x) (g : Nat) (hx : a.eval x = .pointer (some ⟨g, 0, none⟩)) (t : TypeId) (cs : Array Value) (fr : Nat × Nat) (d : TypeDesc)
    (hg : ∀ w, S w → w.heap[g]? = some (.cells cs t fr)) (hu : P.underlying ty = some d) (hd : (match d with | .struct _ | .array _ _ => true | _ => false) = true) (hi : (P.info? ty).map (·.size) = some cs.size) : YieldsIf P ops S o (.agg cs) a :=
  Or.inl ⟨hw, fun w h => by
    unfold execOp
    simp only [ho, hx, Instr.loadAt, Instr.sureAddr, Sem.run_bind, Sem.run_pure, Result.andThen_ok, run_loadVar_row w g t ty cs fr d (hg w h) hu hd hi]⟩
theorem wpOp_ran {P : Program} {ops : Array Oper} {Q : Exit → Act → World → Prop} {i : Nat} {K : Act → World → Prop} {a : Act} {w w' : World} {o : Oper} {v : Value} (hi : ops[i]? = some o) (hw : Region.wanted o (yielded ops a.tmps) = true)
    (hr : (execOp a.eval o).run P w = .ok (.value v) w') (h : K (a.put o.dst v) w') : wpOp P ops Q i K a w := by
  unfold wpOp
  simp only [hi, hw, if_true]
  exact .inl (by unfold Oper.wp; rw [hr]; exact h)
theorem wpOp_wp {P : Program} {ops : Array Oper} {Q : Exit → Act → World → Prop} {i : Nat} {K : Act → World → Prop} {a : Act} {w : World} {o : Oper} (hi : ops[i]? = some o) (hw : Region.wanted o (yielded ops a.tmps) = true)
    (h : o.wp P a w K Q) : wpOp P ops Q i K a w := by
  unfold wpOp
  simp only [hi, hw, if_true]
  exact .inl h
theorem wpOp_call {ops : Array Oper} {Q : Exit → Act → World → Prop} {i : Nat} {K : Act → World → Prop} {a : Act} {w : World} {o : Oper} {f : FuncId} {args : Array Value} {R : Ending → World → Prop} (hi : ops[i]? = some o) (hw : Region.wanted o (yielded ops a.tmps) = true) (hr : (execOp a.eval o).run Tryz.prog w = .ok (.enter f args) w)
    (hc : Calls Tryz.prog f args w R) (h : ∀ e w', R e w' → ∃ v, e = .returned v ∧ K (a.put o.dst v) w') : wpOp Tryz.prog ops Q i K a w :=
  wpOp_wp hi hw (by
    unfold Oper.wp
    rw [hr, Oper.upon_enter]
    refine hc.mono fun e w' hR => ?_
    obtain ⟨v, rfl, hK⟩ := h e w' hR
    exact hK)
set_option maxRecDepth 100000 in
set_option maxHeartbeats 8000000 in
theorem unline33_lab (s : List UInt8) (m : Nat) (G : Nat → Option Gh) (w0 w : World) (hE : Env w0) (hB : Below w0.heap.size w0 w) (hT : Table w w0.heap.size m G tableL) (hs : s.length ≤ 2000000) (hl : s.getLast? = some 58) :
    Calls Tryz.prog 33 #[.string (bt s), .map (some m)] w (UnlPost G s w) := by
  have hcs := Lib.hid (fun W => by
    have hc := Tryz.strings_CutSuffix (bt s) ⟨#[58]⟩ W (by rw [bt_size]; omega)
    rw [show Lib.trimSuffix (bt s).data.toList (⟨#[58]⟩ : ByteArray).data.toList = s.dropLast from (trimS_eq 58 s).trans (by unfold trimS; rw [if_pos hl]), show Lib.hasSuffix (bt s).data.toList (⟨#[58]⟩ : ByteArray).data.toList = true from (hasS_eq 58 s).trans (decide_eq_true hl)] at hc
    exact hc)
  obtain ⟨W1, hW1⟩ : ∃ W1, w.alloc (.cells #[.int .i64 0, .int .i64 0, .int .i64 0, .int .i64 0, .int .i64 0, .int .i64 0, .int .u64 0, .int .i64 0, .int .i64 0, .bool false, .bool false, .int .i64 0, .int .i64 0] 32) = W1 := ⟨_, rfl⟩
  have hb1 : Below w.heap.size w W1 := by rw [← hW1]; exact below_new w _
  have hx1 : W1.heap[w.heap.size]? = some (.cells #[.int .i64 0, .int .i64 0, .int .i64 0, .int .i64 0, .int .i64 0, .int .i64 0, .int .u64 0, .int .i64 0, .int .i64 0, .bool false, .bool false, .int .i64 0, .int .i64 0] 32 (0, 0)) := by rw [← hW1]; exact heap_alloc_new _ _
  have hs1 : W1.heap.size = w.heap.size + 1 := by rw [← hW1]; simp
  obtain ⟨nm, hnm⟩ : ∃ nm, s.dropLast = nm := ⟨_, rfl⟩
  have hnl : nm.length ≤ 2000000 := by rw [← hnm]; simp; omega
  obtain ⟨W2, hW2⟩ : ∃ W2, W1.alloc (.cells #[.string (bt nm)] 9) = W2 := ⟨_, rfl⟩
  have hb2 : Below W1.heap.size W1 W2 := by rw [← hW2]; exact below_new _ _
  have hx2 : W2.heap[W1.heap.size]? = some (.cells (lisC [nm]) 9 (0, 0)) := by rw [← hW2]; exact heap_alloc_new _ _
  have hs2 : W2.heap.size = W1.heap.size + 1 := by rw [← hW2]; simp
  obtain ⟨W3, hW3⟩ : ∃ W3, W2.alloc (.cells #[.slice (some ⟨W1.heap.size, 0, none⟩) 1 1] 102) = W3 := ⟨_, rfl⟩
  have hb3 : Below W2.heap.size W2 W3 := by rw [← hW3]; exact below_new _ _
  have hs3 : W3.heap.size = W2.heap.size + 1 := by rw [← hW3]; simp
  have hr3 : RdAt (fun b => b = W1.heap.size) W3 W2.heap.size [nm] := by
    refine ⟨some ⟨W1.heap.size, 0, none⟩, 1, 102, ?_, TxAt.lis ((hb3.block _ (by omega)).trans hx2), Nat.le_refl _, by simp, fun x hx => by rw [List.mem_singleton.1 hx]; exact hnl, ?_⟩
    · rw [← hW3]; exact heap_alloc_new _ _
    · intro b o e
      obtain ⟨rfl, rfl⟩ : W1.heap.size = b ∧ 0 = o := by simpa using e
      exact ⟨by omega, rfl⟩
  have hbw3 : Below w.heap.size w W3 := Below.next (Below.next hb1 hb2) hb3
  have hB3 := hB.trans (hbw3.mono hB.size)
  have hlb := Lib.hid (label64_any (fun b => b = W1.heap.size) W2.heap.size [nm] w0 W3 hE hB3 (by have := hB.size; omega) hr3)
  unfold RPost at hlb
  rw [List.headD_cons] at hlb
  obtain ⟨n, hn⟩ : ∃ n, lblP nm = n := ⟨_, rfl⟩
  rw [hn] at hlb
  have hi : labP s = { inZ 19 with lb := n } := by unfold labP; rw [hnm, hn]
  have hmay := fun W => mayOne_any (labP s) (lab_fit s) W
  have hline := fun (h : mayB (labP s) = true) W hE => line_any (form_of h (lab_fit s).1) W hE
  have hul := unl_lab hl
  unfold BoolPost at hmay
  unfold StrPost at hline
  obtain ⟨c, hcc⟩ : ∃ c, decide (lineL (labP s) = s) = c := ⟨_, rfl⟩
  have hcmp : ((bt (lineL (labP s))).toList == (bt s).toList) = c := (beq_lists _ _).trans hcc
  rw [hcc] at hul
  obtain ⟨r, hr⟩ : ∃ r, mayB (labP s) = r := ⟨_, rfl⟩
  rw [hr] at hmay hline hul
  obtain ⟨x, hx⟩ : ∃ x, bt (lineL (labP s)) = x := ⟨_, rfl⟩
  rw [hx] at hline hcmp
  obtain ⟨sb, hsb⟩ : ∃ sb, bt s = sb := ⟨_, rfl⟩
  rw [hsb] at hcs hcmp ⊢
  rw [hi] at hmay hline hul
  unfold inV inC inZ at hmay hline
  dsimp only at hmay hline
  have hmay' := Lib.hid hmay
  have hline' := Lib.hid hline
  have hfb := Lib.hid (show bt nm = ⟨nm.toArray⟩ from rfl)
  rw [hnm] at hcs
  have hTG := Lib.hid hT
  have hEw := Lib.hid (fun W (h : Below w0.heap.size w0 W) => hE.below h)
  have hB3' := Lib.hid hB3
  have hbw3' := Lib.hid hbw3
  have hx13 := Lib.hid (show W3.heap[w.heap.size]? = some (.cells #[.int .i64 0, .int .i64 0, .int .i64 0, .int .i64 0, .int .i64 0, .int .i64 0, .int .u64 0, .int .i64 0, .int .i64 0, .bool false, .bool false, .int .i64 0, .int .i64 0] 32 (0, 0)) from (hb3.block _ (by omega)).trans ((hb2.block _ (by omega)).trans hx1))
  have hsz := Lib.hid (show W1.heap.size = w.heap.size + 1 ∧ W2.heap.size = w.heap.size + 2 ∧ W3.heap.size = w.heap.size + 3 ∧ w0.heap.size ≤ w.heap.size from ⟨hs1, by omega, by omega, hB.size⟩)
  have hW1' := Lib.hid hW1
  have hW2' := Lib.hid hW2
  have hW3' := Lib.hid hW3
  have hul' := Lib.hid hul
  clear hul hx hr hcc hi hn hnm hmay hline hE hB hT hs hl hW1 hW2 hW3 hb1 hb2 hb3 hx1 hx2 hs1 hs2 hs3 hr3 hbw3 hB3 hnl hsb
  go_enter Tryz.func33, Tryz.ntmps33
  go_wp2_with fail
  rw [hW1'.out]
  refine (hcs.out _).mono ?_
  rintro e w2 ⟨rfl, rfl⟩
  rw [← hfb.out]
  go_wp2_with fail
  rw [hW2'.out, hW3'.out, show (w2.heap.size + 1) = W2.heap.size by have := hsz.out; omega]
  refine hlb.out.mono ?_
  rintro e w4 ⟨rfl, hr4, hk4⟩
  have hk4' := Lib.hid hk4
  have hx4 := Lib.hid (hk4.at hx13.out (by have := hsz.out; omega))
  have hE4 := Lib.hid (hEw.out _ (hk4.on hB3'.out (fun k e => by have := hsz.out; omega)))
  clear hr4 hk4
  go_upto_region 5 with fail
  obtain ⟨b9, hb9⟩ : ∃ b, w4.heap.size = b := ⟨_, rfl⟩
  obtain ⟨W5, hW5⟩ : ∃ W5, w4.alloc (.cells #[.int .i64 19, .int .i64 0, .int .i64 0, .int .i64 0, .int .i64 0, .int .i64 0, .int .u64 0, .int .i64 0, .int .i64 0, .bool false, .bool false, .int .i64 0, .int .i64 n] 32) = W5 := ⟨_, rfl⟩
  rw [hW5, hb9]
  have hbw := Lib.hid (show Below w4.heap.size w4 W5.drew from by rw [← hW5]; exact (below_new _ _).drew)
  have hx9 := Lib.hid (show W5.drew.heap[b9]? = some (.cells #[.int .i64 19, .int .i64 0, .int .i64 0, .int .i64 0, .int .i64 0, .int .i64 0, .int .u64 0, .int .i64 0, .int .i64 0, .bool false, .bool false, .int .i64 0, .int .i64 n] 32 (0, 0)) from by show W5.heap[_]? = _; rw [← hW5, ← hb9]; exact heap_alloc_new _ _)
  have hE9 := Lib.hid (hE4.out.below hbw.out)
  have hx0 := Lib.hid ((hbw.out.block _ (blk_lt hx4.out)).trans hx4.out)
  have hs9 := Lib.hid (show w.heap.size < b9 ∧ W2.heap.size < b9 ∧ w4.heap.size ≤ b9 from by have := hk4'.out.2.2.2.1; have := hsz.out; omega)
  clear hW5 hb9
  have hbelow := Lib.hid (show Below w.heap.size w W5.drew from Below.next (Below_on hbw3'.out hk4'.out (fun k e => by have := hsz.out; omega)) hbw.out)
  have hsome : (unlL s).isSome = (r && c) := by rw [hul'.out]; cases r <;> cases c <;> rfl
  have hsome' := Lib.hid hsome
  have hval := Lib.hid (show ∀ j, unlL s = some j → ({ inZ 19 with lb := n } : In) = j from fun j hj => by rw [hul'.out] at hj; split at hj; exact Option.some.inj hj; cases hj)
  clear hsome
  have hfin := Lib.hid (show ∀ (V : World) (u : Bool), Below w.heap.size w V → u = (r && c) → UnlPost G s w (.returned (.tuple #[.agg #[.int .i64 19, .int .i64 0, .int .i64 0, .int .i64 0, .int .i64 0, .int .i64 0, .int .u64 0, .int .i64 0, .int .i64 0, .bool false, .bool false, .int .i64 0, .int .i64 n], .bool u])) V from fun V u hV hu => by
    exact ⟨{ inZ 19 with lb := n }, by rw [hu, hsome'.out]; rfl, hval.out, Keep.of_below hV, fun b r hb => (hTG.out.bx b r hb).of_block (hV.block b (hTG.out.all b _ hb).2)⟩)
  have hnb : ¬ b9 = w.heap.size := by have := hs9.out; omega
  have hf0 := frz hx0.out
  obtain ⟨o0, o1, o2, o3, o4, o5, o6, o7, o8, o9, o10, o11, o12⟩ := box13 hx0.out
  cases r with
  | false =>
    have h32 : (Tryz.prog.info? 32).map (·.size) = some 13 := by kernel_rfl
    refine wp_region_held (S := fun W => W.heap[b9]? = some (.cells #[.int .i64 19, .int .i64 0, .int .i64 0, .int .i64 0, .int .i64 0, .int .i64 0, .int .u64 0, .int .i64 0, .int .i64 0, .bool false, .bool false, .int .i64 0, .int .i64 n] 32 (0, 0))) (by kernel_rfl) ?_
    refine wpAnyH_take (i := 0) (v := .agg #[.int .i64 19, .int .i64 0, .int .i64 0, .int .i64 0, .int .i64 0, .int .i64 0, .int .u64 0, .int .i64 0, .int .i64 0, .bool false, .bool false, .int .i64 0, .int .i64 n]) rfl (by kernel_rfl) (by kernel_rfl) (by kernel_rfl) (fun _ _ _ h => h) (yields_load_row (by rfl) 32 (.tmp 9) rfl b9 rfl 32 #[.int .i64 19, .int .i64 0, .int .i64 0, .int .i64 0, .int .i64 0, .int .i64 0, .int .u64 0, .int .i64 0, .int .i64 0, .bool false, .bool false, .int .i64 0, .int .i64 n] (0, 0) _ (fun _ h => h) Tryz.underlying32 rfl (by kernel_rfl)) hx9.out ?_
    simp only [Act.put, List.getElem_toArray, List.getElem_cons_zero, List.getElem_cons_succ, List.setIfInBounds_toArray, List.set_cons_zero, List.set_cons_succ]
    refine wpAnyH_take (i := 1) (v := .agg #[.int .i64 19, .int .i64 0, .int .i64 0, .int .i64 0, .int .i64 0, .int .i64 0, .int .u64 0, .int .i64 0, .int .i64 0, .bool false, .bool false, .int .i64 0, .int .i64 n]) rfl (by kernel_rfl) (by kernel_rfl) (by kernel_rfl) (fun _ _ _ h => h) (yields_load_row (by rfl) 32 (.tmp 9) rfl b9 rfl 32 #[.int .i64 19, .int .i64 0, .int .i64 0, .int .i64 0, .int .i64 0, .int .i64 0, .int .u64 0, .int .i64 0, .int .i64 0, .bool false, .bool false, .int .i64 0, .int .i64 n] (0, 0) _ (fun _ h => h) Tryz.underlying32 rfl (by kernel_rfl)) hx9.out ?_
    simp only [Act.put, List.getElem_toArray, List.getElem_cons_zero, List.getElem_cons_succ, List.setIfInBounds_toArray, List.set_cons_zero, List.set_cons_succ]
    refine wpAnyH_all (rs := [2]) (by kernel_rfl) (by simp) ?_
    intro ii hii
    rcases (by simpa using hii : ii = 2) with rfl
    refine wpOp_call (f := 43) (args := #[.agg #[.int .i64 19, .int .i64 0, .int .i64 0, .int .i64 0, .int .i64 0, .int .i64 0, .int .u64 0, .int .i64 0, .int .i64 0, .bool false, .bool false, .int .i64 0, .int .i64 n]]) rfl (by rfl) (by go_simp) (hmay'.out _) ?_
    rintro e w6 ⟨rfl, hb6⟩
    have hx9 := Lib.hid ((hb6.block _ (blk_lt hx9.out)).trans hx9.out)
    have hx0 := Lib.hid ((hb6.block _ (blk_lt hx0.out)).trans hx0.out)
    have hbelow := Lib.hid (Below.next hbelow.out hb6)
    clear hb6 o0 o1 o2 o3 o4 o5 o6 o7 o8 o9 o10 o11 o12 hf0
    refine ⟨_, rfl, hx9.out, ?_⟩
    simp only [Act.put, List.getElem_toArray, List.getElem_cons_zero, List.getElem_cons_succ, List.setIfInBounds_toArray, List.set_cons_zero, List.set_cons_succ]
    refine wpAnyH_take (i := 3) (v := .bool false) rfl (by kernel_rfl) (by kernel_rfl) (by kernel_rfl) (fun _ _ _ h => h) (Or.inl ⟨by rfl, fun w _ => by rfl⟩) hx9.out ?_
    simp only [Act.put, List.getElem_toArray, List.getElem_cons_zero, List.getElem_cons_succ, List.setIfInBounds_toArray, List.set_cons_zero, List.set_cons_succ]
    refine wpAnyH_take (i := 4) (v := undef) rfl (by kernel_rfl) (by kernel_rfl) (by kernel_rfl) (fun _ _ _ h => h) (Or.inr ⟨by rfl, rfl⟩) hx9.out ?_
    simp only [Act.put, List.getElem_toArray, List.getElem_cons_zero, List.getElem_cons_succ, List.setIfInBounds_toArray, List.set_cons_zero, List.set_cons_succ]
    refine wpAnyH_take (i := 5) (v := undef) rfl (by kernel_rfl) (by kernel_rfl) (by kernel_rfl) (fun _ _ _ h => h) (Or.inr ⟨by rfl, rfl⟩) hx9.out ?_
    simp only [Act.put, List.getElem_toArray, List.getElem_cons_zero, List.getElem_cons_succ, List.setIfInBounds_toArray, List.set_cons_zero, List.set_cons_succ]
    refine wpAnyH_take (i := 6) (v := undef) rfl (by kernel_rfl) (by kernel_rfl) (by kernel_rfl) (fun _ _ _ h => h) (Or.inr ⟨by rfl, rfl⟩) hx9.out ?_
    simp only [Act.put, List.getElem_toArray, List.getElem_cons_zero, List.getElem_cons_succ, List.setIfInBounds_toArray, List.set_cons_zero, List.set_cons_succ]
    refine wpAnyH_take (i := 7) (v := undef) rfl (by kernel_rfl) (by kernel_rfl) (by kernel_rfl) (fun _ _ _ h => h) (Or.inr ⟨by rfl, rfl⟩) hx9.out ?_
    simp only [Act.put, List.getElem_toArray, List.getElem_cons_zero, List.getElem_cons_succ, List.setIfInBounds_toArray, List.set_cons_zero, List.set_cons_succ]
    refine wpAnyH_take (i := 8) (v := .bool false) rfl (by kernel_rfl) (by kernel_rfl) (by kernel_rfl) (fun _ _ _ h => h) (Or.inl ⟨by rfl, fun w _ => by rfl⟩) hx9.out ?_
    simp only [Act.put, List.getElem_toArray, List.getElem_cons_zero, List.getElem_cons_succ, List.setIfInBounds_toArray, List.set_cons_zero, List.set_cons_succ]
    refine wpAnyH_all (rs := [9]) (by kernel_rfl) (by simp) ?_
    intro ii hii
    rcases (by simpa using hii : ii = 9) with rfl
    refine wpOp_wp rfl (by rfl) (wp_store_row 32 (.tmp 4) (.tmp 28) rfl w.heap.size #[.int .i64 19, .int .i64 0, .int .i64 0, .int .i64 0, .int .i64 0, .int .i64 0, .int .u64 0, .int .i64 0, .int .i64 0, .bool false, .bool false, .int .i64 0, .int .i64 n] rfl rfl 32 #[.int .i64 0, .int .i64 0, .int .i64 0, .int .i64 0, .int .i64 0, .int .i64 0, .int .u64 0, .int .i64 0, .int .i64 0, .bool false, .bool false, .int .i64 0, .int .i64 0] hx0.out (by kernel_rfl) (by rfl) (by simp [Value.oneCell']) ⟨(setRow_other _ _ _ _ hnb).trans hx9.out, ?_⟩)
    simp only [Act.put, List.getElem_toArray, List.getElem_cons_zero, List.getElem_cons_succ, List.setIfInBounds_toArray, List.set_cons_zero, List.set_cons_succ]
    have hx0s := Lib.hid (setRow_heap _ _ _ #[.int .i64 19, .int .i64 0, .int .i64 0, .int .i64 0, .int .i64 0, .int .i64 0, .int .u64 0, .int .i64 0, .int .i64 0, .bool false, .bool false, .int .i64 0, .int .i64 n] _ _ hx0.out)
    have hbel := Lib.hid (below_setRow hbelow.out (Nat.le_refl _) #[.int .i64 19, .int .i64 0, .int .i64 0, .int .i64 0, .int .i64 0, .int .i64 0, .int .u64 0, .int .i64 0, .int .i64 0, .bool false, .bool false, .int .i64 0, .int .i64 n])
    refine wpAnyH_all (rs := [10]) (by kernel_rfl) (by simp) ?_
    intro ii hii
    rcases (by simpa using hii : ii = 10) with rfl
    refine wpOp_ran rfl (by rfl) (by rfl) ⟨(setRow_other _ _ _ _ hnb).trans hx9.out, ?_⟩
    simp only [Act.put, List.getElem_toArray, List.getElem_cons_zero, List.getElem_cons_succ, List.setIfInBounds_toArray, List.set_cons_zero, List.set_cons_succ]
    refine wpAnyH_done (by kernel_rfl) ?_ _
    go_wp2_with fail
    obtain ⟨z0, z1, z2, z3, z4, z5, z6, z7, z8, z9, z10, z11, z12⟩ := box13 hx0s.out
    refine bodyPost_ret (v := .tuple #[.agg #[.int .i64 19, .int .i64 0, .int .i64 0, .int .i64 0, .int .i64 0, .int .i64 0, .int .u64 0, .int .i64 0, .int .i64 0, .bool false, .bool false, .int .i64 0, .int .i64 n], .bool false]) (by simp [results, Tryz.results33, Tryz.f33, go_sem, z0, z1, z2, z3, z4, z5, z6, z7, z8, z9, z10, z11, z12]) rfl (hfin.out _ _ hbel.out (by rfl))
  | true =>
    go_region_held_law (fun W => W.cell? ⟨b9, 0, none⟩ = some (.int .i64 19) ∧ W.cell? ⟨b9, 1, none⟩ = some (.int .i64 0) ∧ W.cell? ⟨b9, 2, none⟩ = some (.int .i64 0) ∧ W.cell? ⟨b9, 3, none⟩ = some (.int .i64 0) ∧ W.cell? ⟨b9, 4, none⟩ = some (.int .i64 0) ∧ W.cell? ⟨b9, 5, none⟩ = some (.int .i64 0) ∧ W.cell? ⟨b9, 6, none⟩ = some (.int .u64 0) ∧ W.cell? ⟨b9, 7, none⟩ = some (.int .i64 0) ∧ W.cell? ⟨b9, 8, none⟩ = some (.int .i64 0) ∧ W.cell? ⟨b9, 9, none⟩ = some (.bool false) ∧ W.cell? ⟨b9, 10, none⟩ = some (.bool false) ∧ W.cell? ⟨b9, 11, none⟩ = some (.int .i64 0) ∧ W.cell? ⟨b9, 12, none⟩ = some (.int .i64 n)) (first | with_reducible exact box13 ((set13_other hnb _ _ _ _ _ _ _ _ _ _ _ _ _).trans hx9.out) | with_reducible exact box13 hx9.out) (first | (go_at_call 43; refine (hmay'.out _).mono ?_; rintro e w6 ⟨rfl, hb6⟩; have hx9 := Lib.hid ((hb6.block _ (blk_lt hx9.out)).trans hx9.out); have hx0 := Lib.hid ((hb6.block _ (blk_lt hx0.out)).trans hx0.out); have hE9 := Lib.hid (hE9.out.below hb6); have hbelow := Lib.hid (Below.next hbelow.out hb6); clear hb6 o0 o1 o2 o3 o4 o5 o6 o7 o8 o9 o10 o11 o12 hf0; have hf0 := frz hx0.out; obtain ⟨o0, o1, o2, o3, o4, o5, o6, o7, o8, o9, o10, o11, o12⟩ := box13 hx0.out) | (go_at_call 44; refine (hline'.out (by trivial) _ hE9.out).mono ?_; rintro e w6 ⟨rfl, hb6⟩; have hx9 := Lib.hid ((hb6.block _ (blk_lt hx9.out)).trans hx9.out); have hx0 := Lib.hid ((hb6.block _ (blk_lt hx0.out)).trans hx0.out); have hE9 := Lib.hid (hE9.out.below hb6); have hbelow := Lib.hid (Below.next hbelow.out hb6); clear hb6 o0 o1 o2 o3 o4 o5 o6 o7 o8 o9 o10 o11 o12 hf0; have hf0 := frz hx0.out; obtain ⟨o0, o1, o2, o3, o4, o5, o6, o7, o8, o9, o10, o11, o12⟩ := box13 hx0.out))
    all_goals (
      go_wp2_with fail
      obtain ⟨z0, z1, z2, z3, z4, z5, z6, z7, z8, z9, z10, z11, z12⟩ := box13 (set13_cells hx0.out (.int .i64 19) (.int .i64 0) (.int .i64 0) (.int .i64 0) (.int .i64 0) (.int .i64 0) (.int .u64 0) (.int .i64 0) (.int .i64 0) (.bool false) (.bool false) (.int .i64 0) (.int .i64 n))
      refine bodyPost_ret (v := .tuple #[.agg #[.int .i64 19, .int .i64 0, .int .i64 0, .int .i64 0, .int .i64 0, .int .i64 0, .int .u64 0, .int .i64 0, .int .i64 0, .bool false, .bool false, .int .i64 0, .int .i64 n], .bool c]) (by simp [results, Tryz.results33, Tryz.f33, go_sem, z0, z1, z2, z3, z4, z5, z6, z7, z8, z9, z10, z11, z12, hcmp]) rfl (hfin.out _ _ ?_ ?_)
      · repeat refine Below.setCell ?_ (by exact Nat.le_refl _) _
        exact hbelow.out
      · first | rfl | (simp [hcmp]; done))
end Go.Proofs.YtmimmnjdgpdjlaaGreatDoor
namespace Go.Proofs.YtmimmnjdgpdjlaaGreatDoor
open Go.RowKit Go.Lib Go.Shelf Go.MapKept

theorem lookT_eq (wd : List UInt8) : lookIn tableL wd = lookT wd := rfl
/-- a try of the search -/
def tryI (s : List UInt8) (k : Nat) : In := rdM ((lookT (cutL 32 s).1).getD k .ret) (splitCS (cutL 32 s).2)
theorem cands_get {s : List UInt8} {k : Nat} (h : k < (lookT (cutL 32 s).1).length) : (candsL s)[k]? = some (tryI s k) := by
  unfold candsL tryI
  rw [List.getElem?_map, List.getElem?_eq_getElem h, List.getD_eq_getElem?_getD, List.getElem?_eq_getElem h]
  rfl
theorem cands_len (s : List UInt8) : (candsL s).length = (lookT (cutL 32 s).1).length := by unfold candsL; rw [List.length_map]
theorem unl_word {s : List UInt8} (h : s.getLast? ≠ some 58) : unlL s = (candsL s).find? (isL s) := by unfold unlL triesL; rw [if_neg h]
theorem look_len : ∀ wd, (lookT wd).length ≤ 3 := by
  intro wd
  unfold lookT
  cases hf : tableL.find? fun x => x.1 == wd with
  | none => simp
  | some x =>
    have hx := List.mem_of_find?_eq_some hf
    have key : ∀ x ∈ tableL, x.2.length ≤ 3 := by decide +kernel
    exact key x hx
theorem splitK_le (sep : List UInt8) : ∀ (k : Nat) (l : List UInt8), (∀ x ∈ Lib.splitK sep 0 k l, x.length ≤ l.length) ∧ (Lib.splitK sep 0 k l).length ≤ k + 1
  | 0, l => by simp [Lib.splitK]
  | k + 1, l => by
    unfold Lib.splitK
    split
    · simp
    · have ih := splitK_le sep k (l.drop ((Lib.index l sep).toNat + sep.length))
      refine ⟨fun x hx => ?_, by simp only [List.length_cons]; omega⟩
      rcases List.mem_cons.1 hx with rfl | hx
      · simp; omega
      · have := ih.1 x hx; simp at this; omega
theorem countFrom_le (sep : List UInt8) : ∀ (k : Nat) (l : List UInt8), Lib.countFrom sep k l ≤ k
  | 0, l => by simp [Lib.countFrom]
  | k + 1, l => by
    unfold Lib.countFrom
    split
    · omega
    · have := countFrom_le sep k (l.drop ((Lib.index l sep).toNat + sep.length)); omega
theorem CS_le (l : List UInt8) : (∀ x ∈ splitCS l, x.length ≤ l.length) ∧ (splitCS l).length ≤ l.length + 2 := by
  have h := splitK_le [44, 32] (Lib.count l [44, 32]) l
  have h2 := countFrom_le [44, 32] (l.length + 1) l
  refine ⟨h.1, Nat.le_trans h.2 ?_⟩
  unfold Lib.count
  omega
theorem row_shape {w : World} {lo : Nat} {v : Value} {n : Nat} {fs : List Value} (h : w.ownsRow lo 105 1 v n fs) : ∃ A cap, v = .slice A n cap ∧ n ≤ cap ∧ fs.length = n ∧ ∀ b o, A = some ⟨b, o, none⟩ → v.ownBlock = some b := by
  rcases h.2 with ⟨rfl, rfl⟩ | ⟨g, cap, cur, rfl, h1, h2, h3, _⟩
  · exact ⟨none, 0, rfl, Nat.le_refl _, by simpa using h.1, fun b o e => by cases e⟩
  · exact ⟨some ⟨g, 0, none⟩, cap, rfl, h3, by have := h.1; omega, fun b o e => by simp at e; rw [← e.1]; rfl⟩
theorem row_cell {w : World} {lo : Nat} {v : Value} {n : Nat} {fs : List Value} (h : w.ownsRow lo 105 1 v n fs) {k : Nat} {f : Value} (hf : fs[k]? = some f) : ∃ g cap, v = .slice (some ⟨g, 0, none⟩) n cap ∧ w.cell? ⟨g, k, none⟩ = some f := by
  rcases h.2 with ⟨_, rfl⟩ | ⟨g, cap, cur, rfl, h1, h2, h3, _⟩
  · have := h.1
    rw [List.getElem?_eq_none (by omega)] at hf
    cases hf
  · refine ⟨g, cap, rfl, ?_⟩
    have := h.cells (g := g) rfl k f hf
    have e : (⟨g, 0, none⟩ : Addr).add k = ⟨g, k, none⟩ := by unfold Addr.add; split <;> simp_all
    rwa [e] at this
theorem tryI_fit (s : List UInt8) (k : Nat) : Fit (tryI s k) := rdM_fit _ _
theorem below_drewW (w : World) (n : Nat) : Below w.heap.size w (w.drewN n) := ⟨rfl, rfl, rfl, Nat.le_refl _, fun _ _ => rfl⟩
set_option maxRecDepth 100000 in
set_option maxHeartbeats 16000000 in
theorem unline33_word (s : List UInt8) (m : Nat) (G : Nat → Option Gh) (w0 w : World) (hE : Env w0) (hB : Below w0.heap.size w0 w) (hT : Table w w0.heap.size m G tableL) (hs : s.length ≤ 2000000) (hl : s.getLast? ≠ some 58) :
    Calls Tryz.prog 33 #[.string (bt s), .map (some m)] w (UnlPost G s w) := by
  have hcs := Lib.hid (fun W => by
    have hc := Tryz.strings_CutSuffix (bt s) ⟨#[58]⟩ W (by rw [bt_size]; omega)
    rw [show Lib.hasSuffix (bt s).data.toList (⟨#[58]⟩ : ByteArray).data.toList = false from (hasS_eq 58 s).trans (decide_eq_false hl)] at hc
    exact hc)
  obtain ⟨wd, hwd⟩ : ∃ wd, (cutL 32 s).1 = wd := ⟨_, rfl⟩
  obtain ⟨re, hre⟩ : ∃ re, (cutL 32 s).2 = re := ⟨_, rfl⟩
  have hrel : re.length ≤ 2000000 := by rw [← hre]; exact Nat.le_trans (cut_len 32 s).2 hs
  have hcut := Lib.hid (fun (W : World) (m : Int) (hm : W.cell? ⟨2, 0, none⟩ = some (.int .i64 m)) => by
    have hc := Tryz.strings_Cut (bt s) ⟨#[32]⟩ m W (by rw [bt_size]; omega) hm
    rw [show Lib.cut (bt s).data.toList (⟨#[32]⟩ : ByteArray).data.toList = _ from cut_eq 32 s, hwd, hre] at hc
    exact hc)
  dsimp only at hcut
  have hspl := Lib.hid (fun (W : World) (m : Int) (hm : W.cell? ⟨2, 0, none⟩ = some (.int .i64 m)) => by
    have hc := Tryz.strings_Split (bt re) ⟨#[44, 32]⟩ m W (by rw [bt_size]; omega) hm (by show 1 ≤ 2; omega)
    rw [splitB_CS, CS_len, show splitCS (bt re).data.toList = splitCS re from rfl] at hc
    have e : (((splitCS re).map bt).map Value.string).toArray = lisC (splitCS re) := by unfold lisC; rw [List.map_map]; rfl
    rw [e] at hc
    exact hc)
  obtain ⟨L, hL⟩ : ∃ L, splitCS re = L := ⟨_, rfl⟩
  rw [hL] at hspl
  have hLl := CS_le re
  rw [hL] at hLl
  have hLs : ∀ y ∈ L, y.length ≤ 2000000 := fun y hy => Nat.le_trans (hLl.1 y hy) hrel
  have hLc : L.length ≤ 2000002 := by have := hLl.2; omega
  obtain ⟨W1, hW1⟩ : ∃ W1, w.alloc (.cells #[.int .i64 0, .int .i64 0, .int .i64 0, .int .i64 0, .int .i64 0, .int .i64 0, .int .u64 0, .int .i64 0, .int .i64 0, .bool false, .bool false, .int .i64 0, .int .i64 0] 32) = W1 := ⟨_, rfl⟩
  have hb1 : Below w.heap.size w W1 := by rw [← hW1]; exact below_new w _
  have hx1 : W1.heap[w.heap.size]? = some (.cells #[.int .i64 0, .int .i64 0, .int .i64 0, .int .i64 0, .int .i64 0, .int .i64 0, .int .u64 0, .int .i64 0, .int .i64 0, .bool false, .bool false, .int .i64 0, .int .i64 0] 32 (0, 0)) := by rw [← hW1]; exact heap_alloc_new _ _
  have hs1 : W1.heap.size = w.heap.size + 1 := by rw [← hW1]; simp
  have hEw := Lib.hid (fun W (h : Below w0.heap.size w0 W) => hE.below h)
  have hB1 := hB.trans (hb1.mono hB.size)
  have hT1 := hT.below hb1
  have hlk := Lib.hid (fun (n : Nat) => (hT1.below (below_drewW W1 n)).look wd)
  rw [lookT_eq] at hlk
  obtain ⟨rs, hrs⟩ : ∃ rs, lookT wd = rs := ⟨_, rfl⟩
  have hrs3 : rs.length ≤ 3 := by rw [← hrs]; exact look_len wd
  rw [hrs] at hlk
  have hcl : (candsL s).length = rs.length := by rw [cands_len, hwd, hrs]
  have hcg : ∀ k r, rs[k]? = some r → (candsL s)[k]? = some (rdM r L) := fun k r hk => by
    unfold candsL
    rw [hwd, hre, hrs, hL, List.getElem?_map, hk]
    rfl
  have hTG := Lib.hid hT1
  have hbx1 := Lib.hid hT1.bx
  have hcg' := Lib.hid hcg
  have hcl' := Lib.hid hcl
  have hLs' := Lib.hid hLs
  have hLc' := Lib.hid hLc
  have hB1' := Lib.hid hB1
  have hW1' := Lib.hid hW1
  have hx1' := Lib.hid hx1
  have hb1' := Lib.hid hb1
  have hlo := Lib.hid (show w0.heap.size ≤ w.heap.size ∧ W1.heap.size = w.heap.size + 1 from ⟨hB.size, hs1⟩)
  have huw := Lib.hid (unl_word hl)
  obtain ⟨sb, hsb⟩ : ∃ sb, bt s = sb := ⟨_, rfl⟩
  rw [hsb] at hcs hcut ⊢
  have hsb' := Lib.hid hsb
  have hfb := Lib.hid (show bt wd = ⟨wd.toArray⟩ from rfl)
  have hfr := Lib.hid (show bt re = ⟨re.toArray⟩ from rfl)
  have hmxx := Lib.hid (fun W (h : Below w0.heap.size w0 W) => (hE.below h).mx)
  have hallG := Lib.hid hT.all
  have hE0' := Lib.hid hE
  clear hwd hre hrel hL hLl hLs hLc hW1 hb1 hx1 hs1 hE hB hT hs hl hB1 hT1 hrs hcl hcg hsb
  go_enter Tryz.func33, Tryz.ntmps33
  go_wp2_with fail
  rw [hW1'.out]
  refine (hcs.out _).mono ?_
  rintro e w2 ⟨rfl, rfl⟩
  go_wp2_with fail
  obtain ⟨mx, hmx⟩ := hmxx.out _ hB1'.out
  refine (hcut.out _ mx hmx).mono ?_
  rintro e w3 ⟨rfl, nd, hw3⟩
  clear hmx
  rw [← hfb.out, ← hfr.out]
  obtain ⟨v, fs, hlk2, hown, hfs, hvG⟩ := hlk.out nd
  rw [← hw3] at hlk2 hown
  obtain ⟨A, cap, rfl, hcap, hfl, hAb⟩ := row_shape hown
  obtain ⟨n, hn⟩ : ∃ n, rs.length = n := ⟨_, rfl⟩
  rw [hn] at hown hrs3 hcap hfl
  have hlk3 := hlk2
  rw [hn] at hlk3
  have hk3 := Lib.hid (show Keep (Bxs G) w2 w3 from by rw [hw3]; exact Keep.drewN (Keep.refl _ _) nd)
  have hbx3 := Lib.hid (show ∀ b r, G b = some (.box r) → BoxAt w3 b r from fun b r hb => (hbx1.out b r hb).of_block (by rw [hw3]; rfl))
  have hsame : ∀ W, Keep (Bxs G) w2 W → ∀ b, ¬ Bxs G b → ∀ {o : Nat} (u : Value), w3.cell? ⟨b, o, none⟩ = some u → W.cell? ⟨b, o, none⟩ = some u := fun W hk b hb o u hc => by
    have hc2 : w2.cell? ⟨b, o, none⟩ = some u := by rw [hw3] at hc; exact hc
    exact hk.cellAt hc2 hb
  have hGf : ∀ b, w.heap.size ≤ b → G b = none := fun b hb => by
    cases hG : G b with
    | none => rfl
    | some x => have := (hallG.out b x hG).2; omega
  have hn' := Lib.hid hn
  have hown' := Lib.hid hown
  have hvG' := Lib.hid hvG
  have hfs' := Lib.hid hfs
  have hfl' := Lib.hid hfl
  have e1 : (n : Int) ≤ 3 := by omega
  have e2 : (n : Int) ≤ (cap : Int) := by omega
  clear hn hlk2 hw3 hown hvG hfs hfl hAb hrs3 hcap hcut hcs hlk
  have hEw0 := Lib.hid hE0'.out
  have hBk := Lib.hid (show ∀ W, Keep (Bxs G) w2 W → Below w0.heap.size w0 W from fun W hk => hk.on hB1'.out (fun b hb => by obtain ⟨r, hr⟩ := hb; exact (hallG.out b _ hr).1))
  have hsame' := Lib.hid hsame
  have hGfresh := Lib.hid hGf
  clear hsame hGf
  go_wp2_with fail
  go_loopg [47] n (fun g s47 wr => ∃ k : Nat, k + g = n ∧ s47 = .int .i64 k ∧ Keep (Bxs G) w2 wr ∧ (∀ b r, G b = some (.box r) → BoxAt wr b r) ∧ ∀ (j : Nat) (y : In), j < k → (candsL s)[j]? = some y → isL s y = false)
  case atStart => exact ⟨0, by omega, rfl, hk3.out, hbx3.out, fun j y hj => by omega⟩
  case round =>
    obtain ⟨k, hkg, rfl, hkr, hbr, hno⟩ := hrel
    have hkr' := Lib.hid hkr
    have hbr' := Lib.hid hbr
    have hno' := Lib.hid hno
    clear hkr hbr hno
    have hx0 := Lib.hid (hkr'.out.at hx1'.out (fun e => by obtain ⟨r, hr⟩ := e; have := (hallG.out _ _ hr).2; omega))
    cases gk with
    | zero =>
      have e0 : ¬ ((k : Int) < (n : Int)) := by omega
      have hf0 := frz hx0.out
      obtain ⟨o0, o1, o2, o3, o4, o5, o6, o7, o8, o9, o10, o11, o12⟩ := box13 hx0.out
      have hnone := Lib.hid (show unlL s = none from by
        rw [huw.out]
        refine find_none fun j y hy => hno'.out j y ?_ hy
        have h1 := (List.getElem?_eq_some_iff.1 hy).1
        have h2 := hcl'.out
        have h3 := hn'.out
        omega)
      go_wp2_with fail
      obtain ⟨z0, z1, z2, z3, z4, z5, z6, z7, z8, z9, z10, z11, z12⟩ := box13 (set13_cells hx0.out (.int .i64 0) (.int .i64 0) (.int .i64 0) (.int .i64 0) (.int .i64 0) (.int .i64 0) (.int .u64 0) (.int .i64 0) (.int .i64 0) (.bool false) (.bool false) (.int .i64 0) (.int .i64 0))
      refine bodyPost_ret (v := .tuple #[.agg #[.int .i64 0, .int .i64 0, .int .i64 0, .int .i64 0, .int .i64 0, .int .i64 0, .int .u64 0, .int .i64 0, .int .i64 0, .bool false, .bool false, .int .i64 0, .int .i64 0], .bool false]) (by simp [results, Tryz.results33, Tryz.f33, go_sem, z0, z1, z2, z3, z4, z5, z6, z7, z8, z9, z10, z11, z12]) rfl ⟨inZ 0, by rw [hnone.out]; rfl, fun j hj => (by rw [hnone.out] at hj; cases hj), ?_, fun b r hb => ?_⟩
      · repeat refine Keep.setNew ?_ _ _ _ (by exact Nat.le_refl _)
        exact (Keep.of_below hb1'.out).trans hkr'.out
      · exact (hbr'.out b r hb).of_block (set13_other (by have := (hallG.out b _ hb).2; omega) _ _ _ _ _ _ _ _ _ _ _ _ _)
    | succ g =>
      have e0 : (k : Int) < (n : Int) := by omega
      have e3 : (0 : Int) ≤ (k : Int) := by omega
      obtain ⟨r, hr⟩ : ∃ r, rs[k]? = some r := ⟨rs[k]'(by have := hn'.out; omega), List.getElem?_eq_getElem _⟩
      obtain ⟨f, hf, hrd⟩ := hfs'.out.2 k r hr
      obtain ⟨gb, cap2, hv2, hcell0⟩ := row_cell hown'.out hf
      obtain ⟨rfl, rfl⟩ : A = some ⟨gb, 0, none⟩ ∧ cap = cap2 := by simpa using hv2
      have hGb := hvG'.out gb rfl
      have hcell := (hsame'.out wr hkr'.out gb (fun e => by obtain ⟨r, hr⟩ := e; obtain ⟨i, _, hi⟩ := hGb; rw [hi] at hr; cases hr) _ hcell0)
      have hik := hcg'.out k r hr
      obtain ⟨i, hi⟩ : ∃ i, rdM r L = i := ⟨_, rfl⟩
      rw [hi] at hik
      have hfit : Fit i := by rw [← hi]; exact rdM_fit r L
      have hmay := Lib.hid (fun W => mayOne_any i hfit W)
      have hline := Lib.hid (fun (h : mayB i = true) W hE => line_any (form_of h hfit.1) W hE)
      have hisl := isL_eq (s := s) hfit.1
      unfold BoolPost at hmay
      unfold StrPost at hline
      obtain ⟨mb, hmb⟩ : ∃ b, mayB i = b := ⟨_, rfl⟩
      rw [hmb] at hmay hline hisl
      obtain ⟨c, hcc⟩ : ∃ c, decide (lineL i = s) = c := ⟨_, rfl⟩
      have hcmp : ((bt (lineL i)).toList == sb.toList) = c := by rw [← hsb'.out]; exact (beq_lists _ _).trans hcc
      rw [hcc] at hisl
      obtain ⟨x, hx⟩ : ∃ x, bt (lineL i) = x := ⟨_, rfl⟩
      rw [hx] at hline hcmp
      unfold inV inC at hmay hline
      have hisl' := Lib.hid hisl
      have hik' := Lib.hid hik
      -- what the call of the meaning asks for
      obtain ⟨U1, hU1⟩ : ∃ U, wr.alloc (.cells (lisC L) 9) = U := ⟨_, rfl⟩
      obtain ⟨U2, hU2⟩ : ∃ U, U1.alloc (.cells #[.slice (some ⟨wr.heap.size, 0, none⟩) L.length L.length] 102) = U := ⟨_, rfl⟩
      have hu1 : Below wr.heap.size wr U1 := by rw [← hU1]; exact below_new _ _
      have hu2 : Below U1.heap.size U1 U2 := by rw [← hU2]; exact below_new _ _
      have hsU1 : U1.heap.size = wr.heap.size + 1 := by rw [← hU1]; simp
      have hsU2 : U2.heap.size = wr.heap.size + 2 := by rw [← hU2]; simp; omega
      have hLx : U1.heap[wr.heap.size]? = some (.cells (lisC L) 9 (0, 0)) := by rw [← hU1]; exact heap_alloc_new _ _
      have hBr := hBk.out wr hkr'.out
      have hsr := hkr'.out.2.2.2.1
      have hloo := hlo.out
      have hask : Ask G (fun b => b = wr.heap.size) w0 U2 U1.heap.size L := by
        have hu : Below wr.heap.size wr U2 := Below.next hu1 hu2
        refine ⟨hEw0.out, hBr.trans (hu.mono hBr.size), by have := hBr.size; omega, ?_, fun b hb => ?_, hGfresh.out _ (by omega), fun b x hb => ⟨(hallG.out b x hb).1, by have := (hallG.out b x hb).2; have := hlo.out; omega⟩, fun b r hb => (hbr'.out b r hb).of_block (hu.block b (by have := (hallG.out b _ hb).2; have := hlo.out; omega))⟩
        · refine ⟨some ⟨wr.heap.size, 0, none⟩, L.length, 102, ?_, TxAt.lis ((hu2.block _ (by omega)).trans hLx), Nat.le_refl _, by have := hLc'.out; omega, hLs'.out, ?_⟩
          · rw [← hU2]; exact heap_alloc_new _ _
          · intro b o e
            obtain ⟨rfl, rfl⟩ : wr.heap.size = b ∧ 0 = o := by simpa using e
            exact ⟨by omega, rfl⟩
        · subst hb; exact ⟨by omega, hGfresh.out _ (by omega)⟩
      have hent := ent_fn r
      obtain ⟨nf, hnf⟩ : ∃ nf, fnOf r = nf := ⟨_, rfl⟩
      have hshape : ∃ caps, f = .func (.func nf) #[] caps ∧ Calls Tryz.prog nf (#[.pointer (some ⟨U1.heap.size, 0, none⟩)] ++ caps) U2 (ReadPost G i U1.heap.size U2) ∧ (caps = #[] ∨ ∃ b, caps = #[.pointer (some ⟨b, 0, none⟩)]) := by
        unfold RdOK at hrd
        rw [hnf] at hrd
        split at hrd
        · rename_i hb
          have := call_bare r hb G _ w0 U2 U1.heap.size L hask
          rw [hnf, hi] at this
          exact ⟨#[], hrd, this, .inl rfl⟩
        · rename_i hb
          obtain ⟨b, h1, h2⟩ := hrd
          have := call_box r (by simpa using hb) b G _ w0 U2 U1.heap.size L hask h2
          rw [hnf, hi] at this
          exact ⟨_, h1, this, .inr ⟨b, rfl⟩⟩
      rw [hnf] at hent
      obtain ⟨caps, rfl, hcall, hcaps⟩ := hshape
      unfold ReadPost inV inC at hcall
      have hsU := Lib.hid (show U1.heap.size = wr.heap.size + 1 ∧ U2.heap.size = wr.heap.size + 2 ∧ w2.heap.size ≤ wr.heap.size from ⟨hsU1, hsU2, hsr⟩)
      have hU1' := Lib.hid hU1
      have hU2' := Lib.hid hU2
      have hku := Lib.hid (show Keep (Bxs G) w2 U2 from (hkr'.out.next hu1).next hu2)
      obtain ⟨mx, hmx⟩ := hmxx.out wr hBr
      have hsp := Lib.hid (hspl.out wr mx hmx)
      have hBr' := Lib.hid hBr
      have hx0U := Lib.hid ((hu2.block _ (by omega)).trans ((hu1.block _ (by have := blk_lt hx0.out; omega)).trans hx0.out))
      clear hloo hv2 hcell0 hGb hik hi hmb hcc hx hfit hisl hU1 hU2 hu1 hu2 hsU1 hsU2 hLx hBr hsr hask hnf hrd hf hmx hr
      rw [hU1'.out] at hsp
      rcases hcaps with rfl | ⟨bb, rfl⟩
      all_goals (
        simp only [Array.append_empty, List.append_toArray, List.cons_append, List.nil_append] at hcall
        have hcall' := Lib.hid hcall
        clear hcall
        go_wp2_with fail
        refine hsp.out.mono ?_
        rintro e w6 ⟨rfl, rfl⟩
        go_wp2_with fail
        rw [hU2'.out]
        refine hcall'.out.mono ?_
        rintro e w7 ⟨rfl, hk7, hb7⟩
        have hk7' := Lib.hid (hku.out.mix hk7 (fun b hb ht => ht.elim (fun e => by have := hsU.out; omega) id))
        have hx7 := Lib.hid (hk7.at hx0U.out (fun e => by
          rcases e with e | ⟨r, hr⟩
          · have := hsU.out; have := hlo.out; omega
          · have := (hallG.out _ _ hr).2; omega))
        have hb7' := Lib.hid hb7
        have hE7 := Lib.hid (hEw.out _ (hBk.out _ hk7'.out))
        clear hk7 hb7
        go_wp2_with fail
        obtain ⟨V1, hV1⟩ : ∃ V, w7.alloc (.cells #[.int .i64 i.op, .int .i64 i.bn, .int .i64 i.sh, .int .i64 i.cd, .int .i64 i.ds, .int .i64 i.sr, .int .u64 (i.im : Int), .int .i64 i.ba, .int .i64 i.ix, .bool i.hb, .bool i.hi, .int .i64 i.dp, .int .i64 i.lb] 32) = V := ⟨_, rfl⟩
        rw [hV1]
        have hv1 : Below w7.heap.size w7 V1 := by rw [← hV1]; exact below_new _ _
        have hxv := Lib.hid (show V1.heap[w7.heap.size]? = some (.cells #[.int .i64 i.op, .int .i64 i.bn, .int .i64 i.sh, .int .i64 i.cd, .int .i64 i.ds, .int .i64 i.sr, .int .u64 (i.im : Int), .int .i64 i.ba, .int .i64 i.ix, .bool i.hb, .bool i.hi, .int .i64 i.dp, .int .i64 i.lb] 32 (0, 0)) from by rw [← hV1]; exact heap_alloc_new _ _)
        have hbv := Lib.hid hv1
        clear hV1 hv1
        refine (hmay.out _).mono ?_
        rintro e w9 ⟨rfl, hb9⟩
        have hbv := Lib.hid (Below.next hbv.out hb9)
        have hxv := Lib.hid ((hb9.block _ (blk_lt hxv.out)).trans hxv.out)
        clear hb9
        cases mb with
        | false =>
          have hK := Lib.hid (hk7'.out.next hbv.out)
          have hBX := Lib.hid (fun b r hb => (hb7'.out b r hb).of_block (hbv.out.block b (Nat.lt_of_lt_of_le (hallG.out b _ hb).2 (by have := hk7'.out.2.2.2.1; have := hlo.out; omega))))
          go_wp2_with fail
          go_roundg g
          case measure => omega
          case rel =>
            refine ⟨k + 1, by omega, by go_num, hK.out, hBX.out, fun j y hj hy => ?_⟩
            rcases Nat.lt_or_ge j k with h | h
            · exact hno'.out j y h hy
            · obtain rfl : j = k := by omega
              rw [hik'.out] at hy
              obtain rfl := Option.some.inj hy
              rw [hisl'.out]
              rfl
        | true =>
          obtain ⟨q0, q1, q2, q3, q4, q5, q6, q7, q8, q9, q10, q11, q12⟩ := box13 hxv.out
          go_wp2_with fail
          refine (hline.out (by trivial) _ (hE7.out.below hbv.out)).mono ?_
          rintro e w10 ⟨rfl, hb10⟩
          have hbv := Lib.hid (Below.next hbv.out hb10)
          have hxv := Lib.hid ((hb10.block _ (blk_lt hxv.out)).trans hxv.out)
          clear hb10 q0 q1 q2 q3 q4 q5 q6 q7 q8 q9 q10 q11 q12
          have hK := Lib.hid (hk7'.out.next hbv.out)
          have hBX := Lib.hid (fun b r hb => (hb7'.out b r hb).of_block (hbv.out.block b (Nat.lt_of_lt_of_le (hallG.out b _ hb).2 (by have := hk7'.out.2.2.2.1; have := hlo.out; omega))))
          cases c with
          | false =>
            go_wp2_with fail
            go_roundg g
            case measure => omega
            case rel =>
              refine ⟨k + 1, by omega, by go_num, hK.out, hBX.out, fun j y hj hy => ?_⟩
              rcases Nat.lt_or_ge j k with h | h
              · exact hno'.out j y h hy
              · obtain rfl : j = k := by omega
                rw [hik'.out] at hy
                obtain rfl := Option.some.inj hy
                rw [hisl'.out]
                rfl
          | true =>
            have hx10 := Lib.hid ((hbv.out.block _ (blk_lt hx7.out)).trans hx7.out)
            obtain ⟨q0, q1, q2, q3, q4, q5, q6, q7, q8, q9, q10, q11, q12⟩ := box13 hxv.out
            obtain ⟨o0, o1, o2, o3, o4, o5, o6, o7, o8, o9, o10, o11, o12⟩ := box13 hx10.out
            have hf0 := frz hx10.out
            have hsome := Lib.hid (show unlL s = some i from by
              rw [huw.out]
              exact find_found hik'.out (by rw [hisl'.out]; rfl) fun j y hj hy => hno'.out j y hj hy)
            go_wp2_with fail
            obtain ⟨z0, z1, z2, z3, z4, z5, z6, z7, z8, z9, z10, z11, z12⟩ := box13 (set13_cells hx10.out (.int .i64 i.op) (.int .i64 i.bn) (.int .i64 i.sh) (.int .i64 i.cd) (.int .i64 i.ds) (.int .i64 i.sr) (.int .u64 (i.im : Int)) (.int .i64 i.ba) (.int .i64 i.ix) (.bool i.hb) (.bool i.hi) (.int .i64 i.dp) (.int .i64 i.lb))
            refine bodyPost_ret (v := .tuple #[.agg #[.int .i64 i.op, .int .i64 i.bn, .int .i64 i.sh, .int .i64 i.cd, .int .i64 i.ds, .int .i64 i.sr, .int .u64 (i.im : Int), .int .i64 i.ba, .int .i64 i.ix, .bool i.hb, .bool i.hi, .int .i64 i.dp, .int .i64 i.lb], .bool true]) (by simp [results, Tryz.results33, Tryz.f33, go_sem, z0, z1, z2, z3, z4, z5, z6, z7, z8, z9, z10, z11, z12]) rfl ⟨i, by rw [hsome.out]; rfl, fun j hj => (by rw [hsome.out] at hj; exact Option.some.inj hj), ?_, fun b r hb => ?_⟩
            · repeat refine Keep.setNew ?_ _ _ _ (by exact Nat.le_refl _)
              exact (Keep.of_below hb1'.out).trans hK.out
            · exact (hBX.out b r hb).of_block (set13_other (by have := (hallG.out b _ hb).2; omega) _ _ _ _ _ _ _ _ _ _ _ _ _))
end Go.Proofs.YtmimmnjdgpdjlaaGreatDoor
namespace Go.Proofs.YtmimmnjdgpdjlaaGreatDoor
open Go.RowKit Go.Lib Go.Shelf Go.MapKept

theorem unline33_any (s : List UInt8) (m : Nat) (G : Nat → Option Gh) (w0 w : World) (hE : Env w0) (hB : Below w0.heap.size w0 w) (hT : Table w w0.heap.size m G tableL) (hs : s.length ≤ 2000000) :
    Calls Tryz.prog 33 #[.string (bt s), .map (some m)] w (UnlPost G s w) := by
  by_cases hl : s.getLast? = some 58
  · exact unline33_lab s m G w0 w hE hB hT hs hl
  · exact unline33_word s m G w0 w hE hB hT hs hl
def UnlinePost (s : List UInt8) (w : World) (e : Ending) (w' : World) : Prop := e = .returned (.tuple #[inV ((unlL s).getD (inZ 0)), .int .i64 (if (unlL s).isSome then 0 else 15)]) ∧ Below w.heap.size w w'
set_option maxRecDepth 100000 in
set_option maxHeartbeats 8000000 in
theorem unline11_any (s : List UInt8) (w : World) (hE : Env w) (hs : s.length ≤ 2000000) : Calls Tryz.prog 11 #[.string (bt s)] w (UnlinePost s w) := by
  obtain ⟨W1, hW1⟩ : ∃ W1, w.alloc (.cells #[.int .i64 0, .int .i64 0, .int .i64 0, .int .i64 0, .int .i64 0, .int .i64 0, .int .u64 0, .int .i64 0, .int .i64 0, .bool false, .bool false, .int .i64 0, .int .i64 0] 32) = W1 := ⟨_, rfl⟩
  have hb1 : Below w.heap.size w W1 := by rw [← hW1]; exact below_new w _
  have hx1 : W1.heap[w.heap.size]? = some (.cells #[.int .i64 0, .int .i64 0, .int .i64 0, .int .i64 0, .int .i64 0, .int .i64 0, .int .u64 0, .int .i64 0, .int .i64 0, .bool false, .bool false, .int .i64 0, .int .i64 0] 32 (0, 0)) := by rw [← hW1]; exact heap_alloc_new _ _
  have hs1 : W1.heap.size = w.heap.size + 1 := by rw [← hW1]; simp
  have hE1 := hE.below hb1
  have hrd := Lib.hid (readings34_any W1 hE1)
  have hun := Lib.hid (fun (W : World) m G (hB : Below W1.heap.size W1 W) (hT : Table W W1.heap.size m G tableL) => unline33_any s m G W1 W hE1 hB hT hs)
  unfold ReadsPost at hrd
  unfold UnlPost at hun
  have hx1' := Lib.hid hx1
  have hb1' := Lib.hid hb1
  have hW1' := Lib.hid hW1
  have hs1' := Lib.hid hs1
  obtain ⟨u, hu⟩ : ∃ u, unlL s = u := ⟨_, rfl⟩
  unfold UnlinePost
  rw [hu] at hun ⊢
  clear hW1 hb1 hx1 hs1 hE1 hE hs hu
  obtain ⟨sb, hsb⟩ : ∃ sb, bt s = sb := ⟨_, rfl⟩
  rw [hsb] at hun ⊢
  clear hsb
  go_enter Tryz.func11, Tryz.ntmps11
  go_wp2_with fail
  rw [hW1'.out]
  refine hrd.out.mono ?_
  rintro e w2 ⟨m, G, rfl, hT, hb2⟩
  have hun2 := Lib.hid (hun.out w2 m G hb2 hT)
  have hall := Lib.hid hT.all
  have hb2' := Lib.hid hb2
  clear hT hb2
  go_wp2_with fail
  refine hun2.out.mono ?_
  rintro e w3 ⟨i, rfl, hi, hk3, hbx3⟩
  have hb3 := Lib.hid (show Below W1.heap.size W1 w3 from hk3.on hb2'.out (fun k hk => by obtain ⟨r, hr⟩ := hk; exact (hall.out _ _ hr).1))
  have hx3 := Lib.hid ((hb3.out.block _ (blk_lt hx1'.out)).trans hx1'.out)
  have hi' := Lib.hid hi
  clear hk3 hbx3 hi
  unfold inV inC
  cases u with
  | none =>
    have hx3o : ∀ W, Below w3.heap.size w3 W → W.heap[w.heap.size]? = some (.cells #[.int .i64 0, .int .i64 0, .int .i64 0, .int .i64 0, .int .i64 0, .int .i64 0, .int .u64 0, .int .i64 0, .int .i64 0, .bool false, .bool false, .int .i64 0, .int .i64 0] 32 (0, 0)) := fun W hW => (hW.block _ (blk_lt hx3.out)).trans hx3.out
    obtain ⟨o0, o1, o2, o3, o4, o5, o6, o7, o8, o9, o10, o11, o12⟩ := box13 (hx3o _ (below_new w3 (.cells #[.int .i64 i.op, .int .i64 i.bn, .int .i64 i.sh, .int .i64 i.cd, .int .i64 i.ds, .int .i64 i.sr, .int .u64 (i.im : Int), .int .i64 i.ba, .int .i64 i.ix, .bool i.hb, .bool i.hi, .int .i64 i.dp, .int .i64 i.lb] 32)))
    have hf0 := frz (hx3o _ (below_new w3 (.cells #[.int .i64 i.op, .int .i64 i.bn, .int .i64 i.sh, .int .i64 i.cd, .int .i64 i.ds, .int .i64 i.sr, .int .u64 (i.im : Int), .int .i64 i.ba, .int .i64 i.ix, .bool i.hb, .bool i.hi, .int .i64 i.dp, .int .i64 i.lb] 32)))
    have hx3o' := Lib.hid hx3o
    clear hx3o
    go_wp2_with fail
    obtain ⟨z0, z1, z2, z3, z4, z5, z6, z7, z8, z9, z10, z11, z12⟩ := box13 (set13_cells (hx3o'.out _ (below_new w3 (.cells #[.int .i64 i.op, .int .i64 i.bn, .int .i64 i.sh, .int .i64 i.cd, .int .i64 i.ds, .int .i64 i.sr, .int .u64 (i.im : Int), .int .i64 i.ba, .int .i64 i.ix, .bool i.hb, .bool i.hi, .int .i64 i.dp, .int .i64 i.lb] 32))) (.int .i64 0) (.int .i64 0) (.int .i64 0) (.int .i64 0) (.int .i64 0) (.int .i64 0) (.int .u64 0) (.int .i64 0) (.int .i64 0) (.bool false) (.bool false) (.int .i64 0) (.int .i64 0))
    refine bodyPost_ret (v := .tuple #[.agg #[.int .i64 0, .int .i64 0, .int .i64 0, .int .i64 0, .int .i64 0, .int .i64 0, .int .u64 0, .int .i64 0, .int .i64 0, .bool false, .bool false, .int .i64 0, .int .i64 0], .int .i64 15]) (by simp [results, Tryz.results11, Tryz.f11, go_sem, z0, z1, z2, z3, z4, z5, z6, z7, z8, z9, z10, z11, z12]) rfl ⟨rfl, ?_⟩
    repeat refine Below.setCell ?_ (by exact Nat.le_refl _) _
    exact Below.next hb1'.out (Below.next hb3.out (below_new w3 _))
  | some j =>
    obtain rfl := hi'.out j rfl
    have hx3o : ∀ W, Below w3.heap.size w3 W → W.heap[w.heap.size]? = some (.cells #[.int .i64 0, .int .i64 0, .int .i64 0, .int .i64 0, .int .i64 0, .int .i64 0, .int .u64 0, .int .i64 0, .int .i64 0, .bool false, .bool false, .int .i64 0, .int .i64 0] 32 (0, 0)) := fun W hW => (hW.block _ (blk_lt hx3.out)).trans hx3.out
    obtain ⟨V1, hV1⟩ : ∃ V, w3.alloc (.cells #[.int .i64 i.op, .int .i64 i.bn, .int .i64 i.sh, .int .i64 i.cd, .int .i64 i.ds, .int .i64 i.sr, .int .u64 (i.im : Int), .int .i64 i.ba, .int .i64 i.ix, .bool i.hb, .bool i.hi, .int .i64 i.dp, .int .i64 i.lb] 32) = V := ⟨_, rfl⟩
    have hv1 := Lib.hid (show Below w3.heap.size w3 V1 from by rw [← hV1]; exact below_new _ _)
    have hxv := Lib.hid (show V1.heap[w3.heap.size]? = some (.cells #[.int .i64 i.op, .int .i64 i.bn, .int .i64 i.sh, .int .i64 i.cd, .int .i64 i.ds, .int .i64 i.sr, .int .u64 (i.im : Int), .int .i64 i.ba, .int .i64 i.ix, .bool i.hb, .bool i.hi, .int .i64 i.dp, .int .i64 i.lb] 32 (0, 0)) from by rw [← hV1]; exact heap_alloc_new _ _)
    have hxo := Lib.hid (hx3o _ hv1.out)
    have hV1' := Lib.hid hV1
    clear hx3o hV1
    go_upto_region 2 with fail
    rw [hV1'.out]
    obtain ⟨o0, o1, o2, o3, o4, o5, o6, o7, o8, o9, o10, o11, o12⟩ := box13 hxo.out
    have hf0 := frz hxo.out
    obtain ⟨q0, q1, q2, q3, q4, q5, q6, q7, q8, q9, q10, q11, q12⟩ := box13 hxv.out
    go_wp2_with fail
    obtain ⟨z0, z1, z2, z3, z4, z5, z6, z7, z8, z9, z10, z11, z12⟩ := box13 (set13_cells hxo.out (.int .i64 i.op) (.int .i64 i.bn) (.int .i64 i.sh) (.int .i64 i.cd) (.int .i64 i.ds) (.int .i64 i.sr) (.int .u64 (i.im : Int)) (.int .i64 i.ba) (.int .i64 i.ix) (.bool i.hb) (.bool i.hi) (.int .i64 i.dp) (.int .i64 i.lb))
    refine bodyPost_ret (v := .tuple #[.agg #[.int .i64 i.op, .int .i64 i.bn, .int .i64 i.sh, .int .i64 i.cd, .int .i64 i.ds, .int .i64 i.sr, .int .u64 (i.im : Int), .int .i64 i.ba, .int .i64 i.ix, .bool i.hb, .bool i.hi, .int .i64 i.dp, .int .i64 i.lb], .int .i64 0]) (by simp [results, Tryz.results11, Tryz.f11, go_sem, z0, z1, z2, z3, z4, z5, z6, z7, z8, z9, z10, z11, z12]) rfl ⟨rfl, ?_⟩
    repeat refine Below.setCell ?_ (by exact Nat.le_refl _) _
    exact Below.next hb1'.out (Below.next hb3.out hv1.out)
end Go.Proofs.YtmimmnjdgpdjlaaGreatDoor
