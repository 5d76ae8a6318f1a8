/- An instruction's line: line, Line. -/
import Derived.Test.YtmimmnjdgpdjlaaGreatDoorX
import Derived.Test.YtmimmnjdgpdjlaaGreatDoorP2
set_option linter.unusedSimpArgs false
set_option linter.unusedVariables false
namespace Go.Proofs.YtmimmnjdgpdjlaaGreatDoor
open Go.RowKit Go.Lib Go.Shelf

theorem join_lis {w : World} {b : Nat} {l : List (List UInt8)} (hb : w.heap[b]? = some (.cells (lisC l) 9 (0, 0))) (h1 : l.length ≤ 2) (h2 : ∀ x ∈ l, x.length ≤ 60) :
    Calls Tryz.prog 103 #[.slice (some ⟨b, 0, none⟩) l.length l.length, .string ⟨#[44, 32]⟩] w (StrPost (bt (joinC l)) w) := by
  have e : (l.map bt).map (·.data.toList) = l := by rw [List.map_map]; exact List.map_id' l
  have hj := Tryz.strings_Join b 0 l.length (l.map bt) ⟨#[44, 32]⟩ w (fun j x hx => by
    rw [Nat.zero_add, blk_cell hb]
    unfold lisC
    rw [List.getElem?_toArray, List.getElem?_map]
    rw [List.getElem?_map] at hx
    cases hl : l[j]? with
    | none => rw [hl] at hx; cases hx
    | some y => rw [hl] at hx; simp at hx; subst hx; rfl) (blk_lt hb) (by rw [List.length_map]; omega) (by rw [List.length_map]; exact Nat.le_refl _) (by
      rw [e]
      show (Lib.join l [44, 32]).length ≤ _
      rw [joinC_eq]
      have := joinC_len l h1 h2
      omega)
  rw [e, List.length_map, show (Lib.join l (⟨#[44, 32]⟩ : ByteArray).data.toList) = joinC l from joinC_eq l] at hj
  exact hj
theorem StrPost.from {s : ByteArray} {w W W' : World} {e : Ending} (h : StrPost s W e W') (hb : Below w.heap.size w W) : e = .returned (.string s) ∧ Below w.heap.size w W' := ⟨h.1, Below.next hb h.2⟩
set_option maxRecDepth 100000 in
set_option maxHeartbeats 8000000 in
theorem line44_lab (i : In) (h : Form i) (hl : i.op = 19) (w : World) (hE : Env w) : Calls Tryz.prog 44 #[inV i] w (StrPost (bt (lineL i)) w) := by
  cases h with
  | lab n hn =>
    show Calls Tryz.prog 44 _ w (StrPost (bt (lblT n ++ [58])) w)
    have hr := fun W hE => label100_any n (by omega) (by omega) W hE
    have hsz : (bt (lblT n)).size ≤ 22 := by rw [bt_size]; exact lblT_le n hn
    have ht : bt (lblT n) ++ ⟨#[58]⟩ = bt (lblT n ++ [58]) := bt_app _ [58]
    have hb1 := below_new w (.cells #[.int .i64 19, .int .i64 0, .int .i64 0, .int .i64 0, .int .i64 0, .int .i64 0, .int .u64 0, .int .i64 0, .int .i64 0, .bool false, .bool false, .int .i64 0, .int .i64 n] 32)
    have hE1 := Lib.hid (hE.below hb1)
    obtain ⟨x, hx⟩ : ∃ x, bt (lblT n) = x := ⟨_, rfl⟩
    unfold StrPost at hr
    rw [hx] at hr hsz ht
    have ht' := Lib.hid ht
    have hb1' := Lib.hid hb1
    have hr' := Lib.hid hr
    clear hx ht hr hb1 hE hn
    unfold inV inC
    dsimp only
    go_enter Tryz.func44, Tryz.ntmps44
    go_wp2_with fail
    refine (hr'.out _ hE1.out).mono ?_
    rintro e w2 ⟨rfl, hb2⟩
    have hfin := Lib.hid (Below.next hb1'.out hb2)
    clear hb2
    go_wp2
    go_ret
    exact ⟨congrArg (fun s => Ending.returned (Value.string s)) ht'.out, hfin.out⟩
  | two op d s ho hd hs => rcases ho with h | h | h | h <;> (dsimp only at hl; omega)
  | one op d ho hd => rcases ho with h | h <;> (dsimp only at hl; omega)
  | _ => first | (dsimp only at hl; omega) | (simp at hl)
set_option maxRecDepth 100000 in
set_option maxHeartbeats 8000000 in
theorem line44_any (i : In) (h : Form i) (hl : i.op ≠ 19) (hr : i.op ≠ 20) (w : World) (hE : Env w) : Calls Tryz.prog 44 #[inV i] w (StrPost (bt (lineL i)) w) := by
  obtain ⟨p1, p2, _⟩ := ops_plain h hl hr
  have hne : opsT i ≠ [] := by
    obtain ⟨_, _, p, q, e, _⟩ := ops_plain h hl hr
    rw [e]; simp
  have hj := fun (W : World) (b : Nat) (hb : W.heap[b]? = some (.cells (lisC (opsT i)) 9 (0, 0))) => join_lis hb p1 p2
  have hw := fun W hE => word_any h hl W hE
  have ho := fun W hE => (ops_any h hl W hE).mono (R' := fun e W' => ∃ b, e = .returned (.slice (some ⟨b, 0, none⟩) (opsT i).length (opsT i).length) ∧ W'.heap[b]? = some (.cells (lisC (opsT i)) 9 (0, 0)) ∧ Below W.heap.size W W') fun e W' hp => by
    rcases hp with ⟨h0, _⟩ | hp
    · exact absurd h0 hne
    · exact hp
  have htl := trim_line h hl hr
  have hwl := wordT_len h
  have hjl := joinC_len _ p1 p2
  have htr := fun W => by
    have ht := Tryz.strings_TrimSuffix (bt (wordT i ++ 32 :: joinC (opsT i))) ⟨#[32]⟩ W (by rw [bt_size]; simp; omega)
    rw [show Lib.trimSuffix (bt (wordT i ++ 32 :: joinC (opsT i))).data.toList (⟨#[32]⟩ : ByteArray).data.toList = _ from (trimS_eq 32 _).trans htl] at ht
    exact ht
  have hsz1 : (bt (wordT i)).size ≤ 15 := by rw [bt_size]; exact hwl
  have hsz2 : (bt (joinC (opsT i))).size ≤ 122 := by rw [bt_size]; exact hjl
  have hcat : bt (wordT i ++ 32 :: joinC (opsT i)) = bt (wordT i) ++ ⟨#[32]⟩ ++ bt (joinC (opsT i)) := by
    rw [show (⟨#[32]⟩ : ByteArray) = bt [32] from rfl, bt_app, bt_app]; simp
  rw [hcat] at htr
  obtain ⟨L, hL⟩ : ∃ L, opsT i = L := ⟨_, rfl⟩
  obtain ⟨x, hx⟩ : ∃ x, bt (wordT i) = x := ⟨_, rfl⟩
  obtain ⟨y, hy⟩ : ∃ y, bt (joinC (opsT i)) = y := ⟨_, rfl⟩
  obtain ⟨z, hz⟩ : ∃ z, lineL i = z := ⟨_, rfl⟩
  unfold StrPost at hw hj
  rw [hx] at hw hsz1 htr
  rw [hy] at hj hsz2 htr
  rw [hL] at hj ho
  rw [hz] at htr ⊢
  obtain ⟨n, hn⟩ : ∃ n, L.length = n := ⟨_, rfl⟩
  rw [hn] at hj ho
  have hj' := Lib.hid hj
  have hw' := Lib.hid hw
  have ho' := Lib.hid ho
  have htr' := Lib.hid htr
  have h19 : (i.op == 19) = false := beq_no hl
  have hzb := Lib.hid (show bt z = ⟨z.toArray⟩ from rfl)
  obtain ⟨W1, hW1⟩ : ∃ W1, w.alloc (.cells #[.int .i64 i.op, .int .i64 i.bn, .int .i64 i.sh, .int .i64 i.cd, .int .i64 i.ds, .int .i64 i.sr, .int .u64 (i.im : Int), .int .i64 i.ba, .int .i64 i.ix, .bool i.hb, .bool i.hi, .int .i64 i.dp, .int .i64 i.lb] 32) = W1 := ⟨_, rfl⟩
  have hb1 : Below w.heap.size w W1 := by rw [← hW1]; exact below_new w _
  have hbw := Lib.hid (show Below w.heap.size w W1.drew from hb1.drew)
  have hxx := Lib.hid (show W1.drew.heap[w.heap.size]? = some (.cells #[.int .i64 i.op, .int .i64 i.bn, .int .i64 i.sh, .int .i64 i.cd, .int .i64 i.ds, .int .i64 i.sr, .int .u64 (i.im : Int), .int .i64 i.ba, .int .i64 i.ix, .bool i.hb, .bool i.hi, .int .i64 i.dp, .int .i64 i.lb] 32 (0, 0)) from by show W1.heap[_]? = _; rw [← hW1]; exact heap_alloc_new _ _)
  have hE2 := Lib.hid ((hE.below hb1).below (Below.refl _ _).drew)
  have hW1' := Lib.hid hW1
  clear hj hw ho htr hL hx hy hz hn hcat htl hwl hjl p1 p2 hne h hl hr hE hb1 hW1
  unfold inV inC
  go_enter Tryz.func44, Tryz.ntmps44
  go_upto_region 3 with fail
  rw [hW1'.out]
  go_region_held_law (fun W => W.cell? ⟨w.heap.size, 0, none⟩ = some (.int .i64 i.op) ∧ W.cell? ⟨w.heap.size, 1, none⟩ = some (.int .i64 i.bn) ∧ W.cell? ⟨w.heap.size, 2, none⟩ = some (.int .i64 i.sh) ∧ W.cell? ⟨w.heap.size, 3, none⟩ = some (.int .i64 i.cd) ∧ W.cell? ⟨w.heap.size, 4, none⟩ = some (.int .i64 i.ds) ∧ W.cell? ⟨w.heap.size, 5, none⟩ = some (.int .i64 i.sr) ∧ W.cell? ⟨w.heap.size, 6, none⟩ = some (.int .u64 (i.im : Int)) ∧ W.cell? ⟨w.heap.size, 7, none⟩ = some (.int .i64 i.ba) ∧ W.cell? ⟨w.heap.size, 8, none⟩ = some (.int .i64 i.ix) ∧ W.cell? ⟨w.heap.size, 9, none⟩ = some (.bool i.hb) ∧ W.cell? ⟨w.heap.size, 10, none⟩ = some (.bool i.hi) ∧ W.cell? ⟨w.heap.size, 11, none⟩ = some (.int .i64 i.dp) ∧ W.cell? ⟨w.heap.size, 12, none⟩ = some (.int .i64 i.lb)) (exact box13 hxx.out) (first
    | (go_at_call 102; refine (hw'.out _ hE2.out).mono ?_; rintro e w4 ⟨rfl, hb4⟩; have hxx := Lib.hid ((hb4.block _ (blk_lt hxx.out)).trans hxx.out); have hE2 := Lib.hid (hE2.out.below hb4); have hbw := Lib.hid (Below.next hbw.out hb4); clear hb4)
    | (go_at_call 104; refine (ho'.out _ hE2.out).mono ?_; rintro e w5 ⟨b, rfl, hcs, hb4⟩; have hcs' := Lib.hid hcs; have hxx := Lib.hid ((hb4.block _ (blk_lt hxx.out)).trans hxx.out); have hE2 := Lib.hid (hE2.out.below hb4); have hbw := Lib.hid (Below.next hbw.out hb4); clear hb4 hcs)
    | (go_at_call 103; refine (hj'.out _ _ hcs'.out).mono ?_; rintro e w6 ⟨rfl, hb4⟩; have hxx := Lib.hid ((hb4.block _ (blk_lt hxx.out)).trans hxx.out); have hE2 := Lib.hid (hE2.out.below hb4); have hbw := Lib.hid (Below.next hbw.out hb4); clear hb4)
    | (go_at_call 101; refine (htr'.out _).mono ?_; rintro e w7 ⟨rfl, rfl⟩))
  all_goals (
    go_wp2
    go_ret
    exact ⟨rfl, hbw.out⟩)
set_option maxRecDepth 100000 in
theorem opsRet_any (w : World) : Calls Tryz.prog 104 #[inV (inZ 20)] w (fun e w' => e = .returned (.slice none 0 0) ∧ Below w.heap.size w w') := by
  unfold inV inC inZ
  go_enter Tryz.func104, Tryz.ntmps104
  go_wp2
  go_ret
  exact ⟨rfl, below_new _ _⟩
set_option maxRecDepth 100000 in
set_option maxHeartbeats 8000000 in
theorem line44_ret (w : World) (hE : Env w) : Calls Tryz.prog 44 #[inV (inZ 20)] w (StrPost (bt (lineL (inZ 20))) w) := by
  have hw := fun W hE => word_any Form.ret (by decide) W hE
  have hw' := Lib.hid (fun W hE => (show Calls Tryz.prog 102 #[inV (inZ 20)] W (fun e w' => e = .returned (.string ⟨#[114, 101, 116]⟩) ∧ Below W.heap.size W w') from hw W hE))
  have ho' := Lib.hid (fun W => opsRet_any W)
  have hj' := Lib.hid (fun W => Tryz.strings_Join_none none 0 ⟨#[44, 32]⟩ W)
  have htr' := Lib.hid (fun W => by
    have ht := Tryz.strings_TrimSuffix ⟨#[114, 101, 116, 32]⟩ ⟨#[32]⟩ W (by show 4 ≤ _; omega)
    rw [show Lib.trimSuffix (⟨#[114, 101, 116, 32]⟩ : ByteArray).data.toList (⟨#[32]⟩ : ByteArray).data.toList = [114, 101, 116] from rfl] at ht
    exact ht)
  obtain ⟨W1, hW1⟩ : ∃ W1, w.alloc (.cells #[.int .i64 20, .int .i64 0, .int .i64 0, .int .i64 0, .int .i64 0, .int .i64 0, .int .u64 0, .int .i64 0, .int .i64 0, .bool false, .bool false, .int .i64 0, .int .i64 0] 32) = W1 := ⟨_, rfl⟩
  have hb1 : Below w.heap.size w W1 := by rw [← hW1]; exact below_new w _
  have hbw := Lib.hid (show Below w.heap.size w W1.drew from hb1.drew)
  have hxx := Lib.hid (show W1.drew.heap[w.heap.size]? = some (.cells #[.int .i64 20, .int .i64 0, .int .i64 0, .int .i64 0, .int .i64 0, .int .i64 0, .int .u64 0, .int .i64 0, .int .i64 0, .bool false, .bool false, .int .i64 0, .int .i64 0] 32 (0, 0)) from by show W1.heap[_]? = _; rw [← hW1]; exact heap_alloc_new _ _)
  have hE2 := Lib.hid ((hE.below hb1).below (Below.refl _ _).drew)
  have hW1' := Lib.hid hW1
  clear hw hE hb1 hW1
  unfold inV inC inZ at hw' ho' ⊢
  dsimp only at hw' ho' ⊢
  go_enter Tryz.func44, Tryz.ntmps44
  go_upto_region 3 with fail
  rw [hW1'.out]
  go_region_held_law (fun W => W.cell? ⟨w.heap.size, 0, none⟩ = some (.int .i64 20) ∧ W.cell? ⟨w.heap.size, 1, none⟩ = some (.int .i64 0) ∧ W.cell? ⟨w.heap.size, 2, none⟩ = some (.int .i64 0) ∧ W.cell? ⟨w.heap.size, 3, none⟩ = some (.int .i64 0) ∧ W.cell? ⟨w.heap.size, 4, none⟩ = some (.int .i64 0) ∧ W.cell? ⟨w.heap.size, 5, none⟩ = some (.int .i64 0) ∧ W.cell? ⟨w.heap.size, 6, none⟩ = some (.int .u64 0) ∧ W.cell? ⟨w.heap.size, 7, none⟩ = some (.int .i64 0) ∧ W.cell? ⟨w.heap.size, 8, none⟩ = some (.int .i64 0) ∧ W.cell? ⟨w.heap.size, 9, none⟩ = some (.bool false) ∧ W.cell? ⟨w.heap.size, 10, none⟩ = some (.bool false) ∧ W.cell? ⟨w.heap.size, 11, none⟩ = some (.int .i64 0) ∧ W.cell? ⟨w.heap.size, 12, none⟩ = some (.int .i64 0)) (exact box13 hxx.out) (first
    | (go_at_call 102; refine (hw'.out _ hE2.out).mono ?_; rintro e w4 ⟨rfl, hb4⟩; have hxx := Lib.hid ((hb4.block _ (blk_lt hxx.out)).trans hxx.out); have hE2 := Lib.hid (hE2.out.below hb4); have hbw := Lib.hid (Below.next hbw.out hb4); clear hb4)
    | (go_at_call 104; refine (ho'.out _).mono ?_; rintro e w5 ⟨rfl, hb4⟩; have hxx := Lib.hid ((hb4.block _ (blk_lt hxx.out)).trans hxx.out); have hE2 := Lib.hid (hE2.out.below hb4); have hbw := Lib.hid (Below.next hbw.out hb4); clear hb4)
    | (go_at_call 103; refine (hj'.out _).mono ?_; rintro e w6 ⟨rfl, rfl⟩)
    | (go_at_call 101; refine (htr'.out _).mono ?_; rintro e w7 ⟨rfl, rfl⟩))
  all_goals (
    go_wp2
    go_ret
    exact ⟨rfl, hbw.out⟩)
theorem line_any {i : In} (h : Form i) (w : World) (hE : Env w) : Calls Tryz.prog 44 #[inV i] w (StrPost (bt (lineL i)) w) := by
  by_cases hl : i.op = 19
  · exact line44_lab i h hl w hE
  · by_cases hr : i.op = 20
    · cases h with
      | ret => exact line44_ret w hE
      | two op d s ho hd hs => rcases ho with h | h | h | h <;> (dsimp only at hr; omega)
      | one op d ho hd => rcases ho with h | h <;> (dsimp only at hr; omega)
      | _ => first | (dsimp only at hr; omega) | (simp at hr)
    · exact line44_any i h hl hr w hE
def LinePost (i : In) (w : World) (e : Ending) (w' : World) : Prop := e = .returned (.tuple #[.string (if mayB i then bt (lineL i) else ⟨#[]⟩), .int .i64 (if mayB i then 0 else 2)]) ∧ Below w.heap.size w w'
set_option maxRecDepth 100000 in
set_option maxHeartbeats 8000000 in
theorem line19_any (i : In) (hf : Fit i) (w : World) (hE : Env w) : Calls Tryz.prog 19 #[inV i] w (LinePost i w) := by
  obtain ⟨W1, hW1⟩ : ∃ W1, w.alloc (.cells #[.int .i64 i.op, .int .i64 i.bn, .int .i64 i.sh, .int .i64 i.cd, .int .i64 i.ds, .int .i64 i.sr, .int .u64 (i.im : Int), .int .i64 i.ba, .int .i64 i.ix, .bool i.hb, .bool i.hi, .int .i64 i.dp, .int .i64 i.lb] 32) = W1 := ⟨_, rfl⟩
  have hb1 : Below w.heap.size w W1 := by rw [← hW1]; exact below_new w _
  have hx1 := Lib.hid (show W1.heap[w.heap.size]? = some (.cells #[.int .i64 i.op, .int .i64 i.bn, .int .i64 i.sh, .int .i64 i.cd, .int .i64 i.ds, .int .i64 i.sr, .int .u64 (i.im : Int), .int .i64 i.ba, .int .i64 i.ix, .bool i.hb, .bool i.hi, .int .i64 i.dp, .int .i64 i.lb] 32 (0, 0)) from by rw [← hW1]; exact heap_alloc_new _ _)
  have hm := Lib.hid (mayOne_any i hf W1)
  have hl := Lib.hid (fun (h : mayB i = true) W hE => line_any (form_of h hf.1) W hE)
  unfold LinePost
  unfold BoolPost at hm
  obtain ⟨r, hr⟩ : ∃ r, mayB i = r := ⟨_, rfl⟩
  rw [hr] at hm hl ⊢
  have hE1 := Lib.hid (hE.below hb1)
  have hb1' := Lib.hid hb1
  have hW1' := Lib.hid hW1
  clear hE hb1 hW1 hr hf
  obtain ⟨g0, g1, g2, g3, g4, g5, g6, g7, g8, g9, g10, g11, g12⟩ := box13 hx1.out
  obtain ⟨z, hz⟩ : ∃ z, bt (lineL i) = z := ⟨_, rfl⟩
  unfold StrPost at hl
  rw [hz] at hl ⊢
  clear hz
  unfold inV inC at hm hl ⊢
  cases r with
  | false =>
    go_enter Tryz.func19, Tryz.ntmps19
    go_wp2_with fail
    rw [hW1'.out]
    refine hm.out.mono ?_
    rintro e w2 ⟨rfl, hb2⟩
    have hfin := Lib.hid (Below.next hb1'.out hb2)
    clear hb2 g0 g1 g2 g3 g4 g5 g6 g7 g8 g9 g10 g11 g12
    go_wp2
    go_ret2
    exact ⟨rfl, hfin.out⟩
  | true =>
    go_enter Tryz.func19, Tryz.ntmps19
    go_wp2_with fail
    rw [hW1'.out]
    refine hm.out.mono ?_
    rintro e w2 ⟨rfl, hb2⟩
    have hfin := Lib.hid (Below.next hb1'.out hb2)
    have hx2 := Lib.hid ((hb2.block _ (blk_lt hx1.out)).trans hx1.out)
    have hE2 := Lib.hid (hE1.out.below hb2)
    clear hb2 g0 g1 g2 g3 g4 g5 g6 g7 g8 g9 g10 g11 g12
    obtain ⟨g0, g1, g2, g3, g4, g5, g6, g7, g8, g9, g10, g11, g12⟩ := box13 hx2.out
    go_wp2_with fail
    refine (hl.out (by trivial) _ hE2.out).mono ?_
    rintro e w3 ⟨rfl, hb3⟩
    have hfin3 := Lib.hid (Below.next hfin.out hb3)
    clear hb3
    go_wp2
    go_ret2
    exact ⟨rfl, hfin3.out⟩
end Go.Proofs.YtmimmnjdgpdjlaaGreatDoor
