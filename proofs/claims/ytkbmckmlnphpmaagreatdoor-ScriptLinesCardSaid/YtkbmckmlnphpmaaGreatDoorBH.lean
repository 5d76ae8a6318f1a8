/- Going over an asking's lines: the iterator's contract. -/
import Derived.Test.YtkbmckmlnphpmaaGreatDoorBG
set_option linter.unusedSimpArgs false
set_option linter.unusedVariables false
namespace Go.Proofs.YtkbmckmlnphpmaaGreatDoor
open Go.RowKit Go.Lib Go.Shelf

attribute [local go_sem] Oper.semAt_some

theorem tab_block {w w' : World} (h : Tab w) (h0 : w'.heap[0]? = w.heap[0]?) : Tab w' := by
  unfold Tab TabIs World.var? at *
  have g : Tryz.prog.globalNamed "internal/strconv.uint64pow10" = some 0 := by kernel_rfl
  rw [g] at h ⊢
  simp only [Option.bind_some] at h ⊢
  rw [h0]
  exact h
theorem tab_lt {w : World} (h : Tab w) : 0 < w.heap.size := by
  unfold Tab TabIs World.var? at h
  have g : Tryz.prog.globalNamed "internal/strconv.uint64pow10" = some 0 := by kernel_rfl
  rw [g] at h
  simp only [Option.bind_some] at h
  rcases Nat.eq_zero_or_pos w.heap.size with h0 | h0
  · rw [Array.getElem?_eq_none (by omega)] at h; cases h
  · exact h0
theorem Agree.lt {F : Nat → Prop} {w w' : World} (h : Agree F w w') (hF : ∀ x, F x → x < w.heap.size) : ∀ x, F x → x < w'.heap.size := fun x hx => by
  have h1 := h x hx
  rw [Array.getElem?_eq_getElem (hF x hx)] at h1
  exact blk_lt h1
theorem Agree.trans {F : Nat → Prop} {a b c : World} (h : Agree F a b) (k : Agree F b c) : Agree F a c := fun x hx => (k x hx).trans (h x hx)
theorem agree_below {F : Nat → Prop} {w w' : World} (hF : ∀ x, F x → x < w.heap.size) (hb : Below w.heap.size w w') : Agree F w w' := fun x hx => hb.block x (hF x hx)
def intOf : Value → Int
  | .int _ i => i
  | _ => 0
/-- an asking lies in a box, and its words in blocks of F -/
structure LinI (F : Nat → Prop) (W : World) (b : Nat) (a : Ask) (A1 : Option Addr) (c1 : Nat) (A2 : Option Addr) (c2 : Nat) : Prop where
  lt : ∀ x, F x → x < W.heap.size
  f0 : F 0
  fb : F b
  tab : Tab W
  blk : W.heap[b]? = some (.cells #[.int .i64 a.k, .slice A1 a.args.length c1, .slice A2 a.regs.length c2, .int .u64 a.st, .int .i64 a.fu] 42 (0, 0))
  wargs : WF F W A1 a.args
  wregs : WsF F W A2 a.regs
theorem LinI.go {F : Nat → Prop} {W W' : World} {b : Nat} {a : Ask} {A1 A2 : Option Addr} {c1 c2 : Nat} (h : LinI F W b a A1 c1 A2 c2) (hk : Agree F W W') : LinI F W' b a A1 c1 A2 c2 :=
  ⟨hk.lt h.lt, h.f0, h.fb, tab_block h.tab (hk 0 h.f0), (hk b h.fb).trans h.blk, h.wargs.go (fun _ x => x) hk, h.wregs.go (fun _ x => x) hk⟩
/-- sizes of an asking that is told -/
structure AskSm (a : Ask) : Prop where
  l1 : a.args.length ≤ 10000
  l2 : a.regs.length ≤ 10000
  l3 : ∀ ws ∈ a.regs, ws.length ≤ 10000
  st : 0 ≤ a.st ∧ a.st ≤ 18446744073709551615
def mayA (a : Ask) : Bool := mayV a.k a.args.length a.regs.length a.st a.fu (shortB a.regs)
def linesM (a : Ask) : List ByteArray := if mayA a then linesA a else []
theorem mayA_fu {a : Ask} (h : mayA a = true) : 0 ≤ a.fu ∧ a.fu ≤ 1000000 := by
  simp only [mayA, mayV, Bool.and_eq_true, decide_eq_true_eq] at h
  exact ⟨h.1.1.2, h.1.2⟩
theorem lines_at0 (a : Ask) (h : mayA a = true) : (linesM a)[([] : List ByteArray).length]? = some (lineT inW a.args) := by unfold linesM; rw [if_pos h]; rfl
theorem lines_atk {a : Ask} (h : mayA a = true) {i : Nat} {ws : List Int} (hw : a.regs[i]? = some ws) : (linesM a)[(lineT inW a.args :: (a.regs.take i).map (lineT withW)).length]? = some (lineT withW ws) := by
  have hl := (List.getElem?_eq_some_iff.1 hw).1
  unfold linesM linesA
  rw [if_pos h, List.length_cons, List.length_map, List.length_take, Nat.min_eq_left (by omega), List.getElem?_cons_succ, List.getElem?_append_left (by rw [List.length_map]; exact hl), List.getElem?_map, hw]
  rfl
theorem lines_atl (a : Ask) (h : mayA a = true) : (linesM a)[(lineT inW a.args :: a.regs.map (lineT withW)).length]? = some (askedT a.k a.st a.fu) := by
  unfold linesM linesA
  rw [if_pos h, List.length_cons, List.getElem?_cons_succ, List.getElem?_append_right (Nat.le_refl _), Nat.sub_self]
  rfl
theorem lines_all (a : Ask) (h : mayA a = true) : (lineT inW a.args :: a.regs.map (lineT withW)) ++ [askedT a.k a.st a.fu] = linesM a := by
  unfold linesM linesA
  rw [if_pos h]
  rfl

set_option maxRecDepth 100000 in
set_option maxHeartbeats 1000000 in
theorem lines44_any (a : Ask) (A1 A2 : Option Addr) (c1 c2 : Nat) (w : World) :
    Calls Tryz.prog 44 #[askVal a A1 c1 A2 c2] w fun e w' => e = .returned (.func (.func 73) #[] #[.pointer (some ⟨w.heap.size, 0, none⟩)]) ∧ w' = w.alloc (.cells #[.int .i64 a.k, .slice A1 a.args.length c1, .slice A2 a.regs.length c2, .int .u64 a.st, .int .i64 a.fu] 42) := by
  unfold askVal
  go_enter Tryz.func44, Tryz.ntmps44
  go_wp2
  go_ret
  exact ⟨rfl, rfl⟩

set_option maxRecDepth 100000 in
set_option maxHeartbeats 8000000 in
theorem lines73_in (n : Nat) (hn : 1 ≤ n) (l b : Nat) (a : Ask) (A1 A2 : Option Addr) (c1 c2 : Nat) (F : Nat → Prop) (J Jx : List ByteArray → World → Prop) (W : World) (hL : LinI F W b a A1 c1 A2 c2) (hs : AskSm a)
    (hJ : ∀ s W W', J s W → Below W.heap.size W W' → J s W')
    (hY : ∀ pre x W1, J pre W1 → (linesM a)[pre.length]? = some x → YieldAt Fence.wide (n - 1) Tryz.prog l #[.string x] W1 fun e W' => (e = .returned (.bool true) ∧ J (pre ++ [x]) W' ∧ Agree F W1 W') ∨ (e = .returned (.bool false) ∧ Jx (pre ++ [x]) W'))
    (hJ0 : J [] W) :
    CallsIn Fence.wide n Tryz.prog 73 #[.func (.yield l) #[] #[], .pointer (some ⟨b, 0, none⟩)] W fun e W' => (∃ v, e = .returned v) ∧
      ((∃ xs, xs = linesM a ∧ J xs W') ∨ (∃ pre, True ∧ Jx pre W')) := by
  have hY' := Lib.hid hY
  have hJ' := Lib.hid hJ
  have hL' := Lib.hid hL
  have hJ0' := Lib.hid hJ0
  have hs' := Lib.hid hs
  obtain ⟨g0, g1, g2, g3, g4, gf⟩ := box5 hL.blk
  have hmay := Lib.hid (show Calls Tryz.prog 34 #[.agg #[.int .i64 a.k, .slice A1 a.args.length c1, .slice A2 a.regs.length c2, .int .u64 a.st, .int .i64 a.fu]] W (BoolPost (mayA a) W) from may_any a.k A1 A2 a.args.length c1 a.regs.length c2 a.regs a.st a.fu W rfl hL.wregs.wsat (by have := hs.l2; omega) (by have := hs.l1; omega))
  obtain ⟨t, ht⟩ : ∃ t, mayA a = t := ⟨_, rfl⟩
  rw [ht] at hmay
  have ht' := Lib.hid ht
  clear hY hJ hL hJ0 hs ht
  refine callsIn_of_wp Tryz.func73 rfl trivial ?_ rfl
  simp only [Tryz.ntmps73, List.size_toArray, List.length_cons, List.length_nil, Nat.reduceAdd, Nat.reduceSub, Array.replicate_succ, Array.replicate_zero, List.push_toArray, List.append_toArray, List.nil_append, List.cons_append]
  gi_wp2_with fail
  refine ⟨trivial, ?_⟩
  refine (callsIn_wide.2 hmay.out).mono ?_
  rintro e w1 ⟨rfl, hb1⟩
  have L1 := Lib.hid (hL'.out.go (agree_below hL'.out.lt hb1))
  have J1 := Lib.hid (hJ'.out _ _ _ hJ0'.out hb1)
  clear hb1 g0 g1 g2 g3 g4 gf hmay
  obtain ⟨g0, g1, g2, g3, g4, gf⟩ := box5 L1.out.blk
  cases t
  · gi_wp2_with fail
    repeat ((with_reducible (refine And.intro ?_ ?_)); (first | trivial | exact (fun f e => by cases e)); try gi_wp2_with fail)
    refine bodyPost_ret (results_none rfl _ _ _) rfl ?_
    exact ⟨⟨_, rfl⟩, .inl ⟨[], by unfold linesM; rw [ht'.out]; rfl, J1.out⟩⟩
  · have hfu := Lib.hid (mayA_fu ht'.out)
    have hline := Lib.hid (show Calls Tryz.prog 50 #[.string ⟨#[105, 110]⟩, .slice A1 a.args.length c1] w1 (StrPost (lineT inW a.args) w1) from line_any inW A1 a.args.length c1 a.args w1 rfl L1.out.wargs.wat L1.out.tab (by decide) (by have := hs'.out.l1; omega))
    gi_wp2_with fail
    refine ⟨trivial, ?_⟩
    refine (callsIn_wide.2 hline.out).mono ?_
    rintro e w2 ⟨rfl, hb2⟩
    have L2 := Lib.hid (L1.out.go (agree_below L1.out.lt hb2))
    have J2 := Lib.hid (hJ'.out _ _ _ J1.out hb2)
    obtain ⟨fn, tmps, assign, body, hy, hRo⟩ := hY'.out [] (lineT inW a.args) w2 J2.out (lines_at0 a ht'.out)
    have hRo' := Lib.hid hRo
    clear hRo hb2 g0 g1 g2 g3 g4 gf hline
    gi_wp2_with fail
    refine hRo'.out.mono ?_
    rintro e W3 (⟨rfl, hJ3, hk3⟩ | ⟨rfl, hJx3⟩)
    · have L3 := Lib.hid (L2.out.go hk3)
      have J3 := Lib.hid hJ3
      obtain ⟨g0, g1, g2, g3, g4, gf⟩ := box5 L3.out.blk
      clear hJ3 hk3 hRo' hy
      gi_wp2_with fail
      gi_loopw [21] (fun s21 wr => ∃ i : Nat, i ≤ a.regs.length ∧ s21 = .int .i64 i ∧ J (lineT inW a.args :: (a.regs.take i).map (lineT withW)) wr ∧ LinI F wr b a A1 c1 A2 c2) (fun s21 wr => a.regs.length - (intOf s21).toNat)
      case atStart => exact ⟨0, Nat.zero_le _, rfl, J3.out, L3.out⟩
      case round =>
        obtain ⟨i, hi, rfl, hJs, hLs⟩ := hrel
        have hJs := Lib.hid hJs
        have hLs := Lib.hid hLs
        clear g0 g1 g2 g3 g4 gf
        by_cases hlt : i < a.regs.length
        · have e0 : (i : Int) < (a.regs.length : Int) := by omega
          obtain ⟨blk, off, ws, B, cb, rfl, hws, v1, v2, v3⟩ := hLs.out.wregs.wsat.at_ (k := i) hlt
          have hws' := Lib.hid hws
          have hrl := hs'.out.l2
          have hln := Lib.hid (show Calls Tryz.prog 50 #[.string ⟨#[119, 105, 116, 104]⟩, .slice B ws.length cb] wr (StrPost (lineT withW ws) wr) from line_any withW B ws.length cb ws wr rfl v3 hLs.out.tab (by decide) (by have := hs'.out.l3 ws (List.mem_of_getElem? hws); omega))
          have hlk := Lib.hid (lines_atk ht'.out hws)
          clear hws v3
          gi_wp2_with fail
          refine ⟨trivial, ?_⟩
          refine (callsIn_wide.2 hln.out).mono ?_
          rintro e w4 ⟨rfl, hb4⟩
          have L4 := Lib.hid (hLs.out.go (agree_below hLs.out.lt hb4))
          have J4 := Lib.hid (hJ'.out _ _ _ hJs.out hb4)
          obtain ⟨fn, tmps, assign, body, hy, hRo⟩ := hY'.out _ (lineT withW ws) w4 J4.out hlk.out
          have hRo' := Lib.hid hRo
          clear hRo hb4 v1 hln
          gi_wp2_with fail
          refine hRo'.out.mono ?_
          rintro e W5 (⟨rfl, hJ5, hk5⟩ | ⟨rfl, hJx5⟩)
          · have L5 := Lib.hid (L4.out.go hk5)
            have J5 := Lib.hid hJ5
            clear hJ5 hk5
            gi_wp2
            go_roundw
            case rel =>
              refine ⟨i + 1, by omega, by go_num, ?_, L5.out⟩
              have e5 : lineT inW a.args :: (a.regs.take (i + 1)).map (lineT withW) = (lineT inW a.args :: (a.regs.take i).map (lineT withW)) ++ [lineT withW ws] := by
                rw [List.take_add_one, hws'.out, List.map_append]
                rfl
              rw [e5]
              exact J5.out
            case measure => simp [intOf]; omega
          · have hJx5' := Lib.hid hJx5
            clear hJx5
            gi_wp2
            refine bodyPost_ret (results_none rfl _ _ _) rfl ?_
            exact ⟨⟨_, rfl⟩, .inr ⟨_, trivial, hJx5'.out⟩⟩
        · obtain rfl : i = a.regs.length := by omega
          obtain ⟨g0, g1, g2, g3, g4, gf⟩ := box5 hLs.out.blk
          have has := Lib.hid (asked_any a.k A1 A2 a.args.length c1 a.regs.length c2 a.st a.fu wr hLs.out.tab hs'.out.st.1 hs'.out.st.2 hfu.out.1 hfu.out.2)
          have hJt := hJs.out
          rw [List.take_length] at hJt
          have hJt := Lib.hid hJt
          gi_wp2_with fail
          refine ⟨trivial, ?_⟩
          refine (callsIn_wide.2 has.out).mono ?_
          rintro e w4 ⟨rfl, hb4⟩
          have J4 := Lib.hid (hJ'.out _ _ _ hJt.out hb4)
          obtain ⟨fn, tmps, assign, body, hy, hRo⟩ := hY'.out _ (askedT a.k a.st a.fu) w4 J4.out (lines_atl a ht'.out)
          have hRo' := Lib.hid hRo
          clear hRo hb4 has g0 g1 g2 g3 g4 gf
          gi_wp2_with fail
          refine hRo'.out.mono ?_
          rintro e W5 (⟨rfl, hJ5, hk5⟩ | ⟨rfl, hJx5⟩)
          · have J5 := Lib.hid hJ5
            clear hJ5 hk5
            gi_wp2
            go_end0
            exact ⟨⟨_, rfl⟩, .inl ⟨_, lines_all a ht'.out, J5.out⟩⟩
          · have hJx5' := Lib.hid hJx5
            clear hJx5
            gi_wp2
            go_end0
            exact ⟨⟨_, rfl⟩, .inr ⟨_, trivial, hJx5'.out⟩⟩
    · have hJx3' := Lib.hid hJx3
      clear hJx3
      gi_wp2
      refine bodyPost_ret (results_none rfl _ _ _) rfl ?_
      exact ⟨⟨_, rfl⟩, .inr ⟨_, trivial, hJx3'.out⟩⟩
end Go.Proofs.YtkbmckmlnphpmaaGreatDoor
