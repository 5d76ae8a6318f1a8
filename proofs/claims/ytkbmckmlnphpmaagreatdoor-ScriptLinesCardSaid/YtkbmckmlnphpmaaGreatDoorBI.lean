/- The law's own once: an asking's lines are gone over. -/
import Derived.Test.YtkbmckmlnphpmaaGreatDoorBH
set_option linter.unusedSimpArgs false
set_option linter.unusedVariables false
namespace Go.Proofs.YtkbmckmlnphpmaaGreatDoor
open Go.RowKit Go.Lib Go.Shelf

attribute [local go_sem] Oper.semAt_some

theorem WAt.wf {w : World} {A : Option Addr} {ws : List Int} (h : WAt w A ws) {F : Nat → Prop} (hF : ∀ x, x < w.heap.size → F x) : WF F w A ws := by
  refine ⟨h.1, fun hn => ?_⟩
  obtain ⟨blk, off, e, hc⟩ := h.2 hn
  exact ⟨blk, off, e, hF _ (cell_some_lt (hc 0 ws[0] (by simp))), hc⟩
theorem WsAt.wsf {w : World} {A : Option Addr} {W : List (List Int)} (h : WsAt w A W) {F : Nat → Prop} (hF : ∀ x, x < w.heap.size → F x) : WsF F w A W := by
  intro hn
  obtain ⟨blk, off, e, hc⟩ := h hn
  refine ⟨blk, off, e, ?_, fun i ws hi => ?_⟩
  · obtain ⟨A', c, h1, _⟩ := hc 0 W[0] (by simp)
    exact hF _ (cell_some_lt h1)
  · obtain ⟨A', c, h1, h2, h3⟩ := hc i ws hi
    exact ⟨A', c, h1, h2, h3.wf hF⟩
theorem lines73_said (n : Nat) (hn : 1 ≤ n) (b : Nat) (a : Ask) (A1 A2 : Option Addr) (c1 c2 : Nat) (F : Nat → Prop) (w : World) (hL : LinI F w b a A1 c1 A2 c2) (hs : AskSm a) :
    IterGrow n 73 #[.pointer (some ⟨b, 0, none⟩)] (Agree F) (fun pre x => (linesM a)[pre.length]? = some x) (fun xs => xs = linesM a) (fun _ => True) w :=
  fun l J Jx W hW hJ hY h0 => lines73_in n hn l b a A1 A2 c1 c2 F J Jx W (hL.go (agree_below hL.lt hW)) hs hJ hY h0
theorem run_it_nil (p : Addr) (w : World) : (binOp BinOp.eql 76 (.func (.func 73) #[] #[.pointer (some p)]) .nilFunc).run Tryz.prog w = .ok (.bool false) w := by kernel_rfl
/-- between two rounds -/
structure OnI (w : World) (B : Option Addr) (LN cw : Nat) (m : Int) (pre : List ByteArray) (W : World) : Prop where
  b4 : Box1 W (w.heap.size + 1) 67 (.slice B LN cw)
  b5 : Box1 W (w.heap.size + 1 + 1) 3 (.int .i64 m)
  b6 : Box1 W (w.heap.size + 1 + 1 + 1) 4 (.bool false)
  b7 : Box1 W (w.heap.size + 1 + 1 + 1 + 1) 3 (.int .i64 (pre.length : Int))
  bel : Below w.heap.size w W
  sz : w.heap.size + 6 ≤ W.heap.size
structure OnX (w : World) (pre : List ByteArray) (W : World) : Prop where
  b6 : Box1 W (w.heap.size + 1 + 1 + 1) 4 (.bool true)
  bel : Below w.heap.size w W
theorem onI_calm {w : World} {B : Option Addr} {LN cw : Nat} {m : Int} : Calm (w.heap.size + 1 + 1 + 1 + 1 + 1 + 1) (OnI w B LN cw m) :=
  ⟨fun s W o h hB => ⟨h.b4.alloc o, h.b5.alloc o, h.b6.alloc o, h.b7.alloc o, h.bel.alloc h.bel.size o, by have := h.sz; simp; omega⟩,
   fun s W l o o' h hB hl ho => ⟨h.b4.put hl ho o', h.b5.put hl ho o', h.b6.put hl ho o', h.b7.put hl ho o', below_put h.bel (by omega) o', by have := h.sz; simpa using this⟩⟩
theorem onX_calm {w : World} : Calm (w.heap.size + 1 + 1 + 1 + 1 + 1 + 1) (OnX w) :=
  ⟨fun s W o h hB => ⟨h.b6.alloc o, h.bel.alloc h.bel.size o⟩, fun s W l o o' h hB hl ho => ⟨h.b6.put hl ho o', below_put h.bel (by omega) o'⟩⟩
theorem Box1.go {W W' : World} {b : Nat} {t : TypeId} {v : Value} (h : Box1 W b t v) (hb : Below W.heap.size W W') : Box1 W' b t v := (hb.block _ (blk_lt h)).trans h
theorem onI_grow {w : World} {B : Option Addr} {LN cw : Nat} {m : Int} : ∀ s W W', OnI w B LN cw m s W → Below W.heap.size W W' → OnI w B LN cw m s W' :=
  fun s W W' h hb => ⟨h.b4.go hb, h.b5.go hb, h.b6.go hb, h.b7.go hb, Below.next h.bel hb, Nat.le_trans h.sz hb.size⟩

set_option maxRecDepth 100000 in
set_option maxHeartbeats 8000000 in
theorem once_in (a : Ask) (A1 A2 : Option Addr) (c1 c2 : Nat) (B : Option Addr) (LN cw : Nat) (m : Int) (w : World) (hA : AskOK w a A1 A2) (hs : AskSm a) (hT : Tab w) (hLN : (linesM a).length = LN) (hB : SAt w B (linesM a)) (hLNle : LN ≤ 100000) :
    CallsIn Fence.wide 5 Tryz.prog 36 #[askVal a A1 c1 A2 c2, .slice B LN cw, .int .i64 m] w (BoolPost true w) := by
  have hLN' := Lib.hid hLN
  have hB' := Lib.hid hB
  have hs' := Lib.hid hs
  unfold askVal
  refine callsIn_of_wp_marks Tryz.func36 rfl trivial ?_ rfl
  simp only [Tryz.ntmps36, List.size_toArray, List.length_cons, List.length_nil, Nat.reduceAdd, Nat.reduceSub, Array.replicate_succ, Array.replicate_zero, List.push_toArray, List.append_toArray, List.nil_append, List.cons_append]
  have s1 : (w.alloc (.cells #[.int .i64 a.k, .slice A1 a.args.length c1, .slice A2 a.regs.length c2, .int .u64 a.st, .int .i64 a.fu] 42)).heap.size = w.heap.size + 1 := by simp
  have s2 : ((w.alloc (.cells #[.int .i64 a.k, .slice A1 a.args.length c1, .slice A2 a.regs.length c2, .int .u64 a.st, .int .i64 a.fu] 42)).alloc (.cells #[.slice B LN cw] 67)).heap.size = w.heap.size + 2 := by simp
  have s3 : (((w.alloc (.cells #[.int .i64 a.k, .slice A1 a.args.length c1, .slice A2 a.regs.length c2, .int .u64 a.st, .int .i64 a.fu] 42)).alloc (.cells #[.slice B LN cw] 67)).alloc (.cells #[.int .i64 m] 3)).heap.size = w.heap.size + 3 := by simp
  have s4 : ((((w.alloc (.cells #[.int .i64 a.k, .slice A1 a.args.length c1, .slice A2 a.regs.length c2, .int .u64 a.st, .int .i64 a.fu] 42)).alloc (.cells #[.slice B LN cw] 67)).alloc (.cells #[.int .i64 m] 3)).alloc (.cells #[.bool false] 4)).heap.size = w.heap.size + 4 := by simp
  have k3 : (((((w.alloc (.cells #[.int .i64 a.k, .slice A1 a.args.length c1, .slice A2 a.regs.length c2, .int .u64 a.st, .int .i64 a.fu] 42)).alloc (.cells #[.slice B LN cw] 67)).alloc (.cells #[.int .i64 m] 3)).alloc (.cells #[.bool false] 4)).alloc (.cells #[.int .i64 0] 3)).heap[w.heap.size]? = some (.cells #[.int .i64 a.k, .slice A1 a.args.length c1, .slice A2 a.regs.length c2, .int .u64 a.st, .int .i64 a.fu] 42 (0, 0)) := by
    rw [heap_alloc_old _ _ (by rw [s4]; omega), heap_alloc_old _ _ (by rw [s3]; omega), heap_alloc_old _ _ (by rw [s2]; omega), heap_alloc_old _ _ (by rw [s1]; omega)]
    exact heap_alloc_new w _
  have k4 : Box1 (((((w.alloc (.cells #[.int .i64 a.k, .slice A1 a.args.length c1, .slice A2 a.regs.length c2, .int .u64 a.st, .int .i64 a.fu] 42)).alloc (.cells #[.slice B LN cw] 67)).alloc (.cells #[.int .i64 m] 3)).alloc (.cells #[.bool false] 4)).alloc (.cells #[.int .i64 0] 3)) (w.heap.size + 1) 67 (.slice B LN cw) := by
    have h := heap_alloc_new (w.alloc (.cells #[.int .i64 a.k, .slice A1 a.args.length c1, .slice A2 a.regs.length c2, .int .u64 a.st, .int .i64 a.fu] 42)) (.cells #[.slice B LN cw] 67)
    rw [s1] at h
    exact ((Box1.alloc (Box1.alloc (Box1.alloc h _) _) _))
  have k5 : Box1 (((((w.alloc (.cells #[.int .i64 a.k, .slice A1 a.args.length c1, .slice A2 a.regs.length c2, .int .u64 a.st, .int .i64 a.fu] 42)).alloc (.cells #[.slice B LN cw] 67)).alloc (.cells #[.int .i64 m] 3)).alloc (.cells #[.bool false] 4)).alloc (.cells #[.int .i64 0] 3)) (w.heap.size + 1 + 1) 3 (.int .i64 m) := by
    have h := heap_alloc_new ((w.alloc (.cells #[.int .i64 a.k, .slice A1 a.args.length c1, .slice A2 a.regs.length c2, .int .u64 a.st, .int .i64 a.fu] 42)).alloc (.cells #[.slice B LN cw] 67)) (.cells #[.int .i64 m] 3)
    rw [s2] at h
    exact ((Box1.alloc (Box1.alloc h _) _))
  have k6 : Box1 (((((w.alloc (.cells #[.int .i64 a.k, .slice A1 a.args.length c1, .slice A2 a.regs.length c2, .int .u64 a.st, .int .i64 a.fu] 42)).alloc (.cells #[.slice B LN cw] 67)).alloc (.cells #[.int .i64 m] 3)).alloc (.cells #[.bool false] 4)).alloc (.cells #[.int .i64 0] 3)) (w.heap.size + 1 + 1 + 1) 4 (.bool false) := by
    have h := heap_alloc_new (((w.alloc (.cells #[.int .i64 a.k, .slice A1 a.args.length c1, .slice A2 a.regs.length c2, .int .u64 a.st, .int .i64 a.fu] 42)).alloc (.cells #[.slice B LN cw] 67)).alloc (.cells #[.int .i64 m] 3)) (.cells #[.bool false] 4)
    rw [s3] at h
    exact (Box1.alloc h _)
  have k7 : Box1 (((((w.alloc (.cells #[.int .i64 a.k, .slice A1 a.args.length c1, .slice A2 a.regs.length c2, .int .u64 a.st, .int .i64 a.fu] 42)).alloc (.cells #[.slice B LN cw] 67)).alloc (.cells #[.int .i64 m] 3)).alloc (.cells #[.bool false] 4)).alloc (.cells #[.int .i64 0] 3)) (w.heap.size + 1 + 1 + 1 + 1) 3 (.int .i64 0) := by
    have h := heap_alloc_new ((((w.alloc (.cells #[.int .i64 a.k, .slice A1 a.args.length c1, .slice A2 a.regs.length c2, .int .u64 a.st, .int .i64 a.fu] 42)).alloc (.cells #[.slice B LN cw] 67)).alloc (.cells #[.int .i64 m] 3)).alloc (.cells #[.bool false] 4)) (.cells #[.int .i64 0] 3)
    rw [s4] at h
    exact h
  have s5 : (((((w.alloc (.cells #[.int .i64 a.k, .slice A1 a.args.length c1, .slice A2 a.regs.length c2, .int .u64 a.st, .int .i64 a.fu] 42)).alloc (.cells #[.slice B LN cw] 67)).alloc (.cells #[.int .i64 m] 3)).alloc (.cells #[.bool false] 4)).alloc (.cells #[.int .i64 0] 3)).heap.size = w.heap.size + 5 := by simp
  have kb : Below w.heap.size w (((((w.alloc (.cells #[.int .i64 a.k, .slice A1 a.args.length c1, .slice A2 a.regs.length c2, .int .u64 a.st, .int .i64 a.fu] 42)).alloc (.cells #[.slice B LN cw] 67)).alloc (.cells #[.int .i64 m] 3)).alloc (.cells #[.bool false] 4)).alloc (.cells #[.int .i64 0] 3)) := (((((Below.refl w.heap.size w).alloc (Nat.le_refl _) _).alloc (by omega) _).alloc (by omega) _).alloc (by omega) _).alloc (by omega) _
  obtain ⟨W5, hW5⟩ : ∃ W5, W5 = (((((w.alloc (.cells #[.int .i64 a.k, .slice A1 a.args.length c1, .slice A2 a.regs.length c2, .int .u64 a.st, .int .i64 a.fu] 42)).alloc (.cells #[.slice B LN cw] 67)).alloc (.cells #[.int .i64 m] 3)).alloc (.cells #[.bool false] 4)).alloc (.cells #[.int .i64 0] 3)) := ⟨_, rfl⟩
  rw [← hW5] at k3 k4 k5 k6 k7 s5 kb
  have hW5' := Lib.hid hW5
  obtain ⟨g0, g1, g2, g3, g4, gf⟩ := box5 k3
  have hL0 : LinI (fun x => x < w.heap.size ∨ x = w.heap.size + 1 + 1 + 1 + 1 + 1) (W5.alloc (.cells #[.int .i64 a.k, .slice A1 a.args.length c1, .slice A2 a.regs.length c2, .int .u64 a.st, .int .i64 a.fu] 42)) (w.heap.size + 1 + 1 + 1 + 1 + 1) a A1 c1 A2 c2 := by
    have hkb : Below w.heap.size w (W5.alloc (.cells #[.int .i64 a.k, .slice A1 a.args.length c1, .slice A2 a.regs.length c2, .int .u64 a.st, .int .i64 a.fu] 42)) := kb.alloc (by omega) _
    have hag : Agree (fun x => x < w.heap.size) w (W5.alloc (.cells #[.int .i64 a.k, .slice A1 a.args.length c1, .slice A2 a.regs.length c2, .int .u64 a.st, .int .i64 a.fu] 42)) := fun x hx => hkb.block x hx
    refine ⟨fun x hx => by simp; omega, .inl (tab_lt hT), .inr rfl, hT.below hkb, ?_, (hA.1.wf (F := fun x => x < w.heap.size) (fun x hx => hx)).go (fun x hx => .inl hx) hag, (hA.2.1.wsf (F := fun x => x < w.heap.size) (fun x hx => hx)).go (fun x hx => .inl hx) hag⟩
    have := heap_alloc_new W5 (.cells #[.int .i64 a.k, .slice A1 a.args.length c1, .slice A2 a.regs.length c2, .int .u64 a.st, .int .i64 a.fu] 42)
    rw [s5] at this
    exact this
  have hL0' := Lib.hid hL0
  have i4 := Lib.hid (k4.alloc (.cells #[.int .i64 a.k, .slice A1 a.args.length c1, .slice A2 a.regs.length c2, .int .u64 a.st, .int .i64 a.fu] 42))
  have i5 := Lib.hid (k5.alloc (.cells #[.int .i64 a.k, .slice A1 a.args.length c1, .slice A2 a.regs.length c2, .int .u64 a.st, .int .i64 a.fu] 42))
  have i6 := Lib.hid (k6.alloc (.cells #[.int .i64 a.k, .slice A1 a.args.length c1, .slice A2 a.regs.length c2, .int .u64 a.st, .int .i64 a.fu] 42))
  have i7 := Lib.hid (k7.alloc (.cells #[.int .i64 a.k, .slice A1 a.args.length c1, .slice A2 a.regs.length c2, .int .u64 a.st, .int .i64 a.fu] 42))
  have kb' := Lib.hid (kb.alloc (by omega) (.cells #[.int .i64 a.k, .slice A1 a.args.length c1, .slice A2 a.regs.length c2, .int .u64 a.st, .int .i64 a.fu] 42))
  have s6 : (W5.alloc (.cells #[.int .i64 a.k, .slice A1 a.args.length c1, .slice A2 a.regs.length c2, .int .u64 a.st, .int .i64 a.fu] 42)).heap.size = w.heap.size + 6 := by simp [s5]
  have k44 := Lib.hid (lines44_any a A1 A2 c1 c2 W5)
  rw [s5] at k44
  have hrn := run_it_nil
  clear hA hT hLN hB s1 s2 s3 s4 k3 k4 k5 k6 k7 kb hL0 hs
  gi_wp2_with fail
  rw [← hW5'.out]
  refine ⟨trivial, ?_⟩
  refine (callsIn_wide.2 k44.out).mono ?_
  rintro e W0 ⟨rfl, rfl⟩
  gi_wp2_with fail
  rw [← hW5'.out]
  obtain ⟨W0, hW0⟩ : ∃ W0, W0 = W5.alloc (.cells #[.int .i64 a.k, .slice A1 a.args.length c1, .slice A2 a.regs.length c2, .int .u64 a.st, .int .i64 a.fu] 42) := ⟨_, rfl⟩
  rw [← hW0] at hL0' i4 i5 i6 i7 kb' s6 ⊢
  clear hW0 k44
  refine wpIn_range_grow (n := 5) (by omega) rfl (enters_of Tryz.func73 (by kernel_rfl) rfl) (Kp := Agree (fun x => x < w.heap.size ∨ x = w.heap.size + 1 + 1 + 1 + 1 + 1)) Agree.trans ?kb
    (lines73_said 4 (by omega) (w.heap.size + 1 + 1 + 1 + 1 + 1) a A1 A2 c1 c2 _ W0 hL0'.out hs'.out) (OnI w B LN cw m) (OnX w) (by rw [s6]; exact onI_calm) (by rw [s6]; exact onX_calm) (fun s W W' h _ hb => onI_grow s W W' h hb)
    ⟨i4.out, i5.out, i6.out, i7.out, kb'.out, by rw [s6]; exact Nat.le_refl _⟩
    (fun x => #[.agg #[.int .i64 a.k, .slice A1 a.args.length c1, .slice A2 a.regs.length c2, .int .u64 a.st, .int .i64 a.fu], .slice B LN cw, .int .i64 m, .pointer (some ⟨w.heap.size, 0, none⟩), .pointer (some ⟨w.heap.size + 1, 0, none⟩), .pointer (some ⟨w.heap.size + 1 + 1, 0, none⟩), .pointer (some ⟨w.heap.size + 1 + 1 + 1, 0, none⟩), .pointer (some ⟨w.heap.size + 1 + 1 + 1 + 1, 0, none⟩),
      .func (.func 73) #[] #[.pointer (some ⟨w.heap.size + 1 + 1 + 1 + 1 + 1, 0, none⟩)], .string x, .agg #[.int .i64 a.k, .slice A1 a.args.length c1, .slice A2 a.regs.length c2, .int .u64 a.st, .int .i64 a.fu], .func (.func 73) #[] #[.pointer (some ⟨w.heap.size + 1 + 1 + 1 + 1 + 1, 0, none⟩)], .func (.func 73) #[] #[.pointer (some ⟨w.heap.size + 1 + 1 + 1 + 1 + 1, 0, none⟩)], .bool false,
      .func (.func 73) #[] #[.pointer (some ⟨w.heap.size + 1 + 1 + 1 + 1 + 1, 0, none⟩)], .string x, undef, undef, undef, undef, undef, undef, undef, undef, undef, undef, undef, undef, undef, undef, undef, undef, undef, undef, undef, undef, undef])
    ?assign ?body ?done ?stop
  case kb => exact fun W l o' hl x hx => World.putObj_heap_other (by omega)
  case assign =>
    intro l x W K hK
    have hK' := Lib.hid hK
    clear hK
    gi_wp2
    exact hK'.out
  case body =>
    rintro l pre x W hl hI hx
    have hx' := Lib.hid hx
    have hpl := (List.getElem?_eq_some_iff.1 hx).1
    have hLNe := hLN'.out
    have hpl2 : pre.length < LN := by omega
    obtain ⟨blk, off, x2, rfl, hx2, cx⟩ := hB'.out.at_ (k := pre.length) hpl
    rw [hx] at hx2
    cases hx2
    have cx := (hI.bel.cell (p := ⟨blk, off + pre.length, none⟩) (cell_some_lt cx)).trans cx
    have hI' := Lib.hid hI
    have y4 := hI.b4.c
    have y5 := hI.b5.c
    have y6 := hI.b6.c
    have y7 := hI.b7.c
    have f6 := hI.b6.f
    have f7 := hI.b7.f
    have hlt7 := blk_lt hI.b7
    have hlt6 := blk_lt hI.b6
    have heq : (x.toList == x.toList) = true := by simp
    obtain ⟨pl, hple⟩ : ∃ pl, pre.length = pl := ⟨_, rfl⟩
    rw [hple] at y7 cx hpl2 hpl
    have hple' := Lib.hid hple
    have e0 : ¬ ((LN : Int) ≤ (pl : Int)) := by omega
    have hw1 : IntKind.i64.wrap ((pl : Int) + 1) = (pl : Int) + 1 := by rw [IntKind.wrap_i64]; omega
    have hnext : OnI w (some ⟨blk, off, none⟩) LN cw m (pre ++ [x]) (W.setCell ⟨w.heap.size + 1 + 1 + 1 + 1, 0, none⟩ (.int .i64 ((pl : Int) + 1))) := by
      refine ⟨hI.b4.other (by omega) _, hI.b5.other (by omega) _, hI.b6.other (by omega) _, ?_, hI.bel.setCell (p := ⟨w.heap.size + 1 + 1 + 1 + 1, 0, none⟩) (by simp; omega) _, by rw [set_size]; exact hI.sz⟩
      have := hI.b7.set (u := .int .i64 ((pl : Int) + 1))
      rw [List.length_append, hple]
      exact this
    have hnext := Lib.hid hnext
    have hkp : ∀ (W : World) (b : Nat) (v : Value), w.heap.size ≤ b → b < w.heap.size + 1 + 1 + 1 + 1 + 1 → KeepsFrom (w.heap.size + 6) W (W.setCell ⟨b, 0, none⟩ v) := fun W b v h1 h2 => ⟨by rw [set_size]; exact Nat.le_refl _, fun k o hk ho _ => (set_other (by omega)).trans ho⟩
    have hkp := Lib.hid hkp
    clear hI hx hple hLNe
    by_cases hm : (pl : Int) + 1 = m
    · have em : ((pl : Int) + 1 == m) = true := by simpa using hm
      subst hm
      gi_wp2
      refine ⟨(hkp.out _ _ _ (by omega) (by omega)).trans (hkp.out _ _ _ (by omega) (by omega)), ?_, ?_⟩
      · exact (hnext.out.b6.set)
      · exact hnext.out.bel.setCell (p := ⟨w.heap.size + 1 + 1 + 1, 0, none⟩) (by simp; omega) _
    · have em : ((pl : Int) + 1 == m) = false := by simpa using hm
      gi_wp2
      exact ⟨hkp.out _ _ _ (by omega) (by omega), fun y hy => set_other (by omega), hnext.out⟩
  case done =>
    rintro D xs W hD hxs hI hK
    have hK' := Lib.hid hK
    have hI' := Lib.hid hI
    have y4 := hI.b4.c
    have y7 := hI.b7.c
    have y6 := hI.b6.c
    have f6 := hI.b6.f
    have hlt6 := blk_lt hI.b6
    rw [hxs, hLN'.out] at y7
    clear hI hK hxs
    gi_wp2
    have hKd : (W.setCell ⟨w.heap.size + 1 + 1 + 1, 0, none⟩ (.bool true)).heap[D]? = some (.deferred (some [])) := by
      rw [set_other (by omega)]; exact hK'.out
    refine ⟨by simp, .inl ⟨_, _, rfl, run_takeDeferred hKd, ?_⟩⟩
    have g6 : Box1 ((W.setCell ⟨w.heap.size + 1 + 1 + 1, 0, none⟩ (.bool true)).putObj D (.deferred none)) (w.heap.size + 1 + 1 + 1) 4 (.bool true) := Box1.put hI'.out.b6.set hKd rfl _
    have c6 := g6.c
    refine ⟨.bool true, by simp [results, Tryz.f36, go_sem, c6], rfl, ?_⟩
    exact below_put (hI'.out.bel.setCell (p := ⟨w.heap.size + 1 + 1 + 1, 0, none⟩) (by simp; omega) _) (by omega) _
  case stop =>
    rintro D pre W hD _ hX hK
    have hX' := Lib.hid hX
    have hK' := Lib.hid hK
    clear hX hK
    gi_wp2
    refine ⟨by simp, .inl ⟨_, _, rfl, run_takeDeferred hK'.out, ?_⟩⟩
    have c6 := (hX'.out.b6.put hK'.out rfl (.deferred none)).c
    refine ⟨.bool true, by simp [results, Tryz.f36, go_sem, c6], rfl, ?_⟩
    exact below_put hX'.out.bel (by omega) _
end Go.Proofs.YtkbmckmlnphpmaaGreatDoor
