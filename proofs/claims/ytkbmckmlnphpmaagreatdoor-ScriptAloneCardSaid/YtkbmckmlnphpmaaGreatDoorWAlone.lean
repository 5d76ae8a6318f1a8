/- ScriptAlone: the walk. -/
import Derived.Test.YtkbmckmlnphpmaaGreatDoorCF
import Derived.Test.YtkbmckmlnphpmaaGreatDoorAJ
set_option linter.unusedSimpArgs false
set_option linter.unusedVariables false
namespace Go.Proofs.YtkbmckmlnphpmaaGreatDoor
open Go.RowKit Go.Lib Go.Shelf

attribute [local go_sem] Oper.semAt_some

theorem unline_may (a : Ask) (w : World) (hE : Env w) (hm : mayA a = true) (hw : AskW a) : Calls Tryz.prog 21 #[.string (askedT a.k a.st a.fu)] w fun e w' => e = .returned (.tuple #[.agg #[.int .i64 a.k, .slice none 0 0, .slice none 0 0, .int .u64 a.st, .int .i64 a.fu], .int .i64 0]) ∧ Below w.heap.size w w' := by
  have hs : (askedT a.k a.st a.fu).size ≤ 11000 := (linesA_len hm hw).2 _ (by simp [linesA])
  refine (unline_any _ w hE (by omega)).mono fun e w' h => ⟨h.2.1 a.k a.st a.fu (asked_read hm hw.st), h.2.2⟩
theorem textM_one {a : Ask} (hm : mayA a = true) (hw : AskW a) : textM [a] = (⟨(textL (linesA a)).toArray⟩, 0) := by
  have e : scrT [a] = ⟨(textL (linesA a)).toArray⟩ := by unfold scrT; rw [linesAll_one]
  have h1 : (scrT [a]).size ≤ 1048576 := by
    obtain ⟨h1, h2⟩ := linesA_len hm hw
    have := textL_len 11000 (linesA a) h2
    rw [e]
    show (textL (linesA a)).toArray.size ≤ _
    simp
    omega
  unfold textM
  rw [if_pos (by simp [hm]), if_neg (by simp), if_neg (by omega), e]

/-- between two lines -/
structure AlI (w : World) (p3 : Nat) (a : Ask) (A1 A2 : Option Addr) (c1 c2 B : Nat) (pre : List ByteArray) (W : World) : Prop where
  b7 : Box1 W (p3 + 1) 9 (.string ⟨(textL pre).toArray⟩)
  bel : Below w.heap.size w W
  b1 : W.heap[w.heap.size]? = some (.cells #[.int .i64 a.k, .slice A1 a.args.length c1, .slice A2 a.regs.length c2, .int .u64 a.st, .int .i64 a.fu] 42 (0, 0))
  b5 : W.heap[p3]? = some (.cells #[.int .i64 a.k, .slice none 0 0, .slice none 0 0, .int .u64 a.st, .int .i64 a.fu] 42 (0, 0))
  pr : pre = (linesA a).take pre.length
  sz : B ≤ W.heap.size
theorem alI_calm {w : World} {p3 : Nat} {a : Ask} {A1 A2 : Option Addr} {c1 c2 : Nat} (hw : w.heap.size < p3) : Calm (p3 + 3) (AlI w p3 a A1 A2 c1 c2 (p3 + 3)) :=
  ⟨fun s W o h hB => ⟨h.b7.alloc o, h.bel.alloc h.bel.size o, (heap_alloc_old _ _ (by omega)).trans h.b1, (heap_alloc_old _ _ (by omega)).trans h.b5, h.pr, by have := h.sz; simp; omega⟩,
   fun s W l o o' h hB hl ho => ⟨h.b7.put hl ho o', below_put h.bel (by omega) o', (World.putObj_heap_other (by omega)).trans h.b1, (World.putObj_heap_other (by omega)).trans h.b5, h.pr, by have := h.sz; simpa using this⟩⟩
theorem alI_grow {w : World} {p3 : Nat} {a : Ask} {A1 A2 : Option Addr} {c1 c2 : Nat} (hw : w.heap.size < p3) (s : List ByteArray) (W W' : World) (h : AlI w p3 a A1 A2 c1 c2 (p3 + 3) s W) (hs : p3 + 3 ≤ W.heap.size) (hb : Below W.heap.size W W') : AlI w p3 a A1 A2 c1 c2 (p3 + 3) s W' :=
  ⟨h.b7.go hb, Below.next h.bel hb, (hb.block _ (by omega)).trans h.b1, (hb.block _ (by omega)).trans h.b5, h.pr, Nat.le_trans h.sz hb.size⟩

set_option maxRecDepth 100000 in
set_option maxHeartbeats 8000000 in
theorem scriptAlone_in (a : Ask) (A1 A2 : Option Addr) (c1 c2 : Nat) (w : World) (hO : AskO w a A1 A2) (hZ : AskLe a) (hE : Env w) :
    CallsIn Fence.wide 8 Tryz.prog 10 #[askVal a A1 c1 A2 c2] w (BoolPost true w) := by
  have hb0 := Lib.hid ((Below.refl w.heap.size w).alloc (Nat.le_refl _) (.cells #[.int .i64 a.k, .slice A1 a.args.length c1, .slice A2 a.regs.length c2, .int .u64 a.st, .int .i64 a.fu] 42))
  have hbx := heap_alloc_new w (.cells #[.int .i64 a.k, .slice A1 a.args.length c1, .slice A2 a.regs.length c2, .int .u64 a.st, .int .i64 a.fu] 42)
  obtain ⟨W1, hW1⟩ : ∃ W1, W1 = w.alloc (.cells #[.int .i64 a.k, .slice A1 a.args.length c1, .slice A2 a.regs.length c2, .int .u64 a.st, .int .i64 a.fu] 42) := ⟨_, rfl⟩
  have s1 : W1.heap.size = w.heap.size + 1 := by rw [hW1]; simp
  rw [← hW1] at hb0 hbx
  have hW1' := Lib.hid hW1
  obtain ⟨g0, g1, g2, g3, g4, gf⟩ := box5 hbx
  have kc := Lib.hid fun (W : World) (h : Below W1.heap.size W1 W) => (show W.cell? ⟨w.heap.size, 0, none⟩ = some (.int .i64 a.k) ∧ W.cell? ⟨w.heap.size, 1, none⟩ = some (.slice A1 a.args.length c1) ∧ W.cell? ⟨w.heap.size, 2, none⟩ = some (.slice A2 a.regs.length c2) ∧ W.cell? ⟨w.heap.size, 3, none⟩ = some (.int .u64 a.st) ∧ W.cell? ⟨w.heap.size, 4, none⟩ = some (.int .i64 a.fu) from by
    obtain ⟨g0, g1, g2, g3, g4, gf⟩ := box5 ((h.block _ (blk_lt hbx)).trans hbx)
    exact ⟨g0, g1, g2, g3, g4⟩)
  have kS := Lib.hid (refSmall_any a.k A1 A2 a.args.length c1 a.regs.length c2 a.regs a.st a.fu 1000 W1 rfl (hO.regs.below hb0.out) hZ.1 hZ.2.1 (by omega))
  have kK := Lib.hid fun W (hb : Below w.heap.size w W) => known_any W (hE.below hb)
  have hnn := Lib.hid fun e w => num_any e w
  have hO' := Lib.hid hO
  have hZ' := Lib.hid hZ
  have hE' := Lib.hid hE
  have hbx' := Lib.hid hbx
  clear hO hZ hE hbx
  unfold askVal
  refine callsIn_of_wp_marks Tryz.func10 rfl trivial ?_ rfl
  simp only [Tryz.ntmps10, List.size_toArray, List.length_cons, List.length_nil, Nat.reduceAdd, Nat.reduceSub, Array.replicate_succ, Array.replicate_zero, List.push_toArray, List.append_toArray, List.nil_append, List.cons_append]
  gi_wp2_with fail
  rw [← hW1'.out]
  refine ⟨trivial, ?_⟩
  refine (callsIn_wide.2 kS.out).mono ?_
  rintro e w1 ⟨b, rfl, hbm, hb1⟩
  have b1 := Lib.hid (Below.next hb0.out hb1)
  have d1 := Lib.hid hb1
  cases b
  · clear hb1 hbm
    gi_wp2_with fail
    refine ⟨trivial, ?_⟩
    refine (callsIn_wide.2 (kK.out _ b1.out)).mono ?_
    rintro e w2 ⟨rfl, hb2⟩
    have b2 := Lib.hid (Below.next b1.out hb2)
    clear hb2
    gi_wp2_with fail
    exact ⟨_, by simp [results, Tryz.f10, go_sem], rfl, b2.out⟩
  · have hsm0 := Lib.hid (hbm rfl)
    obtain ⟨q1, q2⟩ := hbm rfl
    have hok := Lib.hid (hO'.out.okS ⟨by omega, fun ws h => by have := q2 ws h; omega⟩)
    have kL := line33_any a.k A1 A2 a.args.length c1 a.regs.length c2 a.regs a.st a.fu w1 rfl (hok.out.2.1.below b1.out) hok.out.2.2.2 hok.out.2.2.1 (hE'.out.below b1.out).tab hO'.out.st
    obtain ⟨g0, g1, g2, g3, g4⟩ := kc.out _ d1.out
    clear hb1 hbm q1 q2
    obtain ⟨t, ht⟩ : ∃ t, mayA a = t := ⟨_, rfl⟩
    rw [show mayV a.k a.args.length a.regs.length a.st a.fu (shortB a.regs) = t from ht] at kL
    have ht := Lib.hid ht
    cases t
    · rw [if_neg (by simp), if_neg (by simp)] at kL
      have kL := Lib.hid kL
      gi_wp2_with fail
      refine ⟨trivial, ?_⟩
      refine (callsIn_wide.2 kL.out).mono ?_
      rintro e w2 ⟨rfl, hb2⟩
      have b2 := Lib.hid (Below.next b1.out hb2)
      clear hb2
      gi_wp2_with fail
      refine ⟨trivial, ?_⟩
      refine (callsIn_wide.2 (hnn.out _ _)).mono ?_
      rintro e wA ⟨rfl, rfl⟩
      gi_wp2_with fail
      refine ⟨trivial, ?_⟩
      refine (callsIn_wide.2 (kK.out _ b2.out)).mono ?_
      rintro e w3 ⟨rfl, hb3⟩
      have b3 := Lib.hid (Below.next b2.out hb3)
      clear hb3
      gi_wp2_with fail
      exact ⟨_, by simp [results, Tryz.f10, go_sem], rfl, b3.out⟩
    · rw [if_pos rfl, if_pos rfl] at kL
      have kL := Lib.hid kL
      have hwW := Lib.hid (askOK_w hok.out hO'.out.st)
      have hsm := Lib.hid (askSm_of ht.out hO'.out.st)
      have kU := Lib.hid fun W (hb : Below w.heap.size w W) => unline_may a W (hE'.out.below hb) ht.out hwW.out
      obtain ⟨T, hT⟩ : ∃ T, askedT a.k a.st a.fu = T := ⟨_, rfl⟩
      rw [hT] at kL kU
      gi_wp2_with fail
      refine ⟨trivial, ?_⟩
      refine (callsIn_wide.2 kL.out).mono ?_
      rintro e w2 ⟨rfl, hb2⟩
      have b2 := Lib.hid (Below.next b1.out hb2)
      have d2 := Lib.hid (Below.next d1.out hb2)
      clear hb2
      gi_wp2_with fail
      refine ⟨trivial, ?_⟩
      refine (callsIn_wide.2 (hnn.out _ _)).mono ?_
      rintro e wA ⟨rfl, rfl⟩
      gi_wp2_with fail
      refine ⟨trivial, ?_⟩
      refine (callsIn_wide.2 (kU.out _ b2.out)).mono ?_
      rintro e w3 ⟨rfl, hb3⟩
      have b3 := Lib.hid (Below.next b2.out hb3)
      have d3 := Lib.hid (Below.next d2.out hb3)
      clear hb3 g0 g1 g2 g3 g4 gf kL
      obtain ⟨p3, hp3⟩ : ∃ p3, w3.heap.size = p3 := ⟨_, rfl⟩
      have sa : (w3.alloc (.cells #[.int .i64 a.k, .slice none 0 0, .slice none 0 0, .int .u64 a.st, .int .i64 a.fu] 42)).heap.size = p3 + 1 := by simp [hp3]
      have b3a := b3.out.alloc b3.out.size (.cells #[.int .i64 a.k, .slice none 0 0, .slice none 0 0, .int .u64 a.st, .int .i64 a.fu] 42)
      have d3a := d3.out.alloc d3.out.size (.cells #[.int .i64 a.k, .slice none 0 0, .slice none 0 0, .int .u64 a.st, .int .i64 a.fu] 42)
      have b3b := b3a.alloc b3a.size (.cells #[.string ⟨#[]⟩] 9)
      have d3b := d3a.alloc d3a.size (.cells #[.string ⟨#[]⟩] 9)
      have x5 : ((w3.alloc (.cells #[.int .i64 a.k, .slice none 0 0, .slice none 0 0, .int .u64 a.st, .int .i64 a.fu] 42)).alloc (.cells #[.string ⟨#[]⟩] 9)).heap[p3]? = some (.cells #[.int .i64 a.k, .slice none 0 0, .slice none 0 0, .int .u64 a.st, .int .i64 a.fu] 42 (0, 0)) := by
        rw [heap_alloc_old _ _ (by rw [sa]; omega), ← hp3]
        exact heap_alloc_new w3 _
      have x7 : Box1 ((w3.alloc (.cells #[.int .i64 a.k, .slice none 0 0, .slice none 0 0, .int .u64 a.st, .int .i64 a.fu] 42)).alloc (.cells #[.string ⟨#[]⟩] 9)) (p3 + 1) 9 (.string ⟨#[]⟩) := by
        have h := heap_alloc_new (w3.alloc (.cells #[.int .i64 a.k, .slice none 0 0, .slice none 0 0, .int .u64 a.st, .int .i64 a.fu] 42)) (.cells #[.string ⟨#[]⟩] 9)
        rw [sa] at h
        exact h
      have s4 : ((w3.alloc (.cells #[.int .i64 a.k, .slice none 0 0, .slice none 0 0, .int .u64 a.st, .int .i64 a.fu] 42)).alloc (.cells #[.string ⟨#[]⟩] 9)).heap.size = p3 + 2 := by simp [hp3]
      have x1 : ((w3.alloc (.cells #[.int .i64 a.k, .slice none 0 0, .slice none 0 0, .int .u64 a.st, .int .i64 a.fu] 42)).alloc (.cells #[.string ⟨#[]⟩] 9)).heap[w.heap.size]? = some (.cells #[.int .i64 a.k, .slice A1 a.args.length c1, .slice A2 a.regs.length c2, .int .u64 a.st, .int .i64 a.fu] 42 (0, 0)) := (d3b.block _ (by omega)).trans hbx'.out
      obtain ⟨g0, g1, g2, g3, g4⟩ := kc.out _ d3b
      obtain ⟨W4, hW4⟩ : ∃ W4, W4 = ((w3.alloc (.cells #[.int .i64 a.k, .slice none 0 0, .slice none 0 0, .int .u64 a.st, .int .i64 a.fu] 42)).alloc (.cells #[.string ⟨#[]⟩] 9)) := ⟨_, rfl⟩
      have k44 := lines44_any a A1 A2 c1 c2 W4
      unfold askVal at k44
      rw [← hW4] at x5 x7 s4 x1 b3b d3b
      rw [s4] at k44
      have hbW0 : Below W4.heap.size W4 (W4.alloc (.cells #[.int .i64 a.k, .slice A1 a.args.length c1, .slice A2 a.regs.length c2, .int .u64 a.st, .int .i64 a.fu] 42)) := (Below.refl _ W4).alloc (Nat.le_refl _) _
      have s5 : (W4.alloc (.cells #[.int .i64 a.k, .slice A1 a.args.length c1, .slice A2 a.regs.length c2, .int .u64 a.st, .int .i64 a.fu] 42)).heap.size = p3 + 3 := by simp [s4]
      have hlt := (tab_lt hE'.out.tab)
      have hwp : w.heap.size < p3 := by have := d3.out.size; omega
      have hag : Agree (fun x => x < w.heap.size) w (W4.alloc (.cells #[.int .i64 a.k, .slice A1 a.args.length c1, .slice A2 a.regs.length c2, .int .u64 a.st, .int .i64 a.fu] 42)) := fun x hx => (Below.next b3b hbW0).block x hx
      have hLin : LinI (fun x => x < w.heap.size ∨ x = p3 + 2) (W4.alloc (.cells #[.int .i64 a.k, .slice A1 a.args.length c1, .slice A2 a.regs.length c2, .int .u64 a.st, .int .i64 a.fu] 42)) (p3 + 2) a A1 c1 A2 c2 :=
        ⟨fun x hx => by omega, .inl hlt, .inr rfl, (hE'.out.below (Below.next b3b hbW0)).tab, (by have := heap_alloc_new W4 (.cells #[.int .i64 a.k, .slice A1 a.args.length c1, .slice A2 a.regs.length c2, .int .u64 a.st, .int .i64 a.fu] 42); rw [s4] at this; exact this),
          (hok.out.1.wf (F := fun x => x < w.heap.size) (fun x hx => hx)).go (fun x hx => .inl hx) hag, (hok.out.2.1.wsf (F := fun x => x < w.heap.size) (fun x hx => hx)).go (fun x hx => .inl hx) hag⟩
      have hI0 : AlI w p3 a A1 A2 c1 c2 (p3 + 3) [] (W4.alloc (.cells #[.int .i64 a.k, .slice A1 a.args.length c1, .slice A2 a.regs.length c2, .int .u64 a.st, .int .i64 a.fu] 42)) :=
        ⟨x7.alloc _, Below.next b3b hbW0, (hbW0.block _ (by omega)).trans x1, (hbW0.block _ (by omega)).trans x5, by simp, by omega⟩
      have hLin := Lib.hid hLin
      have hI0 := Lib.hid hI0
      have hW4 := Lib.hid hW4
      have k44 := Lib.hid k44
      have hrn := run_it_nil
      have s5 := Lib.hid s5
      have hp3 := Lib.hid hp3
      clear x5 x7 x1 b3a d3a b3b d3b sa s4 hag hbW0
      gi_wp2_with fail
      rw [← hW4.out]
      try rw [hp3.out]
      refine ⟨trivial, ?_⟩
      refine (callsIn_wide.2 k44.out).mono ?_
      rintro e W0 ⟨rfl, hW0⟩
      rw [← hW0] at hLin hI0 s5
      clear hW0
      gi_wp2_with fail
      have hlm : linesM a = linesA a := by unfold linesM; rw [if_pos ht.out]
      have hlm := Lib.hid hlm
      have hlen := Lib.hid fun k => text_part (L := [a]) (i := 0) (k := k) (by simp) (fun q hq => by rw [List.mem_singleton] at hq; subst hq; exact ⟨ht.out, hwW.out⟩) rfl
      refine wpIn_range_grow (n := 8) (by omega) rfl (enters_of Tryz.func73 (by kernel_rfl) rfl) (Kp := Agree (fun x => x < w.heap.size ∨ x = p3 + 2)) Agree.trans ?kb
        (lines73_said 7 (by omega) (p3 + 2) a A1 A2 c1 c2 _ W0 hLin.out hsm.out) (AlI w p3 a A1 A2 c1 c2 (p3 + 3)) (fun _ _ => False)
        (by rw [s5.out]; exact alI_calm hwp) (no_calm _) (by rw [s5.out]; exact alI_grow hwp) hI0.out
        (fun x => #[.agg #[.int .i64 a.k, .slice A1 a.args.length c1, .slice A2 a.regs.length c2, .int .u64 a.st, .int .i64 a.fu], .pointer (some ⟨w.heap.size, 0, none⟩), .bool false, .string T, .int .i64 0, .pointer (some ⟨p3, 0, none⟩), .int .i64 0, .pointer (some ⟨p3 + 1, 0, none⟩), .func (.func 73) #[] #[.pointer (some ⟨p3 + 2, 0, none⟩)], .string x, undef, undef, .agg #[.int .i64 a.k, .slice A1 a.args.length c1, .slice A2 a.regs.length c2, .int .u64 a.st, .int .i64 a.fu], .bool true, .bool false, undef, .tuple #[.string T, .int .i64 0], .agg #[.int .i64 a.k, .slice A1 a.args.length c1, .slice A2 a.regs.length c2, .int .u64 a.st, .int .i64 a.fu], .tuple #[.string T, .int .i64 0], .string T, .int .i64 0, .int .i64 0, .int .i64 0, .bool false, undef, .tuple #[.agg #[.int .i64 a.k, .slice none 0 0, .slice none 0 0, .int .u64 a.st, .int .i64 a.fu], .int .i64 0], .string T, .tuple #[.agg #[.int .i64 a.k, .slice none 0 0, .slice none 0 0, .int .u64 a.st, .int .i64 a.fu], .int .i64 0], .agg #[.int .i64 a.k, .slice none 0 0, .slice none 0 0, .int .u64 a.st, .int .i64 a.fu], .int .i64 0, .agg #[.int .i64 a.k, .slice A1 a.args.length c1, .slice A2 a.regs.length c2, .int .u64 a.st, .int .i64 a.fu], .func (.func 73) #[] #[.pointer (some ⟨p3 + 2, 0, none⟩)], .func (.func 73) #[] #[.pointer (some ⟨p3 + 2, 0, none⟩)], .bool false, .func (.func 73) #[] #[.pointer (some ⟨p3 + 2, 0, none⟩)], .string x, undef, undef, undef, undef, undef, undef, undef, undef, undef, undef, undef, undef, undef, undef, undef, undef, undef, undef, undef, undef, undef, undef, undef, undef, undef, undef, undef, undef, undef, undef, undef, undef, undef, undef, undef, undef, undef, undef, undef, undef, undef, undef, undef, undef, undef, undef])
        ?assign ?body ?done ?stop
      case kb => exact fun W' l o' hl x hx => World.putObj_heap_other (by have := s5.out; omega)
      case assign =>
        intro l x W' K hK
        have hK' := Lib.hid hK
        clear hK
        gi_wp2
        exact hK'.out
      case body =>
        rintro l pre x W' hl hJ hx
        rw [hlm.out] at hx
        have hJ := Lib.hid hJ
        have hx := Lib.hid hx
        have hpl := (List.getElem?_eq_some_iff.1 hx.out).1
        have hpx : pre ++ [x] = (linesA a).take (pre.length + 1) := by
          rw [List.take_add_one, hx.out, ← hJ.out.pr]
          rfl
        have h9 : (⟨#[10]⟩ : ByteArray).size = 1 := rfl
        have h1 := hlen.out (pre.length + 1)
        rw [← hpx] at h1
        have e4 : linesAll (List.take 0 [a]) ++ (pre ++ [x]) = pre ++ [x] := rfl
        rw [e4, textL_app, List.length_append] at h1
        have e3 : (textL [x]).length = x.size + 1 := by simp [textL, nlL, size_list]
        have hcat0 : (⟨(textL pre).toArray⟩ : ByteArray).size + x.size ≤ 20000000 := by
          show (textL pre).toArray.size + _ ≤ _
          simp
          omega
        obtain ⟨P, hP⟩ : ∃ P, (⟨(textL pre).toArray⟩ : ByteArray) = P := ⟨_, rfl⟩
        have y7 := hJ.out.b7.c
        have f7 := hJ.out.b7.f
        rw [hP] at y7 hcat0
        have hcat1 : ¬ 9223372036854775807 < P.size + x.size := by omega
        have hcat2 : ¬ 9223372036854775807 < (P ++ x).size + (⟨#[10]⟩ : ByteArray).size := by rw [ByteArray.size_append, h9]; omega
        have hcat3 : ¬ 9223372036854775807 < (P ++ x).size + 1 := by rw [ByteArray.size_append]; omega
        have hcat4 : ¬ 9223372036854775807 < P.size + x.size + 1 := by omega
        have hnew : (P ++ x ++ ⟨#[10]⟩ : ByteArray) = ⟨(textL (pre ++ [x])).toArray⟩ := by
          rw [← hP]
          apply ext_bytes
          rw [textL_app]
          simp [textL, nlL]
        have hnew2 : P ++ (x ++ ⟨#[10]⟩ : ByteArray) = ⟨(textL (pre ++ [x])).toArray⟩ := by rw [← ByteArray.append_assoc]; exact hnew
        have hnew := Lib.hid hnew
        have hnew2 := Lib.hid hnew2
        have hpx := Lib.hid hpx
        have hlt7 := blk_lt hJ.out.b7
        clear h1 e3 e4 hcat0 hP
        gi_wp2
        rw [hpx.out]
        have hs5 := s5.out
        refine ⟨⟨by rw [set_size]; exact Nat.le_refl _, fun k o hk ho _ => (set_other (by omega)).trans ho⟩, fun y hy => set_other (by omega), ⟨hJ.out.b7.set, hJ.out.bel.setCell (p := ⟨p3 + 1, 0, none⟩) (by simp; omega) _, (set_other (by omega)).trans hJ.out.b1, (set_other (by omega)).trans hJ.out.b5, ?_, by rw [set_size]; exact hJ.out.sz⟩⟩
        rw [List.length_take, Nat.min_eq_left (by omega)]
      case done =>
        rintro D xs W' hD hxs hJ hK
        rw [hlm.out] at hxs
        subst hxs
        have hJ := Lib.hid hJ
        have hK := Lib.hid hK
        obtain ⟨g0, g1, g2, g3, g4, gf⟩ := box5 hJ.out.b1
        have hnewb := heap_alloc_new W' (.cells #[.int .i64 a.k, .slice A1 a.args.length c1, .slice A2 a.regs.length c2, .int .u64 a.st, .int .i64 a.fu] 42)
        have hba : Below W'.heap.size W' (W'.alloc (.cells #[.int .i64 a.k, .slice A1 a.args.length c1, .slice A2 a.regs.length c2, .int .u64 a.st, .int .i64 a.fu] 42)) := (Below.refl _ _).alloc (Nat.le_refl _) _
        have bba := Below.next hJ.out.bel hba
        have hAK : AsksK (W'.alloc (.cells #[.int .i64 a.k, .slice A1 a.args.length c1, .slice A2 a.regs.length c2, .int .u64 a.st, .int .i64 a.fu] 42)) (some ⟨W'.heap.size, 0, none⟩) [a] := fun _ => ⟨_, _, rfl, fun i q hi => by
          have h0 : i = 0 := by have := (List.getElem?_eq_some_iff.1 hi).1; simp at this; exact this
          subst h0
          cases hi
          refine ⟨A1, c1, A2, c2, fun j v hj => ?_, ⟨hok.out.1.below bba, hok.out.2.1.below bba, hok.out.2.2⟩⟩
          rw [blk_cell hnewb]
          simp only [Nat.zero_mul, Nat.zero_add]
          simpa [askCells] using hj⟩
        have kT := text_any [a] _ 1 1 _ rfl hAK (by omega) (fun q hq => by rw [List.mem_singleton] at hq; subst hq; exact hO'.out.st) (hE'.out.below bba).tab
        unfold TextPost at kT
        rw [textM_one ht.out hwW.out] at kT
        have kT := Lib.hid kT
        have hba := Lib.hid hba
        have bba := Lib.hid bba
        clear hAK hnewb
        gi_wp2_with fail
        refine ⟨trivial, ?_⟩
        refine (callsIn_wide.2 kT.out).mono ?_
        rintro e W5 ⟨rfl, hb5⟩
        have d5 := Lib.hid (Below.next hba.out hb5)
        have b5' := Lib.hid (Below.next hJ.out.bel d5.out)
        clear hb5 g0 g1 g2 g3 g4 gf kT
        obtain ⟨g0, g1, g2, g3, g4, gf⟩ := box5 ((d5.out.block _ (blk_lt hJ.out.b1)).trans hJ.out.b1)
        obtain ⟨i0, i1, i2, i3, i4, if_⟩ := box5 ((d5.out.block _ (blk_lt hJ.out.b5)).trans hJ.out.b5)
        gi_wp2_with fail
        refine ⟨trivial, ?_⟩
        refine (callsIn_wide.2 (hnn.out _ _)).mono ?_
        rintro e wA ⟨rfl, rfl⟩
        have kE := refSame_any ⟨a.k, [], [], a.st, a.fu⟩ ⟨a.k, [], [], a.st, a.fu⟩ none none none none 0 0 0 0 W5 ⟨⟨by simp, fun h => absurd h (by simp)⟩, fun h => absurd h (by simp), by simp, by simp⟩ ⟨⟨by simp, fun h => absurd h (by simp)⟩, fun h => absurd h (by simp), by simp, by simp⟩
        rw [show decide ((⟨a.k, [], [], a.st, a.fu⟩ : Ask) = ⟨a.k, [], [], a.st, a.fu⟩) = true from decide_eq_true rfl] at kE
        unfold askVal at kE
        simp only [List.length_nil] at kE
        have kE := Lib.hid kE
        gi_wp2_with fail
        refine ⟨trivial, ?_⟩
        refine (callsIn_wide.2 kE.out).mono ?_
        rintro e W6 ⟨rfl, hb6⟩
        have d6 := Lib.hid (Below.next d5.out hb6)
        have b6 := Lib.hid (Below.next b5'.out hb6)
        clear hb6 kE g0 g1 g2 g3 g4 gf i0 i1 i2 i3 i4 if_
        have y7 := (hJ.out.b7.go d6.out).c
        gi_wp2_with fail
        refine ⟨trivial, ?_⟩
        refine (callsIn_wide.2 (hnn.out _ _)).mono ?_
        rintro e wA ⟨rfl, rfl⟩
        gi_wp2_with fail
        repeat ((with_reducible (refine And.intro ?_ ?_)); (first | trivial | exact (fun f e => by cases e)); try gi_wp2_with fail)
        refine (callsIn_wide.2 (hnn.out _ _)).mono ?_
        rintro e wA ⟨rfl, rfl⟩
        gi_wp2_with fail
        repeat ((with_reducible (refine And.intro ?_ ?_)); (first | trivial | exact (fun f e => by cases e)); try gi_wp2_with fail)
        refine (callsIn_wide.2 (kK.out _ b6.out)).mono ?_
        rintro e W7 ⟨rfl, hb7⟩
        have b7 := Lib.hid (Below.next b6.out hb7)
        have d7 := Lib.hid (Below.next d6.out hb7)
        clear hb7
        gi_wp2_with fail
        exact leaves_marks [D] _ (fun D' hD' => by rw [List.mem_singleton] at hD'; subst hD'; exact (d7.out.block _ (blk_lt hK.out)).trans hK.out) (by simp) ⟨_, by simp [results, Tryz.f10, go_sem], rfl, shut_below [D] _ (fun D' hD' => by rw [List.mem_singleton] at hD'; subst hD'; have := s5.out; omega) b7.out⟩
      case stop => exact fun D pre W' _ _ hX _ => hX.elim
theorem scriptAlone_any (a : Ask) (A1 A2 : Option Addr) (c1 c2 : Nat) (w : World) (hO : AskO w a A1 A2) (hZ : AskLe a) (hE : Env w) :
    Calls Tryz.prog 10 #[askVal a A1 c1 A2 c2] w (BoolPost true w) := callsIn_wide.1 (scriptAlone_in a A1 A2 c1 c2 w hO hZ hE)
end Go.Proofs.YtkbmckmlnphpmaaGreatDoor
