/- Whether a statement has nothing that its kind does not name. -/
import Derived.Test.YtnahgfdoiflacaaGreatDoorDD
import Derived.Test.YtnahgfdoiflacaaGreatDoorDC
import Derived.BigQuiet
import Derived.Deep.Cut
set_option linter.unusedSimpArgs false
set_option linter.unusedVariables false
namespace Go.Proofs.YtnahgfdoiflacaaGreatDoor
open Go.RowKit Go.Lib Go.Shelf

def noneC (c : EC) : Bool := noneN c.op c.u c.nm c.ar.n
theorem noneC_of {w : World} {x : Ex} {c : EC} (h : ENow w x c) : noneC c = noneE x := by
  unfold noneC noneE
  rw [h.1, h.2.1, h.2.2.1, h.2.2.2.1]
theorem noneC_any (op : Int) (u : Nat) (nm : ByteArray) (A : Option Addr) (n c : Nat) (W : World) (h : n ≤ 1000000) : Calls Tryz.prog 128 #[.agg #[.int .i64 op, .int .u64 u, .string nm, .slice A n c]] W (BoolPost (noneN op u nm n) W) := by
  have := none_any (Ex.node op u nm (List.replicate n (Ex.node 0 0 ⟨#[]⟩ []))) A c W (by simp only [Ex.ars, List.length_replicate]; exact h)
  rw [show noneE (Ex.node op u nm (List.replicate n (Ex.node 0 0 ⟨#[]⟩ []))) = noneN op u nm (List.replicate n (Ex.node 0 0 ⟨#[]⟩ [])).length from rfl] at this
  unfold exV at this
  simp only [Ex.op, Ex.u, Ex.nm, Ex.ars, List.length_replicate] at this
  exact this
/-- bare, of a statement and the one that is named -/
def bareR (o r : StC) : Bool := ((o.ns.n : Int) == (r.ns.n : Int)) && (((o.ar.n : Int) == (r.ar.n : Int)) && (((o.bd.n : Int) == (r.bd.n : Int)) && (((o.el.n : Int) == (r.el.n : Int)) && ((o.nm.toList == r.nm.toList) && (((o.lo : Int) == (r.lo : Int)) && (((o.hi : Int) == (r.hi : Int)) && ((noneC o.e == noneC r.e) && (noneC o.a == noneC r.a))))))))

set_option maxRecDepth 100000 in
set_option maxHeartbeats 16000000 in
theorem bare_any (r o : StC) (W : World) (hn : ∀ W' : World, Calls Tryz.prog 166 #[vlT r] W' (ValPost (vlT o) W')) (h1 : r.e.ar.n ≤ 1000000) (h2 : r.a.ar.n ≤ 1000000) (h3 : o.e.ar.n ≤ 1000000) (h4 : o.a.ar.n ≤ 1000000) :
    Calls Tryz.prog 149 #[vlT r] W (BoolPost (bareR o r) W) := by
  obtain ⟨kd, nm, ⟨nA, nn, nc⟩, ⟨eo, eu, en, ⟨eA, ek, ec⟩⟩, ⟨ao, au, an, ⟨aA, ak, ac⟩⟩, ⟨gA, gn, gc⟩, lo, hi, ⟨bA, bn, bc⟩, ⟨lA, ln, lc⟩⟩ := r
  obtain ⟨kd', nm', ⟨nA', nn', nc'⟩, ⟨eo', eu', en', ⟨eA', ek', ec'⟩⟩, ⟨ao', au', an', ⟨aA', ak', ac'⟩⟩, ⟨gA', gn', gc'⟩, lo', hi', ⟨bA', bn', bc'⟩, ⟨lA', ln', lc'⟩⟩ := o
  unfold vlT at hn ⊢
  unfold bareR noneC
  dsimp only at hn h1 h2 h3 h4 ⊢
  have k1 := fun W' : World => noneC_any eo eu en eA ek ec W' h1
  have k2 := fun W' : World => noneC_any ao au an aA ak ac W' h2
  have k3 := fun W' : World => noneC_any eo' eu' en' eA' ek' ec' W' h3
  have k4 := fun W' : World => noneC_any ao' au' an' aA' ak' ac' W' h4
  generalize noneN eo eu en ek = t1 at k1 ⊢
  generalize noneN ao au an ak = t2 at k2 ⊢
  generalize noneN eo' eu' en' ek' = t3 at k3 ⊢
  generalize noneN ao' au' an' ak' = t4 at k4 ⊢
  have hn := Lib.hid hn
  have k1 := Lib.hid k1
  have k2 := Lib.hid k2
  have k3 := Lib.hid k3
  have k4 := Lib.hid k4
  clear h1 h2 h3 h4
  obtain ⟨W1, hW1⟩ : ∃ W1, W.alloc (.cells #[.int .i64 kd, .string nm, .slice nA nn nc, .int .i64 eo, .int .u64 eu, .string en, .slice eA ek ec, .int .i64 ao, .int .u64 au, .string an, .slice aA ak ac, .slice gA gn gc, .int .u64 lo, .int .u64 hi, .slice bA bn bc, .slice lA ln lc] 50) = W1 := ⟨_, rfl⟩
  have hb1 : Below W.heap.size W W1 := by rw [← hW1]; exact (Below.refl _ W).alloc (Nat.le_refl _) _
  have hX : W1.heap[W.heap.size]? = some (.cells #[.int .i64 kd, .string nm, .slice nA nn nc, .int .i64 eo, .int .u64 eu, .string en, .slice eA ek ec, .int .i64 ao, .int .u64 au, .string an, .slice aA ak ac, .slice gA gn gc, .int .u64 lo, .int .u64 hi, .slice bA bn bc, .slice lA ln lc] 50 (0, 0)) := by rw [← hW1]; exact heap_alloc_new _ _
  obtain ⟨p0, p1, p2, p3, p4, p5, p6, p7, p8, p9, p10, p11, p12, p13, p14, p15⟩ := box16 hX
  have hb1 := Lib.hid hb1
  have hX := Lib.hid hX
  have hW1' := Lib.hid hW1
  clear hW1
  obtain ⟨b1, e1⟩ : ∃ b, ((nn' : Int) == (nn : Int)) = b := ⟨_, rfl⟩
  obtain ⟨b2, e2⟩ : ∃ b, ((gn' : Int) == (gn : Int)) = b := ⟨_, rfl⟩
  obtain ⟨b3, e3⟩ : ∃ b, ((bn' : Int) == (bn : Int)) = b := ⟨_, rfl⟩
  obtain ⟨b4, e4⟩ : ∃ b, ((ln' : Int) == (ln : Int)) = b := ⟨_, rfl⟩
  obtain ⟨b5, e5⟩ : ∃ b, (nm'.toList == nm.toList) = b := ⟨_, rfl⟩
  obtain ⟨b6, e6⟩ : ∃ b, ((lo' : Int) == (lo : Int)) = b := ⟨_, rfl⟩
  obtain ⟨b7, e7⟩ : ∃ b, ((hi' : Int) == (hi : Int)) = b := ⟨_, rfl⟩
  obtain ⟨b8, e8⟩ : ∃ b, (t3 == t1) = b := ⟨_, rfl⟩
  rw [e1, e2, e3, e4, e5, e6, e7, e8]
  go_enter Tryz.func149, Tryz.ntmps149
  go_wp2_with fail
  rw [hW1'.out]
  go_wp2_with fail
  refine (hn.out _).mono ?_
  rintro e w2 ⟨rfl, hb2⟩
  have hb2 := Lib.hid hb2
  clear p0 p1 p2 p3 p4 p5 p6 p7 p8 p9 p10 p11 p12 p13 p14 p15
  obtain ⟨w3, hw3⟩ : ∃ w3, w2.alloc (.cells #[.int .i64 kd', .string nm', .slice nA' nn' nc', .int .i64 eo', .int .u64 eu', .string en', .slice eA' ek' ec', .int .i64 ao', .int .u64 au', .string an', .slice aA' ak' ac', .slice gA' gn' gc', .int .u64 lo', .int .u64 hi', .slice bA' bn' bc', .slice lA' ln' lc'] 50) = w3 := ⟨_, rfl⟩
  have hb3 := Lib.hid (show Below W1.heap.size W1 w3 by rw [← hw3]; exact hb2.out.alloc hb2.out.size _)
  have hX3 : w3.heap[W.heap.size]? = some (.cells #[.int .i64 kd, .string nm, .slice nA nn nc, .int .i64 eo, .int .u64 eu, .string en, .slice eA ek ec, .int .i64 ao, .int .u64 au, .string an, .slice aA ak ac, .slice gA gn gc, .int .u64 lo, .int .u64 hi, .slice bA bn bc, .slice lA ln lc] 50 (0, 0)) := (hb3.out.block _ (blk_lt hX.out)).trans hX.out
  have hY3 : w3.heap[w2.heap.size]? = some (.cells #[.int .i64 kd', .string nm', .slice nA' nn' nc', .int .i64 eo', .int .u64 eu', .string en', .slice eA' ek' ec', .int .i64 ao', .int .u64 au', .string an', .slice aA' ak' ac', .slice gA' gn' gc', .int .u64 lo', .int .u64 hi', .slice bA' bn' bc', .slice lA' ln' lc'] 50 (0, 0)) := by rw [← hw3]; exact heap_alloc_new _ _
  obtain ⟨p0, p1, p2, p3, p4, p5, p6, p7, p8, p9, p10, p11, p12, p13, p14, p15⟩ := box16 hX3
  obtain ⟨q0, q1, q2, q3, q4, q5, q6, q7, q8, q9, q10, q11, q12, q13, q14, q15⟩ := box16 hY3
  have hbf := Lib.hid (Below.next hb1.out hb3.out)
  clear hX3 hY3
  go_upto_region 2 with fail
  have s1 := Lib.hid (fun s : Sub w3 => k1.out s.val)
  have s2 := Lib.hid (fun s : Sub w3 => k2.out s.val)
  have s3 := Lib.hid (fun s : Sub w3 => k3.out s.val)
  have s4 := Lib.hid (fun s : Sub w3 => k4.out s.val)
  clear k1 k2 k3 k4 hw3
  cases b1
  · as_aux_lemma =>
      go_upto_region 3 with fail
      have p1 := Sub.cell p1
      have p3 := Sub.cell p3
      have p4 := Sub.cell p4
      have p5 := Sub.cell p5
      have p6 := Sub.cell p6
      have p7 := Sub.cell p7
      have p8 := Sub.cell p8
      have p9 := Sub.cell p9
      have p10 := Sub.cell p10
      have p12 := Sub.cell p12
      have p13 := Sub.cell p13
      have q1 := Sub.cell q1
      have q3 := Sub.cell q3
      have q4 := Sub.cell q4
      have q5 := Sub.cell q5
      have q6 := Sub.cell q6
      have q7 := Sub.cell q7
      have q8 := Sub.cell q8
      have q9 := Sub.cell q9
      have q10 := Sub.cell q10
      have q12 := Sub.cell q12
      have q13 := Sub.cell q13
      refine wp_region_below (by kernel_rfl) (by kernel_rfl) ?_
      repeat (go_big_quiet_step ((first | (go_at_call 128; with_reducible exact Sub.call (s1.out _)) | (go_at_call 128; with_reducible exact Sub.call (s2.out _)) | (go_at_call 128; with_reducible exact Sub.call (s3.out _)) | (go_at_call 128; with_reducible exact Sub.call (s4.out _)))))
      refine wpQuiet_nil ?_
      rintro w4 ⟨z4, hz4⟩
      have hb4 := hz4 ▸ z4.property
      have hfin := Lib.hid (Below.next hbf.out hb4)
      clear hz4 hb4 p0 p1 p2 p3 p4 p5 p6 p7 p8 p9 p10 p11 p12 p13 p14 p15 q0 q1 q2 q3 q4 q5 q6 q7 q8 q9 q10 q11 q12 q13 q14 q15
      go_wp2
      go_ret
      exact ⟨rfl, hfin.out⟩
  · skip
    cases b2
    · as_aux_lemma =>
        go_upto_region 3 with fail
        have p1 := Sub.cell p1
        have p3 := Sub.cell p3
        have p4 := Sub.cell p4
        have p5 := Sub.cell p5
        have p6 := Sub.cell p6
        have p7 := Sub.cell p7
        have p8 := Sub.cell p8
        have p9 := Sub.cell p9
        have p10 := Sub.cell p10
        have p12 := Sub.cell p12
        have p13 := Sub.cell p13
        have q1 := Sub.cell q1
        have q3 := Sub.cell q3
        have q4 := Sub.cell q4
        have q5 := Sub.cell q5
        have q6 := Sub.cell q6
        have q7 := Sub.cell q7
        have q8 := Sub.cell q8
        have q9 := Sub.cell q9
        have q10 := Sub.cell q10
        have q12 := Sub.cell q12
        have q13 := Sub.cell q13
        refine wp_region_below (by kernel_rfl) (by kernel_rfl) ?_
        repeat (go_big_quiet_step ((first | (go_at_call 128; with_reducible exact Sub.call (s1.out _)) | (go_at_call 128; with_reducible exact Sub.call (s2.out _)) | (go_at_call 128; with_reducible exact Sub.call (s3.out _)) | (go_at_call 128; with_reducible exact Sub.call (s4.out _)))))
        refine wpQuiet_nil ?_
        rintro w4 ⟨z4, hz4⟩
        have hb4 := hz4 ▸ z4.property
        have hfin := Lib.hid (Below.next hbf.out hb4)
        clear hz4 hb4 p0 p1 p2 p3 p4 p5 p6 p7 p8 p9 p10 p11 p12 p13 p14 p15 q0 q1 q2 q3 q4 q5 q6 q7 q8 q9 q10 q11 q12 q13 q14 q15
        go_wp2
        go_ret
        exact ⟨rfl, hfin.out⟩
    · skip
      cases b3
      · as_aux_lemma =>
          go_upto_region 3 with fail
          have p1 := Sub.cell p1
          have p3 := Sub.cell p3
          have p4 := Sub.cell p4
          have p5 := Sub.cell p5
          have p6 := Sub.cell p6
          have p7 := Sub.cell p7
          have p8 := Sub.cell p8
          have p9 := Sub.cell p9
          have p10 := Sub.cell p10
          have p12 := Sub.cell p12
          have p13 := Sub.cell p13
          have q1 := Sub.cell q1
          have q3 := Sub.cell q3
          have q4 := Sub.cell q4
          have q5 := Sub.cell q5
          have q6 := Sub.cell q6
          have q7 := Sub.cell q7
          have q8 := Sub.cell q8
          have q9 := Sub.cell q9
          have q10 := Sub.cell q10
          have q12 := Sub.cell q12
          have q13 := Sub.cell q13
          refine wp_region_below (by kernel_rfl) (by kernel_rfl) ?_
          repeat (go_big_quiet_step ((first | (go_at_call 128; with_reducible exact Sub.call (s1.out _)) | (go_at_call 128; with_reducible exact Sub.call (s2.out _)) | (go_at_call 128; with_reducible exact Sub.call (s3.out _)) | (go_at_call 128; with_reducible exact Sub.call (s4.out _)))))
          refine wpQuiet_nil ?_
          rintro w4 ⟨z4, hz4⟩
          have hb4 := hz4 ▸ z4.property
          have hfin := Lib.hid (Below.next hbf.out hb4)
          clear hz4 hb4 p0 p1 p2 p3 p4 p5 p6 p7 p8 p9 p10 p11 p12 p13 p14 p15 q0 q1 q2 q3 q4 q5 q6 q7 q8 q9 q10 q11 q12 q13 q14 q15
          go_wp2
          go_ret
          exact ⟨rfl, hfin.out⟩
      · skip
        cases b4
        · as_aux_lemma =>
            go_upto_region 3 with fail
            have p1 := Sub.cell p1
            have p3 := Sub.cell p3
            have p4 := Sub.cell p4
            have p5 := Sub.cell p5
            have p6 := Sub.cell p6
            have p7 := Sub.cell p7
            have p8 := Sub.cell p8
            have p9 := Sub.cell p9
            have p10 := Sub.cell p10
            have p12 := Sub.cell p12
            have p13 := Sub.cell p13
            have q1 := Sub.cell q1
            have q3 := Sub.cell q3
            have q4 := Sub.cell q4
            have q5 := Sub.cell q5
            have q6 := Sub.cell q6
            have q7 := Sub.cell q7
            have q8 := Sub.cell q8
            have q9 := Sub.cell q9
            have q10 := Sub.cell q10
            have q12 := Sub.cell q12
            have q13 := Sub.cell q13
            refine wp_region_below (by kernel_rfl) (by kernel_rfl) ?_
            repeat (go_big_quiet_step ((first | (go_at_call 128; with_reducible exact Sub.call (s1.out _)) | (go_at_call 128; with_reducible exact Sub.call (s2.out _)) | (go_at_call 128; with_reducible exact Sub.call (s3.out _)) | (go_at_call 128; with_reducible exact Sub.call (s4.out _)))))
            refine wpQuiet_nil ?_
            rintro w4 ⟨z4, hz4⟩
            have hb4 := hz4 ▸ z4.property
            have hfin := Lib.hid (Below.next hbf.out hb4)
            clear hz4 hb4 p0 p1 p2 p3 p4 p5 p6 p7 p8 p9 p10 p11 p12 p13 p14 p15 q0 q1 q2 q3 q4 q5 q6 q7 q8 q9 q10 q11 q12 q13 q14 q15
            go_wp2
            go_ret
            exact ⟨rfl, hfin.out⟩
        · skip
          cases b5
          · as_aux_lemma =>
              go_upto_region 3 with fail
              have p1 := Sub.cell p1
              have p3 := Sub.cell p3
              have p4 := Sub.cell p4
              have p5 := Sub.cell p5
              have p6 := Sub.cell p6
              have p7 := Sub.cell p7
              have p8 := Sub.cell p8
              have p9 := Sub.cell p9
              have p10 := Sub.cell p10
              have p12 := Sub.cell p12
              have p13 := Sub.cell p13
              have q1 := Sub.cell q1
              have q3 := Sub.cell q3
              have q4 := Sub.cell q4
              have q5 := Sub.cell q5
              have q6 := Sub.cell q6
              have q7 := Sub.cell q7
              have q8 := Sub.cell q8
              have q9 := Sub.cell q9
              have q10 := Sub.cell q10
              have q12 := Sub.cell q12
              have q13 := Sub.cell q13
              refine wp_region_below (by kernel_rfl) (by kernel_rfl) ?_
              repeat (go_big_quiet_step ((first | (go_at_call 128; with_reducible exact Sub.call (s1.out _)) | (go_at_call 128; with_reducible exact Sub.call (s2.out _)) | (go_at_call 128; with_reducible exact Sub.call (s3.out _)) | (go_at_call 128; with_reducible exact Sub.call (s4.out _)))))
              refine wpQuiet_nil ?_
              rintro w4 ⟨z4, hz4⟩
              have hb4 := hz4 ▸ z4.property
              have hfin := Lib.hid (Below.next hbf.out hb4)
              clear hz4 hb4 p0 p1 p2 p3 p4 p5 p6 p7 p8 p9 p10 p11 p12 p13 p14 p15 q0 q1 q2 q3 q4 q5 q6 q7 q8 q9 q10 q11 q12 q13 q14 q15
              go_wp2
              go_ret
              exact ⟨rfl, hfin.out⟩
          · skip
            cases b6
            · as_aux_lemma =>
                go_upto_region 3 with fail
                have p1 := Sub.cell p1
                have p3 := Sub.cell p3
                have p4 := Sub.cell p4
                have p5 := Sub.cell p5
                have p6 := Sub.cell p6
                have p7 := Sub.cell p7
                have p8 := Sub.cell p8
                have p9 := Sub.cell p9
                have p10 := Sub.cell p10
                have p12 := Sub.cell p12
                have p13 := Sub.cell p13
                have q1 := Sub.cell q1
                have q3 := Sub.cell q3
                have q4 := Sub.cell q4
                have q5 := Sub.cell q5
                have q6 := Sub.cell q6
                have q7 := Sub.cell q7
                have q8 := Sub.cell q8
                have q9 := Sub.cell q9
                have q10 := Sub.cell q10
                have q12 := Sub.cell q12
                have q13 := Sub.cell q13
                refine wp_region_below (by kernel_rfl) (by kernel_rfl) ?_
                repeat (go_big_quiet_step ((first | (go_at_call 128; with_reducible exact Sub.call (s1.out _)) | (go_at_call 128; with_reducible exact Sub.call (s2.out _)) | (go_at_call 128; with_reducible exact Sub.call (s3.out _)) | (go_at_call 128; with_reducible exact Sub.call (s4.out _)))))
                refine wpQuiet_nil ?_
                rintro w4 ⟨z4, hz4⟩
                have hb4 := hz4 ▸ z4.property
                have hfin := Lib.hid (Below.next hbf.out hb4)
                clear hz4 hb4 p0 p1 p2 p3 p4 p5 p6 p7 p8 p9 p10 p11 p12 p13 p14 p15 q0 q1 q2 q3 q4 q5 q6 q7 q8 q9 q10 q11 q12 q13 q14 q15
                go_wp2
                go_ret
                exact ⟨rfl, hfin.out⟩
            · skip
              cases b7
              · as_aux_lemma =>
                  go_upto_region 3 with fail
                  have p1 := Sub.cell p1
                  have p3 := Sub.cell p3
                  have p4 := Sub.cell p4
                  have p5 := Sub.cell p5
                  have p6 := Sub.cell p6
                  have p7 := Sub.cell p7
                  have p8 := Sub.cell p8
                  have p9 := Sub.cell p9
                  have p10 := Sub.cell p10
                  have p12 := Sub.cell p12
                  have p13 := Sub.cell p13
                  have q1 := Sub.cell q1
                  have q3 := Sub.cell q3
                  have q4 := Sub.cell q4
                  have q5 := Sub.cell q5
                  have q6 := Sub.cell q6
                  have q7 := Sub.cell q7
                  have q8 := Sub.cell q8
                  have q9 := Sub.cell q9
                  have q10 := Sub.cell q10
                  have q12 := Sub.cell q12
                  have q13 := Sub.cell q13
                  refine wp_region_below (by kernel_rfl) (by kernel_rfl) ?_
                  repeat (go_big_quiet_step ((first | (go_at_call 128; with_reducible exact Sub.call (s1.out _)) | (go_at_call 128; with_reducible exact Sub.call (s2.out _)) | (go_at_call 128; with_reducible exact Sub.call (s3.out _)) | (go_at_call 128; with_reducible exact Sub.call (s4.out _)))))
                  refine wpQuiet_nil ?_
                  rintro w4 ⟨z4, hz4⟩
                  have hb4 := hz4 ▸ z4.property
                  have hfin := Lib.hid (Below.next hbf.out hb4)
                  clear hz4 hb4 p0 p1 p2 p3 p4 p5 p6 p7 p8 p9 p10 p11 p12 p13 p14 p15 q0 q1 q2 q3 q4 q5 q6 q7 q8 q9 q10 q11 q12 q13 q14 q15
                  go_wp2
                  go_ret
                  exact ⟨rfl, hfin.out⟩
              · skip
                cases b8
                · as_aux_lemma =>
                    go_upto_region 3 with fail
                    have p1 := Sub.cell p1
                    have p3 := Sub.cell p3
                    have p4 := Sub.cell p4
                    have p5 := Sub.cell p5
                    have p6 := Sub.cell p6
                    have p7 := Sub.cell p7
                    have p8 := Sub.cell p8
                    have p9 := Sub.cell p9
                    have p10 := Sub.cell p10
                    have p12 := Sub.cell p12
                    have p13 := Sub.cell p13
                    have q1 := Sub.cell q1
                    have q3 := Sub.cell q3
                    have q4 := Sub.cell q4
                    have q5 := Sub.cell q5
                    have q6 := Sub.cell q6
                    have q7 := Sub.cell q7
                    have q8 := Sub.cell q8
                    have q9 := Sub.cell q9
                    have q10 := Sub.cell q10
                    have q12 := Sub.cell q12
                    have q13 := Sub.cell q13
                    refine wp_region_below (by kernel_rfl) (by kernel_rfl) ?_
                    repeat (go_big_quiet_step ((first | (go_at_call 128; with_reducible exact Sub.call (s1.out _)) | (go_at_call 128; with_reducible exact Sub.call (s2.out _)) | (go_at_call 128; with_reducible exact Sub.call (s3.out _)) | (go_at_call 128; with_reducible exact Sub.call (s4.out _)))))
                    refine wpQuiet_nil ?_
                    rintro w4 ⟨z4, hz4⟩
                    have hb4 := hz4 ▸ z4.property
                    have hfin := Lib.hid (Below.next hbf.out hb4)
                    clear hz4 hb4 p0 p1 p2 p3 p4 p5 p6 p7 p8 p9 p10 p11 p12 p13 p14 p15 q0 q1 q2 q3 q4 q5 q6 q7 q8 q9 q10 q11 q12 q13 q14 q15
                    go_wp2
                    go_ret
                    exact ⟨rfl, hfin.out⟩
                · as_aux_lemma =>
                    go_upto_region 3 with fail
                    have p1 := Sub.cell p1
                    have p3 := Sub.cell p3
                    have p4 := Sub.cell p4
                    have p5 := Sub.cell p5
                    have p6 := Sub.cell p6
                    have p7 := Sub.cell p7
                    have p8 := Sub.cell p8
                    have p9 := Sub.cell p9
                    have p10 := Sub.cell p10
                    have p12 := Sub.cell p12
                    have p13 := Sub.cell p13
                    have q1 := Sub.cell q1
                    have q3 := Sub.cell q3
                    have q4 := Sub.cell q4
                    have q5 := Sub.cell q5
                    have q6 := Sub.cell q6
                    have q7 := Sub.cell q7
                    have q8 := Sub.cell q8
                    have q9 := Sub.cell q9
                    have q10 := Sub.cell q10
                    have q12 := Sub.cell q12
                    have q13 := Sub.cell q13
                    refine wp_region_below (by kernel_rfl) (by kernel_rfl) ?_
                    repeat (go_big_quiet_step ((first | (go_at_call 128; with_reducible exact Sub.call (s1.out _)) | (go_at_call 128; with_reducible exact Sub.call (s2.out _)) | (go_at_call 128; with_reducible exact Sub.call (s3.out _)) | (go_at_call 128; with_reducible exact Sub.call (s4.out _)))))
                    refine wpQuiet_nil ?_
                    rintro w4 ⟨z4, hz4⟩
                    have hb4 := hz4 ▸ z4.property
                    have hfin := Lib.hid (Below.next hbf.out hb4)
                    clear hz4 hb4 p0 p1 p2 p3 p4 p5 p6 p7 p8 p9 p10 p11 p12 p13 p14 p15 q0 q1 q2 q3 q4 q5 q6 q7 q8 q9 q10 q11 q12 q13 q14 q15
                    go_wp2
                    go_ret
                    exact ⟨rfl, hfin.out⟩
end Go.Proofs.YtnahgfdoiflacaaGreatDoor
