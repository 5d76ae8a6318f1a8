/- once: over the lines, up to a number of them. -/
import Derived.Test.YtmimmnjdgpdjlaaGreatDoorAR
set_option linter.unusedSimpArgs false
set_option linter.unusedVariables false
namespace Go.Proofs.YtmimmnjdgpdjlaaGreatDoor
open Go.RowKit Go.Lib Go.Shelf

theorem tell_pre (L : List In) (k : Nat) : ∃ r, tellT L = tellT (L.take k) ++ r := ⟨tellT (L.drop k), by rw [← tell_app, List.take_append_drop]⟩
theorem made4 (w : World) (a b c d : Obj) : ((((w.alloc a).alloc b).alloc c).alloc d).heap[w.heap.size]? = some a ∧ ((((w.alloc a).alloc b).alloc c).alloc d).heap[w.heap.size + 1]? = some b ∧ ((((w.alloc a).alloc b).alloc c).alloc d).heap[w.heap.size + 1 + 1]? = some c ∧ ((((w.alloc a).alloc b).alloc c).alloc d).heap[w.heap.size + 1 + 1 + 1]? = some d := by
  have hh : ∀ (w : World) (o : Obj), (w.alloc o).heap = w.heap.push o := fun _ _ => rfl
  simp only [hh, Array.getElem?_push, Array.size_push]
  refine ⟨?_, ?_, ?_, ?_⟩ <;> (repeat (first | rw [if_pos trivial] | rw [if_neg (by omega)]))
theorem run_it_nil (b : Addr) (w : World) : (binOp BinOp.eql 92 (.func (.func 109) #[] #[.pointer (some b)]) .nilFunc).run Tryz.prog w = .ok (.bool false) w := by kernel_rfl
attribute [local go_sem] Oper.semAt_some
set_option maxRecDepth 100000 in
set_option maxHeartbeats 8000000 in
theorem once29_any (L : List In) (A : Option Addr) (c : Nat) (want : ByteArray) (most : Int) (w0 : World) (hE : Env w0) (hL : InsAt w0 L A) (hF : ∀ i ∈ L, Fit i) (hlen : L.length ≤ 100000) (hwant : want = if mayAll L then bt (tellT L) else ⟨#[]⟩) :
    Calls Tryz.prog 29 #[.slice A L.length c, .string want, .int .i64 most] w0 (BoolPost true w0) := by
  have hwy := Lib.hid (fun h : mayAll L = true => (show want = bt (tellT L) by rw [hwant, if_pos h]))
  have hwn := Lib.hid (fun h : mayAll L = false => (show want = ⟨#[]⟩ by rw [hwant, if_neg (by rw [h]; simp)]))
  have htk := Lib.hid (fun k (h : mayAll L = true) => tell_len (L.take k) fun i hi => form_of ((mayAll_parts h).2.2 i (List.mem_of_mem_take hi)).1 (hF i (List.mem_of_mem_take hi)).1)
  obtain ⟨n, hnn⟩ : ∃ n, L.length = n := ⟨_, rfl⟩
  rw [hnn] at hlen ⊢
  have hn' := Lib.hid hnn
  have hL := Lib.hid hL
  have hF := Lib.hid hF
  have hE := Lib.hid hE
  clear hnn hwant
  obtain ⟨w1, hw1⟩ : ∃ w1, ((((w0.alloc (.cells #[.string want] 9)).alloc (.cells #[.int .i64 most] 3)).alloc (.cells #[.bool false] 4)).alloc (.cells #[.int .i64 0] 3)) = w1 := ⟨_, rfl⟩
  obtain ⟨m0, m1, m2, m3⟩ := made4 w0 (.cells #[.string want] 9) (.cells #[.int .i64 most] 3) (.cells #[.bool false] 4) (.cells #[.int .i64 0] 3)
  have hb1 : Below w0.heap.size w0 w1 := by rw [← hw1]; exact ((((Below.refl _ w0).alloc (Nat.le_refl _) _).alloc (by simp) _).alloc (by simp; omega) _).alloc (by simp; omega) _
  have hs1 : w1.heap.size = w0.heap.size + 1 + 1 + 1 + 1 := by rw [← hw1]; simp
  rw [hw1] at m0 m1 m2 m3
  obtain ⟨w2, hw2⟩ : ∃ w2, w1.alloc (.cells #[.slice A n c] 42) = w2 := ⟨_, rfl⟩
  have hb2 : Below w1.heap.size w1 w2 := by rw [← hw2]; exact below_new _ _
  have hs2 : w2.heap.size = w1.heap.size + 1 := by rw [← hw2]; simp
  have hx2 : w2.heap[w1.heap.size]? = some (.cells #[.slice A n c] 42 (0, 0)) := by rw [← hw2]; exact heap_alloc_new _ _
  obtain ⟨w3, hw3⟩ : ∃ w3, w2.alloc (.cells #[.string ⟨#[]⟩] 9) = w3 := ⟨_, rfl⟩
  have hb3 : Below w2.heap.size w2 w3 := by rw [← hw3]; exact below_new _ _
  have hs3 : w3.heap.size = w2.heap.size + 1 := by rw [← hw3]; simp
  have hx3 : w3.heap[w1.heap.size]? = some (.cells #[.slice A n c] 42 (0, 0)) := (hb3.block _ (blk_lt hx2)).trans hx2
  have hI3 : OnI w0 want most w2.heap.size false 0 ⟨#[]⟩ w3 := ⟨Below.next (Below.next hb1 hb2) hb3, (hb3.block _ (by omega)).trans ((hb2.block _ (by omega)).trans m0), (hb3.block _ (by omega)).trans ((hb2.block _ (by omega)).trans m1), (hb3.block _ (by omega)).trans ((hb2.block _ (by omega)).trans m2), (hb3.block _ (by omega)).trans ((hb2.block _ (by omega)).trans m3), by rw [← hw3]; exact heap_alloc_new _ _⟩
  have hl := Lib.hid (lines58_any A n c w1)
  obtain ⟨g, hg⟩ : ∃ g, w2.heap.size = g := ⟨_, rfl⟩
  rw [hg] at hI3
  have hgl : w0.heap.size + 1 + 1 + 1 < g := by omega
  have hg3 : g < w3.heap.size := by omega
  obtain ⟨b5, hb5⟩ : ∃ b5, w1.heap.size = b5 := ⟨_, rfl⟩
  rw [hb5] at hx3
  have hb5 := Lib.hid hb5
  have hg := Lib.hid hg
  have hw1' := Lib.hid hw1
  have hw2' := Lib.hid hw2
  have hw3' := Lib.hid hw3
  have hI3 := Lib.hid hI3
  have hx3 := Lib.hid hx3
  have hgl := Lib.hid hgl
  have hg3 := Lib.hid hg3
  clear m0 m1 m2 m3 hb1 hs1 hw1 hw2 hb2 hs2 hx2 hw3 hb3 hs3
  refine (callsIn_wide (n := 8)).1 (callsIn_of_wp_marks Tryz.func29 rfl trivial ?_ rfl)
  simp only [Tryz.ntmps29, List.size_toArray, List.length_cons, List.length_nil, Nat.reduceAdd, Nat.reduceSub, Array.replicate_succ, Array.replicate_zero, List.push_toArray, List.append_toArray, List.nil_append, List.cons_append]
  refine wpIn_wide.2 ?_
  go_wp2_with fail
  rw [hw1'.out]
  refine hl.out.mono ?_
  rintro e w2x ⟨rfl, hw2x⟩
  obtain rfl : w2x = w2 := hw2x.trans hw2'.out
  rw [hb5.out]
  clear hl hw2x
  have hrn := run_it_nil
  go_wp2_with fail
  rw [hw3'.out]
  refine (wpIn_wide (n := 8)).1 (wpIn_range_strs w0 hE.out L A c b5 hL.out hF.out (by rw [hn'.out]; omega) (by rw [hn'.out]; exact hx3.out) rfl (fun k W => OnI w0 want most g false (k : Int) (bt (tellT (L.take k))) W) (fun W => ∃ cnt gt, OnI w0 want most g true cnt gt W)
    (fun k W W' h _ hb => h.go hb) (fun k W l o o' h hl ho hc => h.pu (Nat.le_trans hI3.out.bel.size hl) ho hc o') (fun W l o o' h hl ho hc => h.elim fun cnt h => h.elim fun gt h => ⟨cnt, gt, h.pu (Nat.le_trans hI3.out.bel.size hl) ho hc o'⟩) (fun k W h => h.bel) hI3.out (fun s => #[.slice A n c, .string want, .int .i64 most, undef, .pointer (some ⟨w0.heap.size, 0, none⟩), .pointer (some ⟨w0.heap.size + 1, 0, none⟩), .pointer (some ⟨w0.heap.size + 1 + 1, 0, none⟩), .pointer (some ⟨w0.heap.size + 1 + 1 + 1, 0, none⟩), .func (.func 109) #[] #[.pointer (some ⟨b5, 0, none⟩)], .pointer (some ⟨g, 0, none⟩), .string s, .slice A n c, .func (.func 109) #[] #[.pointer (some ⟨b5, 0, none⟩)], .func (.func 109) #[] #[.pointer (some ⟨b5, 0, none⟩)], .bool false, .func (.func 109) #[] #[.pointer (some ⟨b5, 0, none⟩)], .string s, undef, undef, undef, undef, undef, undef, undef, undef, undef, undef, undef, undef, undef, undef, undef, undef, undef, undef, undef, undef, undef, undef, undef, undef, undef]) ?assign ?body ?done ?stop)
  case assign =>
    intro l s W K hK
    have hK' := Lib.hid hK
    clear hK
    gi_wp2
    exact hK'.out
  case body =>
    intro l k i W hm hl hs hI hx
    have hnx := tell_take hx
    have hkn : k < n := by have := (List.getElem?_eq_some_iff.1 hx).1; rw [hn'.out] at this; exact this
    have hsz := htk.out k hm
    rw [List.length_take] at hsz
    have hmk : min k L.length ≤ k := Nat.min_le_left _ _
    have hfm : Form i := form_of ((mayAll_parts hm).2.2 i (List.mem_of_getElem? hx)).1 (hF.out i (List.mem_of_getElem? hx)).1
    have hls : (bt (tellI i)).size ≤ 141 := by rw [bt_size]; exact tellI_len hfm
    have hgs : (bt (tellT (L.take k))).size ≤ 142 * k := by rw [bt_size]; omega
    have hnew : bt (tellT (L.take (k + 1))) = bt (tellT (L.take k)) ++ bt (tellI i) ++ (⟨#[10]⟩ : ByteArray) := by
      rw [hnx]
      exact ext_bytes (by simp [bt])
    obtain ⟨rr, hrr⟩ := tell_pre L (k + 1)
    have hwt : want = bt (tellT (L.take k)) ++ bt (tellI i) ++ (⟨#[10]⟩ : ByteArray) ++ bt rr := by rw [hwy.out hm, hrr, ← bt_app, hnew]
    obtain ⟨g0, hg0⟩ : ∃ g0, bt (tellT (L.take k)) = g0 := ⟨_, rfl⟩
    obtain ⟨x, hx'⟩ : ∃ x, bt (tellI i) = x := ⟨_, rfl⟩
    rw [hg0, hx'] at hnew hwt
    rw [hg0] at hI hgs
    rw [hx'] at hls ⊢
    rw [hnew]
    have e10 : (⟨#[10]⟩ : ByteArray).size = 1 := rfl
    have hext : want.extract 0 (g0.size + x.size + 1) = g0 ++ x ++ ⟨#[10]⟩ := by
      rw [hwt]
      refine ext_bytes ?_
      have e : (g0 ++ x ++ (⟨#[10]⟩ : ByteArray)).size = g0.size + x.size + 1 := by rw [ByteArray.size_append, ByteArray.size_append]; rfl
      rw [← e, ByteArray.extract_append_eq_left rfl]
    have hwsz : g0.size + x.size + 1 ≤ want.size := by
      rw [hwt, ByteArray.size_append, ByteArray.size_append, ByteArray.size_append]
      omega
    have hdw : decide ((g0.size : Int) + (x.size : Int) + 1 ≤ (want.size : Int)) = true := by simp; omega
    clear hnx hsz hmk hfm hnew hwt hrr hg0 hx' hx hm
    have y4 := hI.b4.c
    have y5 := hI.b5.c
    have y6 := hI.b6.c
    have y7 := hI.b7.c
    have y9 := hI.b9.c
    have f6 := hI.b6.f
    have f7 := hI.b7.f
    have f9 := hI.b9.f
    have hne := hgl.out
    have n1 : ¬ g = w0.heap.size + 1 + 1 + 1 := by omega
    have n2 : ¬ w0.heap.size + 1 + 1 + 1 = g := by omega
    have n3 : ¬ g = w0.heap.size + 1 := by omega
    have n4 : ¬ g = w0.heap.size := by omega
    have hnext := Lib.hid ((hI.got hgl.out (g0 ++ x ++ ⟨#[10]⟩)).num hgl.out ((k : Int) + 1))
    have hIh := Lib.hid hI
    clear hI hne
    have ek : ((k + 1 : Nat) : Int) = (k : Int) + 1 := by omega
    rw [ek]
    clear ek
    have hkp := Lib.hid (show KeepN w3.heap.size W ((W.setCell ⟨g, 0, none⟩ (.string (g0 ++ x ++ ⟨#[10]⟩))).setCell ⟨w0.heap.size + 1 + 1 + 1, 0, none⟩ (.int .i64 ((k : Int) + 1))) from (KeepN.set hIh.out.b9).trans (KeepN.set (hIh.out.got hgl.out _).b7))
    by_cases hmo : (k : Int) + 1 = most
    · have em : ((k : Int) + 1 == most) = true := by simpa using hmo
      subst hmo
      gi_wp2_with fail
      clear y4 y5 y6 y7 y9 f6 f7 f9
      generalize ((W.setCell ⟨g, 0, none⟩ (.string (g0 ++ x ++ ⟨#[10]⟩))).setCell ⟨w0.heap.size + 1 + 1 + 1, 0, none⟩ (.int .i64 ((k : Int) + 1))) = V at hnext hkp ⊢
      have c9 := Sub.cell hnext.out.b9.c
      have c4 := Sub.cell hnext.out.b4.c
      refine wpIn_region_below_tail_r 13 (by kernel_rfl) (by kernel_rfl) (by kernel_rfl) ?_
      simp only [List.take_succ_cons, List.take_zero, List.drop_succ_cons, List.drop_zero]
      repeat (go_big_quiet_step (fail))
      refine wpQuiet_nil ?_
      rintro w4 ⟨z4, rfl⟩
      have hO := hnext.out.go z4.property
      have f6 := hO.b6.f
      have y6 := hO.b6.c
      have hfin := Lib.hid (show KeepN w3.heap.size W (z4.val.setCell ⟨w0.heap.size + 1 + 1, 0, none⟩ (.bool true)) ∧ ∃ cnt gt, OnI w0 want ((k : Int) + 1) g true cnt gt (z4.val.setCell ⟨w0.heap.size + 1 + 1, 0, none⟩ (.bool true)) from
        ⟨(hkp.out.trans (KeepN.of_below z4.property)).trans (KeepN.set hO.b6), _, _, hO.res hgl.out true⟩)
      clear hO c9 c4
      gi_wp2_with fail
      exact hfin.out
    · have em : ((k : Int) + 1 == most) = false := by simpa using hmo
      clear hmo
      gi_wp2_with fail
      exact ⟨hkp.out, hnext.out⟩
  case done =>
    intro D W hD hh hK
    have hI : ∃ cnt, OnI w0 want most g false cnt want W := by
      rcases hh with ⟨hm, hI⟩ | ⟨hm, hI⟩
      · rw [List.take_length, ← hwy.out hm] at hI
        exact ⟨_, hI⟩
      · rw [show bt (tellT (L.take 0)) = want by rw [hwn.out hm]; rfl] at hI
        exact ⟨_, hI⟩
    obtain ⟨cnt, hI⟩ := hI
    have hf := hI.res hgl.out true
    have hKd : (W.setCell ⟨w0.heap.size + 1 + 1, 0, none⟩ (.bool true)).heap[D]? = some (.deferred (some [])) := (Go.Deep.blk_setCell_other _ _ _ _ (show D ≠ w0.heap.size + 1 + 1 by have := hgl.out; have := hg3.out; omega)).trans hK
    have y4 := hI.b4.c
    have y6 := hI.b6.c
    have y9 := hI.b9.c
    have f6 := hI.b6.f
    have hf := Lib.hid hf
    have hKd := Lib.hid hKd
    have hDl := Lib.hid (show w0.heap.size ≤ D by have := hgl.out; have := hg3.out; omega)
    clear hh hK hI hD
    go_wp2_with fail
    have q6 := (hf.out.b6.pu hKd.out rfl (.deferred none)).c
    exact leaves_marks [D] _ (fun D' hD' => by simp at hD'; subst hD'; exact hKd.out) (by simp) ⟨.bool true, by simp [results, Tryz.f29, go_sem, shutAll, q6], rfl, below_put hf.out.bel hDl.out _⟩
  case stop =>
    rintro D W hD hm ⟨cnt, gt, hI⟩ hK
    have hf := Lib.hid hI
    have hKd := Lib.hid hK
    have hDl := Lib.hid (show w0.heap.size ≤ D by have := hgl.out; have := hg3.out; omega)
    clear hI hK hD hm
    refine wpIn_wide.2 ?_
    go_wp2_with fail
    have q6 := (hf.out.b6.pu hKd.out rfl (.deferred none)).c
    exact leaves_marks [D] _ (fun D' hD' => by simp at hD'; subst hD'; exact hKd.out) (by simp) ⟨.bool true, by simp [results, Tryz.f29, go_sem, shutAll, q6], rfl, below_put hf.out.bel hDl.out _⟩
end Go.Proofs.YtmimmnjdgpdjlaaGreatDoor
