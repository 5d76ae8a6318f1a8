/- All code's text: Print. -/
import Derived.Test.YtmimmnjdgpdjlaaGreatDoorAK
set_option linter.unusedSimpArgs false
set_option linter.unusedVariables false
namespace Go.Proofs.YtmimmnjdgpdjlaaGreatDoor
open Go.RowKit Go.Lib Go.Shelf

theorem tell_take {L : List In} {k : Nat} {i : In} (h : L[k]? = some i) : tellT (L.take (k + 1)) = tellT (L.take k) ++ (tellI i ++ [10]) := by
  rw [List.take_add_one, h]
  exact tell_snoc _ _
theorem tellI_len {i : In} (h : Form i) : (tellI i).length ≤ 141 := by
  have := line_len h
  unfold tellI tabT
  split <;> simp <;> omega
theorem tell_len : ∀ (L : List In), (∀ i ∈ L, Form i) → (tellT L).length ≤ 142 * L.length
  | [], _ => by simp [tellT]
  | i :: L, h => by
    have h1 := tellI_len (h i (by simp))
    have h2 := tell_len L fun j hj => h j (by simp [hj])
    rw [tell_cons]
    simp only [List.length_append, List.length_cons]
    omega
def PrintPost (L : List In) (w : World) (e : Ending) (w' : World) : Prop := e = .returned (.tuple #[.string (if mayAll L then bt (tellT L) else ⟨#[]⟩), .int .i64 (if mayAll L then 0 else 2)]) ∧ Below w.heap.size w w'
/-- what Print has in hand -/
structure PrI (w : World) (b : Nat) (L : List In) (k : Nat) (W : World) : Prop where
  bd : Lib.IsBuilder 90 5 w.heap.size b (Lib.byteCells (tellT (L.take k))) W
  bel : Below w.heap.size w W
theorem PrI.go {w : World} {b : Nat} {L : List In} {k : Nat} {W W' : World} (h : PrI w b L k W) (hb : Below W.heap.size W W') : PrI w b L k W' := ⟨IsBuilder.go h.bd hb, Below.next h.bel hb⟩
theorem PrI.pu {w : World} {b : Nat} {L : List In} {k l : Nat} {W : World} {o : Obj} (h : PrI w b L k W) (hw : w.heap.size ≤ l) (hl : W.heap[l]? = some o) (ho : o.isCells = false) (o' : Obj) : PrI w b L k (W.putObj l o') := ⟨IsBuilder.pu h.bd hl ho o', below_put h.bel hw o'⟩
theorem builder_new {B : Nat} {w : World} (hB : B ≤ w.heap.size) : Lib.IsBuilder 90 5 B w.heap.size [] (w.alloc (.cells #[.pointer none, .slice none 0 0] 90)) :=
  .inl ⟨hB, .slice none 0 0, heap_alloc_new _ _, ⟨by simp, .inl ⟨rfl, rfl⟩⟩, by simp [Value.ownBlock]⟩
attribute [local go_sem] Oper.semAt_some
set_option maxRecDepth 100000 in
set_option maxHeartbeats 8000000 in
theorem print27_any (L : List In) (A : Option Addr) (c : Nat) (w0 : World) (hE : Env w0) (hL : InsAt w0 L A) (hF : ∀ i ∈ L, Fit i) (hlen : L.length ≤ 100000) :
    Calls Tryz.prog 27 #[.slice A L.length c] w0 (PrintPost L w0) := by
  have hmy := may41_any L A c w0 hL hF (by omega)
  unfold BoolPost at hmy
  unfold PrintPost
  have htl := Lib.hid (fun (h : mayAll L = true) => tell_len L fun i hi => form_of ((mayAll_parts h).2.2 i hi).1 (hF i hi).1)
  have htk := Lib.hid (fun k (h : mayAll L = true) => tell_len (L.take k) fun i hi => form_of ((mayAll_parts h).2.2 i (List.mem_of_mem_take hi)).1 (hF i (List.mem_of_mem_take hi)).1)
  obtain ⟨mv, hmv⟩ : ∃ mv, mayAll L = mv := ⟨_, rfl⟩
  rw [hmv] at hmy ⊢
  obtain ⟨n, hnn⟩ : ∃ n, L.length = n := ⟨_, rfl⟩
  rw [hnn] at hlen hmy ⊢
  have hn' := Lib.hid hnn
  have hmv := Lib.hid hmv
  have hL := Lib.hid hL
  have hF := Lib.hid hF
  have hE := Lib.hid hE
  have hmy := Lib.hid hmy
  clear hnn
  obtain ⟨R, hR⟩ : ∃ R : ByteArray, bt (tellT L) = R := ⟨_, rfl⟩
  rw [hR]
  have hR := Lib.hid hR
  obtain ⟨X, hX⟩ : ∃ X : ByteArray, (if mv = true then R else ⟨#[]⟩) = X := ⟨_, rfl⟩
  obtain ⟨Y, hY⟩ : ∃ Y : Int, (if mv = true then 0 else 2) = Y := ⟨_, rfl⟩
  rw [hX, hY]
  have hX := Lib.hid hX
  have hY := Lib.hid hY
  refine (callsIn_wide (n := 8)).1 (callsIn_of_wp_marks Tryz.func27 rfl trivial ?_ rfl)
  simp only [Tryz.ntmps27, List.size_toArray, List.length_cons, List.length_nil, Nat.reduceAdd, Nat.reduceSub, Array.replicate_succ, Array.replicate_zero, List.push_toArray, List.append_toArray, List.nil_append, List.cons_append]
  refine wpIn_wide.2 ?_
  go_wp2_with fail
  refine hmy.out.mono ?_
  rintro e w1 ⟨rfl, hb1⟩
  have hb1 := Lib.hid hb1
  cases mv with
  | false =>
    go_wp2_with fail
    exact leaves_marks [] _ (fun D hD => by cases hD) List.nodup_nil ⟨.tuple #[.string ⟨#[]⟩, .int .i64 2], by simp [results, Tryz.f27, go_sem], by rw [← hX.out, ← hY.out]; simp, hb1.out⟩
  | true =>
    have htl2 := htl.out hmv.out
    rw [hn'.out] at htl2
    have htk2 := Lib.hid (fun k => htk.out k hmv.out)
    obtain ⟨w2, hw2⟩ : ∃ w2, w1.alloc (.cells #[.pointer none, .slice none 0 0] 90) = w2 := ⟨_, rfl⟩
    have hb2 : Below w1.heap.size w1 w2 := by rw [← hw2]; exact below_new _ _
    have hI2 : PrI w0 w1.heap.size L 0 w2 := ⟨by rw [← hw2]; exact builder_new hb1.out.size, Below.next hb1.out hb2⟩
    have hl := Lib.hid (lines58_any A n c w2)
    have hs2 : w1.heap.size < w2.heap.size := by rw [← hw2]; simp
    have hs2 := Lib.hid hs2
    have hI2 := Lib.hid hI2
    have hw2' := Lib.hid hw2
    have htl := Lib.hid htl2
    clear hw2 hb2 htl2 htk hmy
    go_wp2_with fail
    rw [hw2'.out]
    refine hl.out.mono ?_
    rintro e w3 ⟨rfl, hw3⟩
    have hb3 : Below w2.heap.size w2 w3 := by rw [hw3]; exact below_new _ _
    have hx3 : w3.heap[w2.heap.size]? = some (.cells #[.slice A n c] 42 (0, 0)) := by rw [hw3]; exact heap_alloc_new _ _
    have hI3 := Lib.hid (hI2.out.go hb3)
    have hx3 := Lib.hid hx3
    have hs3 := Lib.hid (show w1.heap.size < w3.heap.size by have := hb3.size; have := hs2.out; omega)
    obtain ⟨b4, hb4⟩ : ∃ b4, w1.heap.size = b4 := ⟨_, rfl⟩
    obtain ⟨b5, hb5⟩ : ∃ b5, w2.heap.size = b5 := ⟨_, rfl⟩
    rw [hb5] at hx3 ⊢
    rw [hb4] at hI3 hs3 ⊢
    clear hl hw3 hb3 hI2 hs2
    go_wp2_with fail
    refine (wpIn_wide (n := 8)).1 (wpIn_range_strs w0 hE.out L A c b5 hL.out hF.out (by rw [hn'.out]; omega) (by rw [hn'.out]; exact hx3.out) rfl (fun k W => PrI w0 b4 L k W) (fun _ => False)
      (fun k W W' h _ hb => h.go hb) (fun k W l o o' h hl ho hc => h.pu (Nat.le_trans hI3.out.bel.size hl) ho hc o') (fun _ _ _ _ h => h.elim) (fun k W h => h.bel) hI3.out (fun s => #[.slice A n c, undef, .string ⟨#[]⟩, .int .i64 0, .pointer (some ⟨b4, 0, none⟩), .string s, .slice A n c, .bool true, .bool false, .slice A n c, .func (.func 109) #[] #[.pointer (some ⟨b5, 0, none⟩)], .string s, undef, undef, undef, undef, undef, undef]) ?assign ?body ?done (fun _ _ _ _ h => h.elim))
    case assign =>
      intro l s W K hK
      have hK' := Lib.hid hK
      clear hK
      gi_wp2
      exact hK'.out
    case body =>
      intro l k i W hm hl hs hI hx
      have hk : k < n := by have := (List.getElem?_eq_some_iff.1 hx).1; rw [hn'.out] at this; exact this
      have hsz := htk2.out k
      rw [List.length_take] at hsz
      have hfm : Form i := form_of ((mayAll_parts hm).2.2 i (List.mem_of_getElem? hx)).1 (hF.out i (List.mem_of_getElem? hx)).1
      have hil := tellI_len hfm
      have hls : (bt (tellI i)).size ≤ 141 := by rw [bt_size]; exact hil
      have hws := writeString_any w0.heap.size b4 _ (bt (tellI i) ++ ⟨#[10]⟩) W hI.bd (by
        have e : (bt (tellI i) ++ (⟨#[10]⟩ : ByteArray)).size = (bt (tellI i)).size + 1 := ByteArray.size_append
        rw [Lib.byteCells_length, e]
        have : min k L.length ≤ k := Nat.min_le_left _ _
        omega) hI.bel.size
      have hnx : Lib.byteCells (tellT (L.take k)) ++ Lib.strCells (bt (tellI i) ++ ⟨#[10]⟩) = Lib.byteCells (tellT (L.take (k + 1))) := by
        rw [tell_take hx, Lib.byteCells_append, Lib.strCells_eq]
        simp [bt]
      rw [hnx] at hws
      have hws := Lib.hid hws
      have hI := Lib.hid hI
      obtain ⟨x, hx'⟩ : ∃ x, bt (tellI i) = x := ⟨_, rfl⟩
      rw [hx'] at hws hls ⊢
      clear hx' hnx hx hfm hil hsz hm hk
      gi_wp2_with fail
      refine ⟨trivial, ?_⟩
      refine (callsIn_wide.2 hws.out).mono ?_
      rintro e W1 ⟨rfl, h1, h2, h3⟩
      have hfin := Lib.hid (show KeepN w3.heap.size W W1 ∧ PrI w0 b4 L (k + 1) W1 from ⟨fun k' o hk' ho hc => h3.2 k' o (by have := hs3.out; omega) ho (fun cs fr e => by rw [e] at hc; cases hc), ⟨.inr h1, hI.out.bel.trans h2⟩⟩)
      clear h1 h2 h3
      gi_wp2
      exact hfin.out
    case done =>
      rintro D W hD (⟨_, hI⟩ | ⟨hm, _⟩) hK
      · obtain ⟨hbd, hbel⟩ := hI
        rw [List.take_length] at hbd
        have kL := len60_any w0.heap.size b4 _ W hbd
        rw [Lib.byteCells_length] at kL
        have kS := string_any w0.heap.size b4 (tellT L) W hbd hbel.size
        rw [show (⟨(tellT L).toArray⟩ : ByteArray) = R from hR.out] at kS
        obtain ⟨m, hm⟩ : ∃ m, (tellT L).length = m := ⟨_, rfl⟩
        have e1 : ¬ (16777216 : Int) < (m : Int) := by have := htl.out; omega
        rw [hm] at kL
        have kL := Lib.hid kL
        have kS := Lib.hid kS
        have hbel := Lib.hid hbel
        have hK := Lib.hid hK
        have hD := Lib.hid hD
        clear hbd hm
        go_wp2_with fail
        refine kL.out.mono ?_
        rintro e W1 ⟨rfl, rfl⟩
        go_wp2_with fail
        refine kS.out.mono ?_
        rintro e W2 ⟨rfl, h3, h4⟩
        have hD2 := Lib.hid (h4.2 D _ (by have := hs3.out; have := hD.out; omega) hK.out (fun _ _ e => by cases e))
        have hb3 := Lib.hid (hbel.out.trans h3)
        clear h3 h4
        go_wp2_with fail
        exact leaves_marks [D] _ (fun D' hD' => by simp at hD'; subst hD'; exact hD2.out) (by simp) ⟨.tuple #[.string R, .int .i64 0], by simp [results, Tryz.f27, go_sem], by rw [← hX.out, ← hY.out]; simp, shut_below [D] _ (fun D' hD' => by simp at hD'; subst hD'; have := hI3.out.bel.size; have := hD.out; omega) hb3.out⟩
      · rw [hmv.out] at hm; cases hm
end Go.Proofs.YtmimmnjdgpdjlaaGreatDoor
