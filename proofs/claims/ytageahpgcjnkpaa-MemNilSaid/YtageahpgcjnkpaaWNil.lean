/- MemNil answers true. -/
import Derived.Test.YtageahpgcjnkpaaP5
set_option linter.unusedSimpArgs false
set_option linter.unusedVariables false
namespace Go.Proofs.Ytageahpgcjnkpaa
open Go.RowKit Go.Shelf

attribute [local go_sem] Oper.semAt_some

theorem ownFrom_boxBelow (w : World) (bn N B : Nat) (hB : w.heap.size ≤ B) : OwnFrom B (fun (pre : List Nat) W => Boxed W bn 3 (.int .i64 0) ∧ Below w.heap.size w W) := by
  intro s X Y row h hg hr
  have hr' : ∀ r, row = some r → ∃ x : Obj, X.heap[r]? = some x ∧ x.isCells = false := fun r e => (hr r e).2
  exact ⟨keep_blk hg hr' h.1, h.2.grown hg h.2.size (fun k e => Nat.le_trans hB (hr k e).1)⟩

set_option maxRecDepth 100000 in
set_option maxHeartbeats 4000000 in
theorem nothing_in (v : Value) (w : World) (h : NotThere w v) : CallsIn Fence.wide 5 Try.prog 37 #[v] w (Yes w) := by
  have H := Lib.hid h
  clear h
  have hb' := Lib.hid (Below.refl w.heap.size w)
  have hq1 := run_eql_fn
  have hnil : ∀ w, (binOp .eql 25 (.pointer none) (.pointer none)).run Try.prog w = .ok (.bool true) w := fun w => by kernel_rfl
  refine callsIn_of_wp_marks Try.func37 rfl trivial ?_ rfl
  simp only [Try.ntmps37, List.size_toArray, List.length_cons, List.length_nil, Nat.reduceAdd, Nat.reduceSub, Array.replicate_succ, Array.replicate_zero, List.push_toArray, List.append_toArray, List.nil_append, List.cons_append]
  gi_wp2_with fail
  repeat ((with_reducible (refine And.intro ?_ ?_)); (first | trivial | exact (fun f e => by cases e)); try gi_wp2_with fail)
  refine (callsIn_wide.2 (load_nt 0 _ (H.out.below hb'.out))).mono ?_
  rintro e w1 ⟨rfl, b1⟩
  have hb' := Lib.hid (Below.next hb'.out b1)
  clear b1
  gi_wp2_with fail
  repeat ((with_reducible (refine And.intro ?_ ?_)); (first | trivial | exact (fun f e => by cases e)); try gi_wp2_with fail)
  refine (callsIn_wide.2 (loadByte_nt 0 _ (H.out.below hb'.out))).mono ?_
  rintro e w2 ⟨rfl, b1⟩
  have hb' := Lib.hid (Below.next hb'.out b1)
  clear b1
  gi_wp2_with fail
  repeat ((with_reducible (refine And.intro ?_ ?_)); (first | trivial | exact (fun f e => by cases e)); try gi_wp2_with fail)
  refine (callsIn_wide.2 (place_nt 65528 _ (H.out.below hb'.out))).mono ?_
  rintro e w3 ⟨rfl, b1⟩
  have hb' := Lib.hid (Below.next hb'.out b1)
  clear b1
  gi_wp2_with fail
  repeat ((with_reducible (refine And.intro ?_ ?_)); (first | trivial | exact (fun f e => by cases e)); try gi_wp2_with fail)
  refine (callsIn_wide.2 (address_nt ⟨#[97]⟩ 0 _ (H.out.below hb'.out))).mono ?_
  rintro e w4 ⟨rfl, b1⟩
  have hb' := Lib.hid (Below.next hb'.out b1)
  clear b1
  have hbA := (Below.refl w4.heap.size w4).alloc (Nat.le_refl _) (.cells #[.int .i64 0] 3)
  have hx0 := Boxed.new w4 3 (.int .i64 0)
  have hb' := Lib.hid (Below.next hb'.out hbA)
  gi_wp2_with fail
  repeat ((with_reducible (refine And.intro ?_ ?_)); (first | trivial | exact (fun f e => by cases e)); try gi_wp2_with fail)
  obtain ⟨W1, hW1⟩ : ∃ W1, w4.alloc (.cells #[.int .i64 0] 3) = W1 := ⟨_, rfl⟩
  obtain ⟨bn, hbn⟩ : ∃ bn, w4.heap.size = bn := ⟨_, rfl⟩
  rw [hW1] at hb' hx0 ⊢
  rw [hbn] at hx0 ⊢
  clear hW1 hbn hbA
  refine (callsIn_wide.2 (all_nt _ (H.out.below hb'.out))).mono ?_
  rintro e W0 ⟨Bs, rfl, hBs, hge, b1⟩
  have hx' := Lib.hid (show Boxed W0 bn 3 (.int .i64 0) from (b1.block _ hx0.lt).trans hx0)
  have hb' := Lib.hid (Below.next hb'.out b1)
  have hBs' := Lib.hid hBs
  have hs0 := hb'.out.size
  clear b1 hx0 hBs
  gi_wp2_with fail
  refine wpIn_rangeFunc_ownH (F := Fence.wide) (n := 5) rfl (by omega) (gf := 58) (lb := #[.pointer (some ⟨Bs, 0, none⟩)]) rfl trivial (enters_of Try.func58 (by kernel_rfl) rfl)
    (all58_none (5 - 1) (by omega) Bs W0 hBs'.out) (fun _ _ => trivial) (fun W l o o' hl ho hc hw => trivial) (Below.refl _ _) (fun _ => rfl)
    (fun pre W => Boxed W bn 3 (.int .i64 0) ∧ Below w.heap.size w W) (fun c pre W => True)
    (ownFrom_boxBelow w bn 0 _ hb'.out.size) (fun c s X Y row h _ _ => trivial)
    ⟨hx'.out, hb'.out⟩
    (fun x a' W => True)
    (fun x a' s X Y row hs _ _ => trivial)
    ?assign ?body ?done ?stop
  case assign =>
    rintro l pre x W K hI hK
    have hI' := Lib.hid hI
    have hK' := Lib.hid hK
    clear hI hK
    gi_wp2
    exact hK'.out _ _ (KeepsFrom.refl _ _) trivial hI'.out trivial
  case body =>
    rintro l pre x a' W hl ⟨lr, hlr⟩ hI ha hlt
    exact absurd hlt (by omega)
  case stop =>
    rintro D c pre W hD hS hX hK
    exact hS.elim
  case done =>
    rintro D ys W hD hys ⟨hx1, hb1⟩ hK
    have hK' := Lib.hid hK
    have hx' := Lib.hid hx1
    have hb' := Lib.hid hb1
    clear hK hx1 hb1 hBs'
    gi_wp2_with fail
    repeat ((with_reducible (refine And.intro ?_ ?_)); (first | trivial | exact (fun f e => by cases e)); try gi_wp2_with fail)
    refine (callsIn_wide.2 (num_any _ _)).mono ?_
    rintro e wn ⟨rfl, rfl⟩
    gi_wp2_with fail
    repeat ((with_reducible (refine And.intro ?_ ?_)); (first | trivial | exact (fun f e => by cases e)); try gi_wp2_with fail)
    refine (callsIn_wide.2 (num_any _ _)).mono ?_
    rintro e wn ⟨rfl, rfl⟩
    gi_wp2_with fail
    repeat ((with_reducible (refine And.intro ?_ ?_)); (first | trivial | exact (fun f e => by cases e)); try gi_wp2_with fail)
    refine (callsIn_wide.2 (store_nt 0 1 _ (H.out.below hb'.out))).mono ?_
    rintro e v1 ⟨rfl, b1⟩
    have hx' := Lib.hid (show Boxed v1 bn 3 (.int .i64 0) from (b1.block _ hx'.out.lt).trans hx'.out)
    have hK' := Lib.hid ((b1.block D (Array.getElem?_eq_some_iff.1 hK'.out).1).trans hK'.out)
    have hb' := Lib.hid (Below.next hb'.out b1)
    clear b1
    gi_wp2_with fail
    repeat ((with_reducible (refine And.intro ?_ ?_)); (first | trivial | exact (fun f e => by cases e)); try gi_wp2_with fail)
    refine (callsIn_wide.2 (num_any _ _)).mono ?_
    rintro e wn ⟨rfl, rfl⟩
    gi_wp2_with fail
    repeat ((with_reducible (refine And.intro ?_ ?_)); (first | trivial | exact (fun f e => by cases e)); try gi_wp2_with fail)
    refine (callsIn_wide.2 (storeByte_nt 0 1 _ (H.out.below hb'.out))).mono ?_
    rintro e v2 ⟨rfl, b1⟩
    have hx' := Lib.hid (show Boxed v2 bn 3 (.int .i64 0) from (b1.block _ hx'.out.lt).trans hx'.out)
    have hK' := Lib.hid ((b1.block D (Array.getElem?_eq_some_iff.1 hK'.out).1).trans hK'.out)
    have hb' := Lib.hid (Below.next hb'.out b1)
    clear b1
    gi_wp2_with fail
    repeat ((with_reducible (refine And.intro ?_ ?_)); (first | trivial | exact (fun f e => by cases e)); try gi_wp2_with fail)
    refine (callsIn_wide.2 (num_any _ _)).mono ?_
    rintro e wn ⟨rfl, rfl⟩
    gi_wp2_with fail
    repeat ((with_reducible (refine And.intro ?_ ?_)); (first | trivial | exact (fun f e => by cases e)); try gi_wp2_with fail)
    refine (callsIn_wide.2 (words_nt _ (H.out.below hb'.out))).mono ?_
    rintro e v3 ⟨rfl, b1⟩
    have hx' := Lib.hid (show Boxed v3 bn 3 (.int .i64 0) from (b1.block _ hx'.out.lt).trans hx'.out)
    have hK' := Lib.hid ((b1.block D (Array.getElem?_eq_some_iff.1 hK'.out).1).trans hK'.out)
    have hb' := Lib.hid (Below.next hb'.out b1)
    clear b1
    gi_wp2_with fail
    repeat ((with_reducible (refine And.intro ?_ ?_)); (first | trivial | exact (fun f e => by cases e)); try gi_wp2_with fail)
    refine (callsIn_wide.2 (stack_nt _ (H.out.below hb'.out))).mono ?_
    rintro e v4 ⟨rfl, b1⟩
    have hx' := Lib.hid (show Boxed v4 bn 3 (.int .i64 0) from (b1.block _ hx'.out.lt).trans hx'.out)
    have hK' := Lib.hid ((b1.block D (Array.getElem?_eq_some_iff.1 hK'.out).1).trans hK'.out)
    have hb' := Lib.hid (Below.next hb'.out b1)
    clear b1
    gi_wp2_with fail
    repeat ((with_reducible (refine And.intro ?_ ?_)); (first | trivial | exact (fun f e => by cases e)); try gi_wp2_with fail)
    refine (callsIn_wide.2 (layout_nt _ (H.out.below hb'.out))).mono ?_
    rintro e v5 ⟨rfl, b1⟩
    have hx' := Lib.hid (show Boxed v5 bn 3 (.int .i64 0) from (b1.block _ hx'.out.lt).trans hx'.out)
    have hK' := Lib.hid ((b1.block D (Array.getElem?_eq_some_iff.1 hK'.out).1).trans hK'.out)
    have hb' := Lib.hid (Below.next hb'.out b1)
    clear b1
    gi_wp2_with fail
    repeat ((with_reducible (refine And.intro ?_ ?_)); (first | trivial | exact (fun f e => by cases e)); try gi_wp2_with fail)
    refine (callsIn_wide.2 (copy_nt _ (H.out.below hb'.out))).mono ?_
    rintro e v6 ⟨rfl, b1⟩
    have hx' := Lib.hid (show Boxed v6 bn 3 (.int .i64 0) from (b1.block _ hx'.out.lt).trans hx'.out)
    have hK' := Lib.hid ((b1.block D (Array.getElem?_eq_some_iff.1 hK'.out).1).trans hK'.out)
    have hb' := Lib.hid (Below.next hb'.out b1)
    clear b1
    have y3 := hx'.out.cell
    gi_wp2_with fail
    repeat ((with_reducible (refine And.intro ?_ ?_)); (first | trivial | exact (fun f e => by cases e)); try gi_wp2_with fail)
    refine (callsIn_wide.2 (same_nt _ (H.out.below hb'.out))).mono ?_
    rintro e v7 ⟨rfl, b1⟩
    have hx' := Lib.hid (show Boxed v7 bn 3 (.int .i64 0) from (b1.block _ hx'.out.lt).trans hx'.out)
    have hK' := Lib.hid ((b1.block D (Array.getElem?_eq_some_iff.1 hK'.out).1).trans hK'.out)
    have hb' := Lib.hid (Below.next hb'.out b1)
    clear b1
    clear y3
    gi_wp2
    refine ⟨by simp, .inl ⟨_, _, rfl, run_takeDeferred hK'.out, ?_⟩⟩
    refine ⟨.bool true, by simp [results, Try.f37, go_sem], rfl, ?_⟩
    exact hb'.out.grown (grownBy_putObj' _ D _) hb'.out.size (fun k e => by cases e; omega)
theorem nothing_any (v : Value) (w : World) (h : NotThere w v) : Calls Try.prog 37 #[v] w (Yes w) := callsIn_wide.1 (nothing_in v w h)

def nT : Reg := ⟨⟨#[97]⟩, 45056, 512, false⟩
def nF : Reg := ⟨⟨#[97]⟩, 45064, 512, false⟩
def nG : Reg := ⟨⟨#[97]⟩, (-8), 1, false⟩
def nH : Reg := ⟨⟨#[97]⟩, 0, 513, false⟩
def nI : Reg := ⟨⟨#[]⟩, 0, 1, false⟩
def nK : Reg := ⟨⟨#[97]⟩, 4611686018427387904, 1, false⟩
def nJ : Reg := ⟨⟨#[97]⟩, 0, 1, false⟩
def nJ2 : Reg := ⟨⟨#[97]⟩, 8, 1, false⟩
theorem nT_wf : nT.Wf := ⟨by decide, by decide, by decide⟩
theorem nF_wf : nF.Wf := ⟨by decide, by decide, by decide⟩
theorem nG_wf : nG.Wf := ⟨by decide, by decide, by decide⟩
theorem nH_wf : nH.Wf := ⟨by decide, by decide, by decide⟩
theorem nI_wf : nI.Wf := ⟨by decide, by decide, by decide⟩
theorem nK_wf : nK.Wf := ⟨by decide, by decide, by decide⟩
theorem nJ_wf : nJ.Wf := ⟨by decide, by decide, by decide⟩
theorem nJ2_wf : nJ2.Wf := ⟨by decide, by decide, by decide⟩
theorem nT_may : mayL [nT] = true := by decide +kernel
theorem nF_may : mayL [nF] = false := by decide +kernel
theorem nG_may : mayL [nG] = false := by decide +kernel
theorem nH_may : mayL [nH] = false := by decide +kernel
theorem nI_may : mayL [nI] = false := by decide +kernel
theorem nK_may : mayL [nK] = false := by decide +kernel
theorem nJ_may : mayL [nJ, nJ2] = false := by decide +kernel
theorem nT_ask : askI [nT] 49144 8 = 0 := by decide +kernel
theorem new_nF (w : World) : Calls Try.prog 14 #[.slice (some ⟨w.heap.size, 0, none⟩) 1 1] (w.alloc (.cells #[.string ⟨#[97]⟩, .int .i64 45064, .int .i64 512, .bool false] 67)) fun e w' => e = .returned (.tuple #[.pointer none, .int .i64 2]) ∧ Below (w.alloc (.cells #[.string ⟨#[97]⟩, .int .i64 45064, .int .i64 512, .bool false] 67)).heap.size (w.alloc (.cells #[.string ⟨#[97]⟩, .int .i64 45064, .int .i64 512, .bool false] 67)) w' :=
  new_no _ 1 1 [nF] _ (regs_lit1 w nF nF_wf) (by omega) (by omega) nF_may
theorem new_nG (w : World) : Calls Try.prog 14 #[.slice (some ⟨w.heap.size, 0, none⟩) 1 1] (w.alloc (.cells #[.string ⟨#[97]⟩, .int .i64 (-8), .int .i64 1, .bool false] 67)) fun e w' => e = .returned (.tuple #[.pointer none, .int .i64 2]) ∧ Below (w.alloc (.cells #[.string ⟨#[97]⟩, .int .i64 (-8), .int .i64 1, .bool false] 67)).heap.size (w.alloc (.cells #[.string ⟨#[97]⟩, .int .i64 (-8), .int .i64 1, .bool false] 67)) w' :=
  new_no _ 1 1 [nG] _ (regs_lit1 w nG nG_wf) (by omega) (by omega) nG_may
theorem new_nH (w : World) : Calls Try.prog 14 #[.slice (some ⟨w.heap.size, 0, none⟩) 1 1] (w.alloc (.cells #[.string ⟨#[97]⟩, .int .i64 0, .int .i64 513, .bool false] 67)) fun e w' => e = .returned (.tuple #[.pointer none, .int .i64 2]) ∧ Below (w.alloc (.cells #[.string ⟨#[97]⟩, .int .i64 0, .int .i64 513, .bool false] 67)).heap.size (w.alloc (.cells #[.string ⟨#[97]⟩, .int .i64 0, .int .i64 513, .bool false] 67)) w' :=
  new_no _ 1 1 [nH] _ (regs_lit1 w nH nH_wf) (by omega) (by omega) nH_may
theorem new_nI (w : World) : Calls Try.prog 14 #[.slice (some ⟨w.heap.size, 0, none⟩) 1 1] (w.alloc (.cells #[.string ⟨#[]⟩, .int .i64 0, .int .i64 1, .bool false] 67)) fun e w' => e = .returned (.tuple #[.pointer none, .int .i64 2]) ∧ Below (w.alloc (.cells #[.string ⟨#[]⟩, .int .i64 0, .int .i64 1, .bool false] 67)).heap.size (w.alloc (.cells #[.string ⟨#[]⟩, .int .i64 0, .int .i64 1, .bool false] 67)) w' :=
  new_no _ 1 1 [nI] _ (regs_lit1 w nI nI_wf) (by omega) (by omega) nI_may
theorem new_nK (w : World) : Calls Try.prog 14 #[.slice (some ⟨w.heap.size, 0, none⟩) 1 1] (w.alloc (.cells #[.string ⟨#[97]⟩, .int .i64 4611686018427387904, .int .i64 1, .bool false] 67)) fun e w' => e = .returned (.tuple #[.pointer none, .int .i64 2]) ∧ Below (w.alloc (.cells #[.string ⟨#[97]⟩, .int .i64 4611686018427387904, .int .i64 1, .bool false] 67)).heap.size (w.alloc (.cells #[.string ⟨#[97]⟩, .int .i64 4611686018427387904, .int .i64 1, .bool false] 67)) w' :=
  new_no _ 1 1 [nK] _ (regs_lit1 w nK nK_wf) (by omega) (by omega) nK_may
theorem new_nT (w : World) : Calls Try.prog 14 #[.slice (some ⟨w.heap.size, 0, none⟩) 1 1] (w.alloc (.cells #[.string ⟨#[97]⟩, .int .i64 45056, .int .i64 512, .bool false] 67)) (NewPost [nT] 1 (w.alloc (.cells #[.string ⟨#[97]⟩, .int .i64 45056, .int .i64 512, .bool false] 67))) :=
  new_yes _ 1 1 [nT] _ (regs_lit1 w nT nT_wf) (by omega) (by omega) nT_may
theorem new_nJ (w : World) : Calls Try.prog 14 #[.slice (some ⟨w.heap.size, 0, none⟩) 2 2] (w.alloc (.cells #[.string ⟨#[97]⟩, .int .i64 0, .int .i64 1, .bool false, .string ⟨#[97]⟩, .int .i64 8, .int .i64 1, .bool false] 67)) fun e w' => e = .returned (.tuple #[.pointer none, .int .i64 2]) ∧ Below (w.alloc (.cells #[.string ⟨#[97]⟩, .int .i64 0, .int .i64 1, .bool false, .string ⟨#[97]⟩, .int .i64 8, .int .i64 1, .bool false] 67)).heap.size (w.alloc (.cells #[.string ⟨#[97]⟩, .int .i64 0, .int .i64 1, .bool false, .string ⟨#[97]⟩, .int .i64 8, .int .i64 1, .bool false] 67)) w' :=
  new_no _ 2 2 [nJ, nJ2] _ (regs_lit2 w nJ nJ2 nJ_wf nJ2_wf) (by omega) (by omega) nJ_may
theorem new_nE (w : World) : Calls Try.prog 14 #[.slice none 0 0] w (NewPost [] 0 w) :=
  new_yes none 0 0 [] w ⟨rfl, by simp, fun h => absurd h (by omega)⟩ (by omega) (by omega) (by decide)
theorem nT_mem : ∀ r ∈ [nT], mayB r = true := mayL_mem nT_may
theorem st_nT {w : World} {p q : Nat} {A : Option Addr} {cap : Nat} (h : Mem_ w p q A 1 cap [nT] (fun _ => 0)) : Calls Try.prog 20 #[.pointer (some ⟨p, 0, none⟩), .int .u64 49144, .int .u64 1] w (StorePost q (storeF [nT] (fun _ => 0) 49144 1) 0 w) := by
  have := store_any 49144 1 w h nT_mem (by omega) (by omega) (by omega) (by omega)
  rw [nT_ask] at this
  exact this

set_option maxRecDepth 100000 in
set_option maxHeartbeats 4000000 in
theorem memNil_any (w : World) : Calls Try.prog 9 #[] w (Yes w) := by
  have hb' := Lib.hid (Below.refl w.heap.size w)
  go_enter Try.func9, Try.ntmps9
  go_wp2_with fail
  refine (region_lit ⟨#[97]⟩ 45056 512 _).mono ?_
  rintro e w1 ⟨rfl, b1⟩
  have hb' := Lib.hid (Below.next hb'.out b1)
  clear b1
  have hbA := Lib.hid ((Below.refl w1.heap.size w1).alloc (Nat.le_refl _) (.cells #[.string ⟨#[97]⟩, .int .i64 45056, .int .i64 512, .bool false] 67))
  have hb' := Lib.hid (Below.next hb'.out hbA.out)
  go_wp2_with fail
  refine (new_nT w1).mono ?_
  rintro e w2 ⟨p, q, B1, bc1, rfl, hM, u1, u2, u3, u4, b1⟩
  have hM' := Lib.hid hM
  have hqq : w.heap.size ≤ q := Nat.le_trans hb'.out.size u4
  have hb' := Lib.hid (Below.next hb'.out b1)
  clear hM b1 u1 u2 u3 u4
  go_wp2_with fail
  refine (region_lit ⟨#[97]⟩ 45064 512 _).mono ?_
  rintro e w3 ⟨rfl, b1⟩
  have hb' := Lib.hid (Below.next hb'.out b1)
  have hM' := Lib.hid (hM'.out.below b1)
  clear b1
  have hbA := Lib.hid ((Below.refl w3.heap.size w3).alloc (Nat.le_refl _) (.cells #[.string ⟨#[97]⟩, .int .i64 45064, .int .i64 512, .bool false] 67))
  have hb' := Lib.hid (Below.next hb'.out hbA.out)
  have hM' := Lib.hid (hM'.out.below hbA.out)
  go_wp2_with fail
  refine (new_nF w3).mono ?_
  rintro e w4 ⟨rfl, b1⟩
  have hb' := Lib.hid (Below.next hb'.out b1)
  have hM' := Lib.hid (hM'.out.below b1)
  clear b1
  go_wp2_with fail
  refine (region_lit ⟨#[97]⟩ (-8) 1 _).mono ?_
  rintro e w5 ⟨rfl, b1⟩
  have hb' := Lib.hid (Below.next hb'.out b1)
  have hM' := Lib.hid (hM'.out.below b1)
  clear b1
  have hbA := Lib.hid ((Below.refl w5.heap.size w5).alloc (Nat.le_refl _) (.cells #[.string ⟨#[97]⟩, .int .i64 (-8), .int .i64 1, .bool false] 67))
  have hb' := Lib.hid (Below.next hb'.out hbA.out)
  have hM' := Lib.hid (hM'.out.below hbA.out)
  go_wp2_with fail
  refine (new_nG w5).mono ?_
  rintro e w6 ⟨rfl, b1⟩
  have hb' := Lib.hid (Below.next hb'.out b1)
  have hM' := Lib.hid (hM'.out.below b1)
  clear b1
  go_wp2_with fail
  refine (region_lit ⟨#[97]⟩ 0 513 _).mono ?_
  rintro e w7 ⟨rfl, b1⟩
  have hb' := Lib.hid (Below.next hb'.out b1)
  have hM' := Lib.hid (hM'.out.below b1)
  clear b1
  have hbA := Lib.hid ((Below.refl w7.heap.size w7).alloc (Nat.le_refl _) (.cells #[.string ⟨#[97]⟩, .int .i64 0, .int .i64 513, .bool false] 67))
  have hb' := Lib.hid (Below.next hb'.out hbA.out)
  have hM' := Lib.hid (hM'.out.below hbA.out)
  go_wp2_with fail
  refine (new_nH w7).mono ?_
  rintro e w8 ⟨rfl, b1⟩
  have hb' := Lib.hid (Below.next hb'.out b1)
  have hM' := Lib.hid (hM'.out.below b1)
  clear b1
  go_wp2_with fail
  refine (region_lit ⟨#[]⟩ 0 1 _).mono ?_
  rintro e w9 ⟨rfl, b1⟩
  have hb' := Lib.hid (Below.next hb'.out b1)
  have hM' := Lib.hid (hM'.out.below b1)
  clear b1
  have hbA := Lib.hid ((Below.refl w9.heap.size w9).alloc (Nat.le_refl _) (.cells #[.string ⟨#[]⟩, .int .i64 0, .int .i64 1, .bool false] 67))
  have hb' := Lib.hid (Below.next hb'.out hbA.out)
  have hM' := Lib.hid (hM'.out.below hbA.out)
  go_wp2_with fail
  refine (new_nI w9).mono ?_
  rintro e w10 ⟨rfl, b1⟩
  have hb' := Lib.hid (Below.next hb'.out b1)
  have hM' := Lib.hid (hM'.out.below b1)
  clear b1
  go_wp2_with fail
  refine (region_lit ⟨#[97]⟩ 0 1 _).mono ?_
  rintro e w11 ⟨rfl, b1⟩
  have hb' := Lib.hid (Below.next hb'.out b1)
  have hM' := Lib.hid (hM'.out.below b1)
  clear b1
  go_wp2_with fail
  refine (region_lit ⟨#[97]⟩ 8 1 _).mono ?_
  rintro e w12 ⟨rfl, b1⟩
  have hb' := Lib.hid (Below.next hb'.out b1)
  have hM' := Lib.hid (hM'.out.below b1)
  clear b1
  have hbA := Lib.hid ((Below.refl w12.heap.size w12).alloc (Nat.le_refl _) (.cells #[.string ⟨#[97]⟩, .int .i64 0, .int .i64 1, .bool false, .string ⟨#[97]⟩, .int .i64 8, .int .i64 1, .bool false] 67))
  have hb' := Lib.hid (Below.next hb'.out hbA.out)
  have hM' := Lib.hid (hM'.out.below hbA.out)
  go_wp2_with fail
  refine (new_nJ w12).mono ?_
  rintro e w13 ⟨rfl, b1⟩
  have hb' := Lib.hid (Below.next hb'.out b1)
  have hM' := Lib.hid (hM'.out.below b1)
  clear b1
  go_wp2_with fail
  refine (region_lit ⟨#[97]⟩ 4611686018427387904 1 _).mono ?_
  rintro e w14 ⟨rfl, b1⟩
  have hb' := Lib.hid (Below.next hb'.out b1)
  have hM' := Lib.hid (hM'.out.below b1)
  clear b1
  have hbA := Lib.hid ((Below.refl w14.heap.size w14).alloc (Nat.le_refl _) (.cells #[.string ⟨#[97]⟩, .int .i64 4611686018427387904, .int .i64 1, .bool false] 67))
  have hb' := Lib.hid (Below.next hb'.out hbA.out)
  have hM' := Lib.hid (hM'.out.below hbA.out)
  go_wp2_with fail
  refine (new_nK w14).mono ?_
  rintro e w15 ⟨rfl, b1⟩
  have hb' := Lib.hid (Below.next hb'.out b1)
  have hM' := Lib.hid (hM'.out.below b1)
  clear b1
  go_wp2_with fail
  refine (new_nE _).mono ?_
  rintro e w16 ⟨p2, q2, B2, bc2, rfl, hE, u1, u2, u3, u4, b1⟩
  have hE' := Lib.hid hE
  have hb' := Lib.hid (Below.next hb'.out b1)
  have hpq : p2 ≠ q ∧ q2 ≠ q := by have := blk_lt hM'.out.hq; omega
  have hM' := Lib.hid (hM'.out.below b1)
  clear hE b1 u1 u2 u3 u4
  go_wp2_with fail
  refine (num_any _ _).mono ?_
  rintro e wn ⟨rfl, rfl⟩
  go_wp2_with fail
  refine (num_any _ _).mono ?_
  rintro e wn ⟨rfl, rfl⟩
  go_wp2_with fail
  refine (st_nT hM'.out).mono ?_
  rintro e wT ⟨rfl, hq, hg⟩
  have hE' := Lib.hid (hE'.out.other hg hM'.out.hq hpq.1 hpq.2)
  have hb' := Lib.hid (hb'.out.grown hg hb'.out.size (fun k e => by cases e; exact hqq))
  clear hq hg hM'
  go_wp2_with fail
  refine (num_any _ _).mono ?_
  rintro e wn ⟨rfl, rfl⟩
  go_wp2_with fail
  refine (num_any _ _).mono ?_
  rintro e wn ⟨rfl, rfl⟩
  go_wp2_with fail
  refine (num_any _ _).mono ?_
  rintro e wn ⟨rfl, rfl⟩
  go_wp2_with fail
  refine (num_any _ _).mono ?_
  rintro e wn ⟨rfl, rfl⟩
  go_wp2_with fail
  refine (num_any _ _).mono ?_
  rintro e wn ⟨rfl, rfl⟩
  go_wp2_with fail
  refine (num_any _ _).mono ?_
  rintro e wn ⟨rfl, rfl⟩
  go_wp2_with fail
  refine (num_any _ _).mono ?_
  rintro e wn ⟨rfl, rfl⟩
  go_wp2_with fail
  refine (nothing_any (.pointer none) _ (.inl rfl)).mono ?_
  rintro e wA ⟨rfl, b1⟩
  have hb' := Lib.hid (Below.next hb'.out b1)
  have hE' := Lib.hid (hE'.out.below b1)
  clear b1
  have hbA := Lib.hid ((Below.refl wA.heap.size wA).alloc (Nat.le_refl _) (.cells #[.slice none 0 0, .pointer none] 72))
  have hb' := Lib.hid (Below.next hb'.out hbA.out)
  have hE' := Lib.hid (hE'.out.below hbA.out)
  have hnt := Lib.hid (show NotThere (wA.alloc (.cells #[.slice none 0 0, .pointer none] 72)) (.pointer (some ⟨wA.heap.size, 0, none⟩)) from .inr ⟨_, rfl, heap_alloc_new wA _⟩)
  go_wp2_with fail
  refine (nothing_any _ _ hnt.out).mono ?_
  rintro e wB ⟨rfl, b1⟩
  have hb' := Lib.hid (Below.next hb'.out b1)
  have hE' := Lib.hid (hE'.out.below b1)
  clear b1
  go_wp2_with fail
  refine (same_tn _ hE'.out).mono ?_
  rintro e wC ⟨rfl, b1⟩
  have hb' := Lib.hid (Below.next hb'.out b1)
  clear b1
  go_wp2_with fail
  refine (known_any _).mono ?_
  rintro e wD ⟨rfl, b1⟩
  have hb' := Lib.hid (Below.next hb'.out b1)
  clear b1
  go_wp2
  go_ret
  exact ⟨rfl, hb'.out⟩
end Go.Proofs.Ytageahpgcjnkpaa
