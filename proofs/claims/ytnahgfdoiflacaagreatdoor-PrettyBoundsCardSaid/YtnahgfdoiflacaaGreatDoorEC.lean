/- A range over lines of statements. A program's lines: how long they are; a text that is being written line by line. The text of a program. -/
import Derived.Test.YtnahgfdoiflacaaGreatDoorDZ
import Derived.Test.YtnahgfdoiflacaaGreatDoorDN
import Derived.Test.YtnahgfdoiflacaaGreatDoorCH
import Derived.Deep.Cut
set_option linter.unusedSimpArgs false
set_option linter.unusedVariables false
namespace Go.Proofs.YtnahgfdoiflacaaGreatDoor
open Go.RowKit Go.Lib Go.Shelf

/-- what the iterator goes over -/
def iterL (L : List St) : List Ln := if mayT L then linesL 0 L else []
attribute [local go_sem] Oper.semAt_some
set_option maxRecDepth 100000 in
set_option maxHeartbeats 8000000 in
theorem iter81_any (w0 : World) (hE : Env w0) (L : List St) (A : Option Addr) (c : Nat) (hL : StsAt w0 L A) (hcn : cntSs L ≤ 30000) (l b : Nat) (W : World) (hW : Below w0.heap.size w0 W) (hbx : W.heap[b]? = some (.cells #[.slice A L.length c] 48 (0, 0)))
    (J : List Ln → World → Prop) (hJ : Grows J) (hY : YieldsL l (iterL L) J w0.heap.size W.heap.size) (hJ0 : J [] W) :
    Calls Tryz.prog 81 #[.func (.yield l) #[] #[], .pointer (some ⟨b, 0, none⟩)] W fun e W' => e = .returned (.tuple #[]) ∧ J (iterL L) W' ∧ Kp w0.heap.size W.heap.size W W' := by
  have hlt := blk_lt hbx
  obtain ⟨W1, hW1⟩ : ∃ W1, W.alloc (.cells #[.func (.yield l) #[] #[]] 71) = W1 := ⟨_, rfl⟩
  have hb1 : Below W.heap.size W W1 := by rw [← hW1]; exact (Below.refl _ W).alloc (Nat.le_refl _) _
  have hy1 : W1.heap[W.heap.size]? = some (.cells #[.func (.yield l) #[] #[]] 71 (0, 0)) := by rw [← hW1]; exact heap_alloc_new _ _
  have hx1 : W1.heap[b]? = some (.cells #[.slice A L.length c] 48 (0, 0)) := (hb1.block _ hlt).trans hbx
  have g0 : W1.cell? ⟨b, 0, none⟩ = some (.slice A L.length c) := by rw [blk_cell hx1]; rfl
  have hm := Lib.hid (mayStmts_any w0 L A hL c W1 hcn (hW.trans (hb1.mono hW.size)))
  have hW1' := Lib.hid hW1
  have hJ1 := Lib.hid (hJ _ _ _ hJ0 hb1)
  have hb1 := Lib.hid hb1
  have hy1 := Lib.hid hy1
  have hx1 := Lib.hid hx1
  have hW := Lib.hid hW
  have hL := Lib.hid hL
  have hJ := Lib.hid hJ
  obtain ⟨n, hn⟩ : ∃ n, L.length = n := ⟨_, rfl⟩
  have hn' := Lib.hid hn
  have hm2 := hm.out
  rw [hn] at g0 hm2
  have hm2 := Lib.hid hm2
  have hC1 : W.heap.size + 1 = W1.heap.size := by rw [← hW1]; simp
  clear hW1 hJ0 hbx hm hn
  cases hmt : mayT L with
  | false =>
    have hi : iterL L = [] := by unfold iterL; rw [hmt]; rfl
    have hm2 := hm2.out
    rw [hmt] at hm2
    rw [hi] at hY ⊢
    have hm2 := Lib.hid hm2
    clear hY hC1
    obtain rfl := hW1'.out
    go_enter Tryz.func81, Tryz.ntmps81
    go_wp2_with fail
    refine hm2.out.mono ?_
    rintro e w1 ⟨rfl, hb2⟩
    have hb2 := Lib.hid hb2
    go_wp2
    refine bodyPost_ret (results_none rfl _ _ _) rfl ?_
    exact ⟨rfl, hJ.out _ _ _ hJ1.out hb2.out, Kp.of_below hW.out.size (Below.next hb1.out hb2.out)⟩
  | true =>
    have hi : iterL L = linesL 0 L := by unfold iterL; rw [hmt]; rfl
    have hm2 := hm2.out
    rw [hmt] at hm2
    rw [hi] at hY ⊢
    have hm2 := Lib.hid hm2
    have hmy : maySs L = true := by
      unfold mayT at hmt
      rw [Bool.and_eq_true] at hmt
      exact hmt.2
    have hY := Lib.hid hY
    have hE := Lib.hid hE
    have hmy := Lib.hid hmy
    clear hmt hi
    obtain rfl := hW1'.out
    go_enter Tryz.func81, Tryz.ntmps81
    go_wp2_with fail
    refine hm2.out.mono ?_
    rintro e w1 ⟨rfl, hb2⟩
    obtain ⟨w2, hw2⟩ : ∃ w2, w1.alloc (.cells #[.func (.func 82) #[] #[.pointer (some ⟨W.heap.size, 0, none⟩), .pointer (some ⟨w1.heap.size, 0, none⟩)]] 61) = w2 := ⟨_, rfl⟩
    have hb3 : Below w1.heap.size w1 w2 := by rw [← hw2]; exact (Below.refl _ w1).alloc (Nat.le_refl _) _
    have hBw : Below W.heap.size W w2 := Below.next (Below.next hb1.out hb2) hb3
    have hx2 := (hb3.block _ (blk_lt ((hb2.block _ (blk_lt hx1.out)).trans hx1.out))).trans ((hb2.block _ (blk_lt hx1.out)).trans hx1.out)
    have hy2 := (hb3.block _ (blk_lt ((hb2.block _ (blk_lt hy1.out)).trans hy1.out))).trans ((hb2.block _ (blk_lt hy1.out)).trans hy1.out)
    have ht2 : w2.heap[w1.heap.size]? = some (.cells #[.func (.func 82) #[] #[.pointer (some ⟨W.heap.size, 0, none⟩), .pointer (some ⟨w1.heap.size, 0, none⟩)]] 61 (0, 0)) := by rw [← hw2]; exact heap_alloc_new _ _
    have hWs : W.heap.size ≤ w1.heap.size := (Below.next hb1.out hb2).size
    have hJ2 := hJ.out _ _ _ hJ1.out (Below.next hb2 hb3)
    have htl := tell_any w0 hE.out l W.heap.size w1.heap.size W.heap.size (Nat.le_refl _) hWs hW.out.size (linesL 0 L) J hJ.out hY.out L A hL.out 0 c w2 [] [] hcn hmy.out (by omega) (hW.out.trans (hBw.mono hW.out.size)) ⟨hy2, ht2⟩ (by simp) hJ2
    rw [hn'.out] at htl
    have htl := Lib.hid htl
    have g1 : w2.cell? ⟨b, 0, none⟩ = some (.slice A n c) := by rw [blk_cell hx2, hn'.out]; rfl
    have g2 : w2.cell? ⟨w1.heap.size, 0, none⟩ = some (.func (.func 82) #[] #[.pointer (some ⟨W.heap.size, 0, none⟩), .pointer (some ⟨w1.heap.size, 0, none⟩)]) := by rw [blk_cell ht2]; rfl
    have hBw := Lib.hid hBw
    have hw2' := Lib.hid hw2
    clear hb2 hb3 hx2 hy2 ht2 hJ2 g0 hw2
    obtain rfl := hw2'.out
    go_wp2_with fail
    refine htl.out.mono ?_
    rintro e w3 ⟨rfl, hJ3, hk3⟩
    have hJ3 := Lib.hid hJ3
    have hk3 := Lib.hid hk3
    clear g1 g2
    go_wp2
    go_end0
    exact ⟨rfl, by simpa using hJ3.out, (Kp.of_below hW.out.size hBw.out).trans hk3.out⟩

/-- how a round's body is left: the loop's own blocks stay, and all that the iterator made -/
def roundL (B C : Nat) (I : List Ln → World → Prop) (xs : List Ln) (W : World) : Exit → Act → World → Prop
  | .normal, _, W' => Kp B C W W' ∧ I xs W'
  | _, _, _ => False
theorem below_putO {B l : Nat} {W : World} (hl : B ≤ l) (o : Obj) : Below B W (W.putObj l o) :=
  ⟨rfl, rfl, rfl, by simp [World.putObj], fun k hk => World.putObj_heap_other (by omega)⟩
theorem kp_put {B C l : Nat} {W : World} (hB : B ≤ l) (hC : l < C) (o : Obj) : Kp B C W (W.putObj l o) :=
  ⟨below_putO hB o, fun k o' hk ho _ => (World.putObj_heap_other (by omega)).trans ho⟩
theorem wpIn_range_lines {g : Operand} {p q : Tmp} {assign body : Code} {Q : Exit → Act → World → Prop} {a : Act} {w : World} (w0 : World) (hE : Env w0) (L : List St) (A : Option Addr) (c b : Nat) (hL : StsAt w0 L A) (hcn : cntSs L ≤ 30000)
    (hw : Below w0.heap.size w0 w) (hbx : w.heap[b]? = some (.cells #[.slice A L.length c] 48 (0, 0)))
    (hg : a.eval g = .func (.func 81) #[] #[.pointer (some ⟨b, 0, none⟩)]) (I : List Ln → World → Prop)
    (hIg : ∀ xs W W', I xs W → w.heap.size ≤ W.heap.size → Below W.heap.size W W' → I xs W') (hIp : ∀ xs W l o o', I xs W → w.heap.size ≤ l → W.heap[l]? = some o → o.isCells = false → I xs (W.putObj l o')) (h0 : I [] w) (T : Ln → Array Value)
    (hassign : ∀ (l : Nat) (x : Ln) (W : World) (K : Act → World → Prop), K { tmps := T x, defers := [] } W →
      assign.wpIn (Fence.wide.inRound l) 7 Tryz.prog (Exit.then K (fun _ _ _ => False)) { tmps := (a.tmps.setIfInBounds p (.int .i64 (x.1 : Int))).setIfInBounds q (.string x.2), defers := [] } W)
    (hbody : ∀ (l : Nat) (pre : List Ln) (x : Ln) (rest : List Ln) (W : World), w.heap.size ≤ l → w.heap.size + 2 ≤ W.heap.size → I pre W → pre ++ x :: rest = iterL L → body.wpIn (Fence.wide.inRound l) 7 Tryz.prog (roundL w0.heap.size w.heap.size I (pre ++ [x]) W) { tmps := T x, defers := [] } W)
    (hdone : ∀ (D : Nat) (W : World), w.heap.size ≤ D → I (iterL L) W → W.heap[D]? = some (.deferred (some [])) → Q .normal { a with defers := { target := .collected D, args := #[] } :: a.defers } W) :
    (Code.rangeFunc g #[p, q] assign body).wpIn Fence.wide 8 Tryz.prog Q a w := by
  refine wpIn_rangeFunc fun fn hfn => ?_
  have hlp : ∃ R : LoopState → Option Code → Loop, ∀ st pe, R st pe = { state := st, pending := pe, fn := fn, tmps := a.tmps, params := #[p, q], assign := assign, body := body, defers := w.heap.size } := ⟨_, fun _ _ => rfl⟩
  obtain ⟨R, hR⟩ := hlp
  have hS1 : ((w.alloc (.deferred (some []))).alloc (.loop (R .ready none))).heap.size = w.heap.size + 2 := by simp
  have hD1 : ((w.alloc (.deferred (some []))).alloc (.loop (R .ready none))).heap[w.heap.size]? = some (.deferred (some [])) :=
    (heap_alloc_old _ _ (by simp)).trans (heap_alloc_new w _)
  have hL1 : ((w.alloc (.deferred (some []))).alloc (.loop (R .ready none))).heap[w.heap.size + 1]? = some (.loop (R .ready none)) := by
    have h := heap_alloc_new (w.alloc (.deferred (some []))) (.loop (R .ready none))
    have e : (w.alloc (.deferred (some []))).heap.size = w.heap.size + 1 := by simp
    rwa [e] at h
  have hB1 : Below w.heap.size w ((w.alloc (.deferred (some []))).alloc (.loop (R .ready none))) := ((Below.refl _ w).alloc (Nat.le_refl _) _).alloc (by simp) _
  have hI1 : I [] ((w.alloc (.deferred (some []))).alloc (.loop (R .ready none))) := hIg _ _ _ h0 (Nat.le_refl _) hB1
  generalize hW1 : (w.alloc (.deferred (some []))).alloc (.loop (R .ready none)) = W1 at hS1 hD1 hL1 hI1 hB1
  have hws := hw.size
  refine ⟨w.heap.size + 1, [{ target := .collected w.heap.size, args := #[] }], W1, { target := .fn (.func 81) #[.pointer (some ⟨b, 0, none⟩)], args := #[.func (.yield (w.heap.size + 1)) #[] #[]] }, W1, 81, #[.func (.yield (w.heap.size + 1)) #[] #[]] ++ #[.pointer (some ⟨b, 0, none⟩)], W1, ?_, ?_, ?_, ?_, fun _ => by decide, ?_⟩
  · rw [← hW1, hR]
    exact run_enterLoop_outer _ _ _ _ _
  · simp only [resolve, hg]
    simp [go_sem]
  · intro f' _
    exact trivial
  · simp [invoke, go_sem, enters_of Tryz.func81 (by kernel_rfl) rfl]
  · have hcall := iter81_any w0 hE L A c hL hcn (w.heap.size + 1) b W1 (hw.trans (hB1.mono hws)) ((hB1.block _ (blk_lt hbx)).trans hbx)
      (fun pre W => I pre W ∧ W.heap[w.heap.size + 1]? = some (.loop (R .ready none)) ∧ W.heap[w.heap.size]? = some (.deferred (some [])))
      (fun s W W' h hb => ⟨hIg _ _ _ h.1 (by have := blk_lt h.2.2; omega) hb, (hb.block _ (blk_lt h.2.1)).trans h.2.1, (hb.block _ (blk_lt h.2.2)).trans h.2.2⟩)
      ?round ⟨hI1, hL1, hD1⟩
    · refine (callsIn_wide.2 hcall).mono ?_
      rintro e W2 ⟨rfl, ⟨hi, hl, hd⟩, _⟩
      have hrun := run_endLoop (P := Tryz.prog) hl (by rw [hR]; simp)
      rw [show (R .ready none).pending = none by rw [hR]] at hrun
      exact ⟨none, _, hrun, hdone _ _ (Nat.le_refl _) (hIp _ _ _ _ _ hi (by omega) hl rfl) ((World.putObj_heap_other (by omega)).trans hd)⟩
    case round =>
      rintro pre x rest W ⟨hi, hl, hd⟩ hpre
      have hy := run_yield (P := Tryz.prog) (args := #[.int .i64 (x.1 : Int), .string x.2]) hl (by rw [hR]; rfl)
      rw [hR] at hy
      have hzip : ∀ (f : Array Value → Tmp × Value → Array Value), (#[p, q].zip #[Value.int .i64 (x.1 : Int), .string x.2]).foldl f a.tmps = f (f a.tmps (p, .int .i64 (x.1 : Int))) (q, .string x.2) := fun f => by simp
      dsimp only at hy
      rw [hzip] at hy
      refine ⟨fn, _, assign, body, hy, roundIn_of_wpIn hfn ?_⟩
      have hll : w.heap.size + 1 < W.heap.size := blk_lt hl
      refine hassign (w.heap.size + 1) x W _ ?_
      have hbeg := run_beginRound (P := Tryz.prog) hl (by rw [hR])
      refine ⟨_, hbeg, ?_⟩
      have hl2 : (W.putObj (w.heap.size + 1) (.loop { R .ready none with state := .busy })).heap[w.heap.size + 1]? = some (.loop { R .ready none with state := .busy }) := World.putObj_heap_same hll
      have hd2 : (W.putObj (w.heap.size + 1) (.loop { R .ready none with state := .busy })).heap[w.heap.size]? = some (.deferred (some [])) := (World.putObj_heap_other (by omega)).trans hd
      have hsz2 : (W.putObj (w.heap.size + 1) (.loop { R .ready none with state := .busy })).heap.size = W.heap.size := by simp [World.putObj]
      refine wpIn_mono (hbody (w.heap.size + 1) pre x rest _ (by omega) (by rw [hsz2]; omega) (hIp _ _ _ _ _ hi (by omega) hl rfl) hpre) fun e a3 W3 hp => ?_
      cases e with
      | normal =>
        obtain ⟨hk, hi3⟩ := hp
        have hl3 := hk.keep _ _ (by omega) hl2 (fun _ _ e => by cases e)
        have hd3 := hk.keep _ _ (Nat.le_refl _) hd2 (fun _ _ e => by cases e)
        have hend := run_endRound (P := Tryz.prog) none hl3
        refine ⟨_, _, hend, rfl, ⟨hIp _ _ _ _ _ hi3 (by omega) hl3 rfl, ?_, (World.putObj_heap_other (by omega)).trans hd3⟩, ?_⟩
        · rw [World.putObj_heap_same (blk_lt hl3)]
          simp only [hR]
          rfl
        · rw [hS1]
          exact ((kp_put (by omega) (by omega) _).trans ⟨hk.below, fun k o hk2 ho hn => hk.keep k o (by omega) ho hn⟩).trans (kp_put (by omega) (by omega) _)
      | ret => exact hp.elim
      | exit id => exact hp.elim
      | goto t => exact hp.elim
      | panic ch => exact hp.elim
      | outgrown => exact hp.elim
end Go.Proofs.YtnahgfdoiflacaaGreatDoor
namespace Go.Proofs.YtnahgfdoiflacaaGreatDoor
open Go.RowKit Go.Lib Go.Shelf

theorem itoaB_size {n : Int} (h0 : -9223372036854775808 ≤ n) (h1 : n ≤ 9223372036854775807) : (itoaB n).size ≤ 21 := by
  have e : (itoaB n).size = (Lib.itoa n).length := by
    rw [← size_list]
    rfl
  rw [e]
  unfold Lib.itoa
  split
  · have h := numT_len n.natAbs (by omega)
    rw [List.length_cons]
    have : (numT n.natAbs).data.toList = decDigits n.natAbs := rfl
    rw [this] at h
    omega
  · have h := numT_len n.toNat (by omega)
    have : (numT n.toNat).data.toList = decDigits n.toNat := rfl
    rw [this] at h
    omega
theorem secB_size (b : Bool) : (⟨(secT b).toArray⟩ : ByteArray).size ≤ 7 := by
  have h := secT_len b
  have e : (⟨(secT b).toArray⟩ : ByteArray).size = (secT b).length := by
    show (secT b).toArray.size = _
    simp
  omega
theorem varB_size {v : VarC} (h : VarOk v) : (varB v).size ≤ v.nm.size + 60 := by
  have s1 := itoaB_size h.1 h.2
  have s2 := secB_size v.sc
  have z1 : (⟨#[97, 114, 114, 97, 121, 32]⟩ : ByteArray).size = 6 := rfl
  have z2 : (⟨#[115, 116, 97, 99, 107, 32]⟩ : ByteArray).size = 6 := rfl
  have z3 : (⟨#[118, 97, 114, 32]⟩ : ByteArray).size = 4 := rfl
  have z4 : (⟨#[32]⟩ : ByteArray).size = 1 := rfl
  have z5 : (⟨#[59]⟩ : ByteArray).size = 1 := rfl
  unfold varB
  split
  · simp only [ByteArray.size_append]; omega
  · split
    · simp only [ByteArray.size_append]; omega
    · simp only [ByteArray.size_append]; omega
theorem regB_size {r : RegC} (h : RegOk r) : (regB r).size ≤ r.nm.size + 80 := by
  have s1 := itoaB_size h.1.1 h.1.2
  have s3 := itoaB_size h.2.1 h.2.2
  have s2 := secB_size r.sc
  have z1 : (⟨#[114, 101, 103, 105, 111, 110, 32]⟩ : ByteArray).size = 7 := rfl
  have z4 : (⟨#[32]⟩ : ByteArray).size = 1 := rfl
  have z5 : (⟨#[59]⟩ : ByteArray).size = 1 := rfl
  unfold regB
  simp only [ByteArray.size_append]
  omega
theorem paramB_size (v : VarC) : (paramB v).size ≤ v.nm.size + 7 := by
  have s2 := secB_size v.sc
  unfold paramB
  rw [ByteArray.size_append]
  omega
theorem sum_params : ∀ L : List VarC, ((L.map fun v => (paramB v).data.toList).map List.length).sum + 2 * L.length ≤ 9 * cntV L
  | [] => by simp
  | v :: L => by
    have h1 := sum_params L
    have h2 := paramB_size v
    have h3 := size_list (paramB v)
    rw [cntV]
    simp only [List.map_cons, List.sum_cons, List.length_cons]
    omega
theorem listP_size (L : List VarC) : (listT (L.map paramB)).size ≤ 9 * cntV L := by
  have h1 := join_len (L.map fun v => (paramB v).data.toList)
  have h2 := sum_params L
  rw [List.length_map] at h1
  have e : (listT (L.map paramB)).size = (Lib.join (L.map fun x => (paramB x).data.toList) [44, 32]).length := by rw [listT_size, List.map_map]; rfl
  omega
theorem fnB_size (f : Fn) : (fnB f).size ≤ 24 * cntF f + 100 := by
  have s1 := listP_size f.ps
  have s2 := listT_le f.rs
  have z1 : (⟨#[102, 110, 32]⟩ : ByteArray).size = 3 := rfl
  have z2 : (⟨#[40]⟩ : ByteArray).size = 1 := rfl
  have z3 : (⟨#[41]⟩ : ByteArray).size = 1 := rfl
  have z4 : (⟨#[32, 45, 62, 32]⟩ : ByteArray).size = 4 := rfl
  have z5 : (⟨#[32, 123]⟩ : ByteArray).size = 2 := rfl
  unfold cntF
  unfold fnB fnRt fnHd
  split
  · simp only [ByteArray.size_append]; omega
  · simp only [ByteArray.size_append]; omega
theorem vars_okL {L : List VarC} (h : ∀ v ∈ L, VarOk v) : LnsOk 1 (cntV L) (L.map fun v => (1, varB v)) := by
  induction L with
  | nil => exact LnsOk.nil _ _
  | cons v l ih =>
    rw [cntV, List.map_cons]
    have h1 := varB_size (h v List.mem_cons_self)
    exact LnsOk.app (l := [(1, varB v)]) ⟨by simp; omega, fun x hx => by
      obtain rfl := List.mem_singleton.1 hx
      exact ⟨by show 1 ≤ _; omega, by show (varB v).size ≤ _; omega⟩⟩ (ih fun u hu => h u (List.mem_cons_of_mem _ hu))
theorem LnsOk.wide {t n t' n' : Nat} {l : List Ln} (h : LnsOk t n l) (h1 : t + n ≤ t' + n') (h2 : n ≤ n') : LnsOk t' n' l :=
  ⟨by have := h.1; omega, fun x hx => by have := h.2 x hx; omega⟩
theorem linesF_ok {w : World} {f : Fn} {r : FnC} (h : FNow w f r) : LnsOk 1 (cntF f + 1) (linesF f) := by
  have h1 := fnB_size f
  have h2 := vars_okL h.vsK
  have h3 := linesL_ok h.bdA 1
  have z : endB.size = 1 := rfl
  have hc : cntF f = 1 + f.nm.size + cntV f.ps + cntV f.vs + cntN f.rs + cntSs f.bd := rfl
  unfold linesF
  refine ⟨?_, fun x hx => ?_⟩
  · have := h2.1
    have := h3.1
    simp only [List.length_cons, List.length_append, List.length_nil]
    omega
  · rcases List.mem_cons.1 hx with rfl | hx
    · exact ⟨by show 0 ≤ _; omega, by show (fnB f).size ≤ _; omega⟩
    · rw [List.mem_append, List.mem_append] at hx
      rcases hx with hx | hx | hx
      · have := h2.2 x hx; omega
      · have := h3.2 x hx; omega
      · obtain rfl := List.mem_singleton.1 hx
        exact ⟨by show 0 ≤ _; omega, by show endB.size ≤ _; omega⟩
theorem linesFs_ok {w : World} : ∀ {L : List Fn} {A : Option Addr}, FnsAt w L A → LnsOk 1 (cntFs L + L.length) (linesFs L) := by
  intro L A h
  obtain ⟨R, hR, hl, hx⟩ := h
  have h2 : ∀ (i : Nat) (f : Fn), L[i]? = some f → LnsOk 1 (cntF f + 1) (linesF f) := fun i f hf => by
    have hi := (List.getElem?_eq_some_iff.1 hf).1
    exact linesF_ok (hx i f _ hf (List.getElem?_eq_getElem (by omega)))
  clear hx hl hR
  induction L with
  | nil => exact LnsOk.nil _ _
  | cons f l ih =>
    have e : linesFs (f :: l) = linesF f ++ linesFs l := by simp [linesFs]
    rw [e, cntFs]
    exact ((h2 0 f rfl).app (ih fun i g hg => h2 (i + 1) g hg)).wide (by rw [List.length_cons]; omega) (by rw [List.length_cons]; omega)
theorem regs_okL {L : List RegC} (h : ∀ v ∈ L, RegOk v) : LnsOk 1 (cntR L) (L.map fun r => (0, regB r)) := by
  induction L with
  | nil => exact LnsOk.nil _ _
  | cons v l ih =>
    rw [cntR, List.map_cons]
    have h1 := regB_size (h v List.mem_cons_self)
    exact LnsOk.app (l := [(0, regB v)]) ⟨by simp; omega, fun x hx => by
      obtain rfl := List.mem_singleton.1 hx
      exact ⟨by show 0 ≤ _; omega, by show (regB v).size ≤ _; omega⟩⟩ (ih fun u hu => h u (List.mem_cons_of_mem _ hu))
theorem linesP_ok {w : World} {p : Pg} {B : Option Addr} (hr : ∀ r ∈ p.rs, RegOk r) (hf : FnsAt w p.fs B) : LnsOk 1 (cntP p) (linesP p) :=
  ((regs_okL hr).app (linesFs_ok hf)).wide (by unfold cntP; omega) (by unfold cntP; omega)
/-- what is written of a program's lines is not much -/
theorem part_len {w : World} {p : Pg} {B : Option Addr} (hr : ∀ r ∈ p.rs, RegOk r) (hf : FnsAt w p.fs B) (hc : cntP p ≤ 30000) {pre rest : List Ln} (h : pre ++ rest = linesP p) : (textL pre).length ≤ 100000000000 := by
  have ho := linesP_ok hr hf
  have h1 := textL_len 30001 720100 pre (fun x hx => by have := ho.2 x (by rw [← h]; exact List.mem_append_left _ hx); omega)
  have h2 : pre.length ≤ 90000 := by
    have := ho.1
    rw [← h, List.length_append] at this
    omega
  have h3 : pre.length * (30001 + 720100 + 1) ≤ 90000 * (30001 + 720100 + 1) := Nat.mul_le_mul_right _ h2
  omega
theorem line_part {w : World} {p : Pg} {B : Option Addr} (hr : ∀ r ∈ p.rs, RegOk r) (hf : FnsAt w p.fs B) (hc : cntP p ≤ 30000) {pre rest : List Ln} {x : Ln} (h : pre ++ x :: rest = linesP p) :
    x.1 ≤ 1000000 ∧ (Lib.byteCells (textL pre)).length + x.1 + x.2.size ≤ 1000000000000 := by
  have ho := linesP_ok hr hf
  have h1 := part_len hr hf hc h
  have h2 := ho.2 x (by rw [← h]; simp)
  rw [Lib.byteCells_length]
  omega
/-- a text under way -/
structure TxI (w : World) (b : Nat) (pv : Obj) (ls : List Ln) (Ds : List Nat) (W : World) : Prop where
  bd : Lib.IsBuilder 87 5 w.heap.size b (Lib.byteCells (textL ls)) W
  bel : Below w.heap.size w W
  mr : ∀ D ∈ Ds, W.heap[D]? = some (.deferred (some []))
  nd : Ds.Nodup
  lo : ∀ D ∈ Ds, w.heap.size ≤ D
  bx : W.heap[w.heap.size]? = some pv
  fn : W.heap[b + 1]? = some (.cells #[.func (.func 50) #[] #[.pointer (some ⟨b, 0, none⟩)]] 93 (0, 0))
theorem TxI.go {w W W' : World} {b : Nat} {pv : Obj} {ls : List Ln} {Ds : List Nat} (h : TxI w b pv ls Ds W) (hb : Below W.heap.size W W') : TxI w b pv ls Ds W' :=
  ⟨IsBuilder.go h.bd hb, Below.next h.bel hb, fun D hD => (hb.block D (blk_lt (h.mr D hD))).trans (h.mr D hD), h.nd, h.lo, (hb.block _ (blk_lt h.bx)).trans h.bx, (hb.block _ (blk_lt h.fn)).trans h.fn⟩
/-- a line more -/
theorem TxI.line {w W W' : World} {b : Nat} {c1 c2 : Value} {ls : List Ln} {Ds : List Nat} {t : Nat} {s : ByteArray} (hwb : w.heap.size < b) (h : TxI w b (.cells #[c1, c2] 39 (0, 0)) ls Ds W)
    (hq : Lib.BuilderAt 87 5 w.heap.size b (.pointer (some ⟨b, 0, none⟩)) (Lib.byteCells (textL ls) ++ Lib.strCells (lineT t s)) W' ∧ Below w.heap.size W W' ∧ Hold b W W') : TxI w b (.cells #[c1, c2] 39 (0, 0)) (ls ++ [(t, s)]) Ds W' := by
  obtain ⟨h1, h2, h3⟩ := hq
  have e : Lib.byteCells (textL ls) ++ Lib.strCells (lineT t s) = Lib.byteCells (textL (ls ++ [(t, s)])) := by
    rw [strCells_eq, ← Lib.byteCells_append, textL_app, textL_one]
  rw [e] at h1
  obtain ⟨cs, hcs⟩ := IsBuilder.cells h.bd
  refine ⟨.inr h1, h.bel.trans h2, fun D hD => h3.2 D _ ?_ (h.mr D hD) (fun _ _ e => by cases e), h.nd, h.lo, h3.2 _ _ (by omega) h.bx (fun _ _ e => by cases e), h3.2 _ _ (by omega) h.fn (fun _ _ e => by cases e)⟩
  rintro rfl
  have := h.mr _ hD
  rw [hcs] at this
  cases this
theorem TxI.cell {w W : World} {b : Nat} {c1 c2 : Value} {ls : List Ln} {Ds : List Nat} (h : TxI w b (.cells #[c1, c2] 39 (0, 0)) ls Ds W) :
    W.cell? ⟨w.heap.size, 0, none⟩ = some c1 ∧ W.cell? ⟨w.heap.size, 1, none⟩ = some c2 ∧ W.cell? ⟨b + 1, 0, none⟩ = some (.func (.func 50) #[] #[.pointer (some ⟨b, 0, none⟩)]) :=
  ⟨by rw [blk_cell h.bx]; rfl, by rw [blk_cell h.bx]; rfl, by rw [blk_cell h.fn]; rfl⟩
def intOf : Value → Int
  | .int _ n => n
  | _ => 0
end Go.Proofs.YtnahgfdoiflacaaGreatDoor
namespace Go.Proofs.YtnahgfdoiflacaaGreatDoor
open Go.RowKit Go.Lib Go.Shelf

/-- what Text answers -/
def textM (p : Pg) : ByteArray × Int := if mayPg p then (shortT (textP p), shortN (textP p)) else (⟨#[]⟩, 2)
def TextPost (p : Pg) (W : World) (e : Ending) (w' : World) : Prop := e = .returned (.tuple #[.string (textM p).1, .int .i64 (textM p).2]) ∧ Below W.heap.size W w'
/-- lines behind a tab more -/
def upL (l : List Ln) : List Ln := l.map fun x => (x.1 + 1, x.2)
theorem upL_app (l m : List Ln) : upL (l ++ m) = upL l ++ upL m := by simp [upL]
theorem up_lines : ∀ (n : Nat) (L : List St), cntSs L ≤ n → ∀ t, linesL (t + 1) L = upL (linesL t L) := by
  intro n
  induction n with
  | zero =>
    intro L hc t
    cases L with
    | nil => rw [linesL_nil, linesL_nil]; rfl
    | cons y l => rw [cntSs] at hc; have := cntS_pos y; omega
  | succ n ih =>
    intro L hc t
    cases L with
    | nil => rw [linesL_nil, linesL_nil]; rfl
    | cons y l =>
      rw [cntSs] at hc
      have hp := cntS_pos y
      have hb := cntS_bd y
      rw [linesL, linesL, upL_app, ih l (by omega) t, linesS_eq, linesS_eq]
      congr 1
      cases hf : flatK y.kd with
      | true => rfl
      | false =>
        simp only [Bool.false_eq_true, if_false]
        rw [ih y.bd (by omega) (t + 1)]
        cases he : y.el.isEmpty with
        | true => simp [upL]
        | false => simp only [Bool.false_eq_true, if_false]; rw [ih y.el (by omega) (t + 1)]; simp [upL]
theorem arr_open {n : Nat} {tm : Array Value} (h : tm.size = n) : ∃ l : List Value, tm = l.toArray ∧ l.length = n := ⟨tm.toList, by simp, by simpa using h⟩
theorem list_open {n : Nat} {l : List Value} (h : l.length = n + 1) : ∃ x r, l = x :: r ∧ r.length = n := by
  cases l with
  | nil => cases h
  | cons x r => exact ⟨x, r, rfl, by simpa using h⟩
theorem param_anyB (v : VarC) (W : World) (hv : v.nm.size ≤ 1000000000000) : Calls Tryz.prog 56 #[vlV v] W (StrPost (paramB v) W) := param_any v W hv
theorem var59_any (v : VarC) (W : World) (hE : Env W) (hn : v.nm.size ≤ 30000) (h : VarOk v) (hm : mayVr v = true) : Calls Tryz.prog 59 #[vlV v] W (StrPost (varB v) W) := by
  have hl := itoaB_size h.1 h.2
  unfold mayVr at hm
  simp only [Bool.and_eq_true, Bool.or_eq_true, beq_iff_eq] at hm
  obtain ⟨nm, kd, sz, sc⟩ := v
  dsimp only at *
  obtain ⟨_, ⟨hk | hk, _⟩ | ⟨hk, _⟩⟩ := hm
  · subst hk; exact var2_any nm sz sc W hE hn h.1 h.2 (by omega)
  · subst hk; exact var3_any nm sz sc W hE hn h.1 h.2 (by omega)
  · subst hk; exact var1_any nm sz sc W hE hn h.1 h.2 (by omega)
theorem pu_builder {B b l : Nat} {bs : List Value} {W : World} {o : Obj} (h : Lib.IsBuilder 87 5 B b bs W) (hl : W.heap[l]? = some o) (ho : o.isCells = false) (o' : Obj) : Lib.IsBuilder 87 5 B b bs (W.putObj l o') := IsBuilder.pu h hl ho o'
theorem TxI.pu {w W : World} {b l : Nat} {c1 c2 : Value} {ls : List Ln} {Ds : List Nat} {o : Obj} (h : TxI w b (.cells #[c1, c2] 39 (0, 0)) ls Ds W) (hw : w.heap.size ≤ l) (hDs : ∀ D ∈ Ds, D ≠ l) (hl : W.heap[l]? = some o) (ho : o.isCells = false) (o' : Obj) :
    TxI w b (.cells #[c1, c2] 39 (0, 0)) ls Ds (W.putObj l o') := by
  have n1 : w.heap.size ≠ l := by rintro e; have := h.bx; rw [e, hl] at this; cases this; cases ho
  have n2 : b + 1 ≠ l := by rintro e; have := h.fn; rw [e, hl] at this; cases this; cases ho
  exact ⟨IsBuilder.pu h.bd hl ho o', below_put h.bel hw o', fun D hD => (World.putObj_heap_other (hDs D hD)).trans (h.mr D hD), h.nd, h.lo, (World.putObj_heap_other n1).trans h.bx, (World.putObj_heap_other n2).trans h.fn⟩
attribute [local go_sem] Oper.semAt_some

set_option maxRecDepth 100000 in
set_option maxHeartbeats 32000000 in
theorem text19_any (w0 : World) (hE : Env w0) (p : Pg) (A B : Option Addr) (c d : Nat) (hr : CellsAt 4 cellsR w0 p.rs A) (hf : FnsAt w0 p.fs B) (hrk : ∀ q ∈ p.rs, RegOk q) (W : World) (hW : Below w0.heap.size w0 W) (hcp : cntP p ≤ 30000) :
    Calls Tryz.prog 19 #[pgV p A c B d] W (TextPost p W) := by
  obtain ⟨W1, hW1⟩ : ∃ W1, W.alloc (.cells #[.slice A p.rs.length c, .slice B p.fs.length d] 39) = W1 := ⟨_, rfl⟩
  have hb1 : Below W.heap.size W W1 := by rw [← hW1]; exact (Below.refl _ W).alloc (Nat.le_refl _) _
  have hx1 : W1.heap[W.heap.size]? = some (.cells #[.slice A p.rs.length c, .slice B p.fs.length d] 39 (0, 0)) := by rw [← hW1]; exact heap_alloc_new _ _
  have hm := may20_any w0 p A B c d hr hf W1 (hW.trans (hb1.mono hW.size)) hcp
  unfold pgV at hm ⊢
  unfold TextPost textM
  have hlen := part_len hrk hf hcp (pre := linesP p) (rest := []) (by simp)
  have hlp := fun (pre rest : List Ln) (x : Ln) => @line_part w0 p B hrk hf hcp pre rest x
  have hcp0 := hcp
  unfold cntP at hcp
  have hme : mayPg p = true → (∀ r ∈ p.rs, mayRg r = true) ∧ ∀ f ∈ p.fs, mayFn f = true := fun h => by
    unfold mayPg at h
    simpa only [Bool.and_eq_true, List.all_eq_true] using h
  obtain ⟨n1, hn1⟩ : ∃ n, p.rs.length = n := ⟨_, rfl⟩
  obtain ⟨n2, hn2⟩ : ∃ n, p.fs.length = n := ⟨_, rfl⟩
  rw [hn1, hn2] at hm hx1 hW1 ⊢
  have hn1b : n1 ≤ 30000 := by omega
  have hn2b : n2 ≤ 30000 := by omega
  have hcf := Lib.hid (show cntFs p.fs ≤ 30000 by omega)
  have hcr := Lib.hid (show cntR p.rs ≤ 30000 by omega)
  have hn1' := Lib.hid hn1
  have hn2' := Lib.hid hn2
  have hm := Lib.hid hm
  have hlen := Lib.hid hlen
  have hlp := Lib.hid hlp
  have hme := Lib.hid hme
  have hr := Lib.hid hr
  have hf := Lib.hid hf
  have hrk := Lib.hid hrk
  have hE := Lib.hid hE
  have hW := Lib.hid hW
  have hW1' := Lib.hid hW1
  have hx1 := Lib.hid hx1
  have hb1 := Lib.hid hb1
  clear hcp hcp0 hn1 hn2 hW1
  refine (callsIn_wide (n := 8)).1 (callsIn_of_wp_marks Tryz.func19 rfl trivial ?_ rfl)
  simp only [Tryz.ntmps19, List.size_toArray, List.length_cons, List.length_nil, Nat.reduceAdd, Nat.reduceSub, Array.replicate_succ, Array.replicate_zero, List.push_toArray, List.append_toArray, List.nil_append, List.cons_append]
  refine wpIn_wide.2 ?_
  obtain rfl := hW1'.out
  go_wp2_with fail
  refine hm.out.mono ?_
  rintro e w1 ⟨rfl, hbm⟩
  have hxm := (hbm.block W.heap.size (blk_lt hx1.out)).trans hx1.out
  have hbW := Below.next hb1.out hbm
  cases hmp : mayPg p with
  | false =>
    have hbW := Lib.hid hbW
    clear hxm hbm
    go_wp2_with fail
    all_goals first | exact leaves_marks [] _ (fun D hD => by cases hD) List.nodup_nil ⟨_, by simp [results, Tryz.f19, go_sem], rfl, hbW.out⟩ | exact ⟨_, by simp [results, Tryz.f19, go_sem], rfl, hbW.out⟩ | trace_state
  | true =>
    obtain ⟨hmr, hmf⟩ := hme.out hmp
    simp only [if_true]
    have hmr := Lib.hid hmr
    have hmf := Lib.hid hmf
    obtain ⟨w2, hw2⟩ : ∃ w2, ((w1.alloc (.cells #[.pointer none, .slice none 0 0] 87)).alloc (.cells #[.func (.func 50) #[] #[.pointer (some ⟨w1.heap.size, 0, none⟩)]] 93)) = w2 := ⟨_, rfl⟩
    have hb2 : Below w1.heap.size w1 w2 := by rw [← hw2]; exact ((Below.refl _ w1).alloc (Nat.le_refl _) _).alloc (by simp) _
    have hx2 := (hb2.block _ (blk_lt hxm)).trans hxm
    have hbu : w2.heap[w1.heap.size]? = some (.cells #[.pointer none, .slice none 0 0] 87 (0, 0)) := by
      rw [← hw2, heap_alloc_old _ _ (by simp)]; exact heap_alloc_new w1 _
    have hfn : w2.heap[w1.heap.size + 1]? = some (.cells #[.func (.func 50) #[] #[.pointer (some ⟨w1.heap.size, 0, none⟩)]] 93 (0, 0)) := by
      have h := heap_alloc_new (w1.alloc (.cells #[.pointer none, .slice none 0 0] 87)) (.cells #[.func (.func 50) #[] #[.pointer (some ⟨w1.heap.size, 0, none⟩)]] 93)
      have e : (w1.alloc (.cells #[.pointer none, .slice none 0 0] 87)).heap.size = w1.heap.size + 1 := by simp
      rw [e, hw2] at h
      exact h
    have hwl : W.heap.size < w1.heap.size := blk_lt hxm
    have hI2 : TxI W w1.heap.size (.cells #[.slice A n1 c, .slice B n2 d] 39 (0, 0)) [] [] w2 :=
      ⟨.inl ⟨by omega, _, hbu, World.ownsRow_nil _ _ _ _, by simp [Value.ownBlock]⟩, Below.next hbW hb2, (fun D hD => by cases hD), List.nodup_nil, (fun D hD => by cases hD), hx2, hfn⟩
    obtain ⟨b, hb⟩ : ∃ b, w1.heap.size = b := ⟨_, rfl⟩
    rw [hb] at hw2 hI2 hwl
    obtain ⟨y0, y1, y2⟩ := hI2.cell
    have hI2 := Lib.hid hI2
    have hw2' := Lib.hid hw2
    have hwb := Lib.hid hwl
    clear hbu hfn hx2 hb2 hxm hbm hbW hx1 hb1 hm hme hwl
    have hb' := Lib.hid hb
    go_wp2_with fail
    go_loopg [22] n1 (fun g s22 wr => ∃ k : Nat, k + g = n1 ∧ s22 = .int .i64 k ∧ TxI W b (.cells #[.slice A n1 c, .slice B n2 d] 39 (0, 0)) ((p.rs.take k).map fun r => (0, regB r)) [] wr)
    case atStart => exact ⟨0, by omega, rfl, by first | exact hI2.out | (rw [hw2'.out]; exact hI2.out) | (have e := hw2'.out; subst e; exact hI2.out)⟩
    case round =>
      obtain ⟨k, hkg, rfl, hI⟩ := hrel
      have hI := Lib.hid hI
      cases gk with
      | succ g2 =>
        clear y0 y1 y2
        have e0 : (k : Int) < (n1 : Int) := by omega
        have hbw := Lib.hid (hW.out.trans (hI.out.bel.mono hW.out.size))
        obtain ⟨blk, off, r, rfl, hx, hcx⟩ := (hr.out).at_ (i := k) (by rw [hn1'.out]; omega)
        have hrok := hrk.out r (List.mem_of_getElem? hx)
        have hrm := hmr.out r (List.mem_of_getElem? hx)
        have hnz : r.nm.size ≤ 30000 := by have := cntR_mem hx; have := hcr.out; omega
        have hsz1 := itoaB_size hrok.1.1 hrok.1.2
        have hsz2 := itoaB_size hrok.2.1 hrok.2.2
        have hsz3 := secB_size r.sc
        have hTs := regB_size hrok
        have hnxt : (p.rs.take (k + 1)).map (fun r => ((0, regB r) : Ln)) = (p.rs.take k).map (fun r => ((0, regB r) : Ln)) ++ [(0, regB r)] := by
          rw [List.take_add_one, hx, List.map_append]; rfl
        have hsplit : (p.rs.take k).map (fun r => ((0, regB r) : Ln)) ++ (0, regB r) :: ((p.rs.drop (k + 1)).map (fun r => ((0, regB r) : Ln)) ++ linesFs p.fs) = linesP p := by
          unfold linesP
          have hk : k < p.rs.length := (List.getElem?_eq_some_iff.1 hx).1
          have e : p.rs = p.rs.take k ++ (r :: p.rs.drop (k + 1)) := by
            have h2 : p.rs.drop k = r :: p.rs.drop (k + 1) := by
              rw [List.drop_eq_getElem_cons hk]
              congr 1
              exact Option.some.inj ((List.getElem?_eq_getElem hk).symm.trans hx)
            rw [← h2, List.take_append_drop]
          conv => rhs; rw [e]
          simp
        have hbd := hlp.out _ _ _ hsplit
        have hreg : regB r = (⟨#[114, 101, 103, 105, 111, 110, 32]⟩ : ByteArray) ++ r.nm ++ ⟨#[32]⟩ ++ itoaB r.ad ++ ⟨#[32]⟩ ++ itoaB r.sz ++ ⟨(secT r.sc).toArray⟩ ++ ⟨#[59]⟩ := rfl
        have v0 : w0.cell? ⟨blk, off + k * 4, none⟩ = some (.string r.nm) := hcx 0 (by omega)
        have v0 := (hbw.out.cell (p := ⟨blk, off + k * 4, none⟩) (cell_some_lt v0)).trans v0
        have v1 : w0.cell? ⟨blk, off + k * 4 + 1, none⟩ = some (.int .i64 r.ad) := hcx 1 (by omega)
        have v1 := (hbw.out.cell (p := ⟨blk, off + k * 4 + 1, none⟩) (cell_some_lt v1)).trans v1
        have v2 : w0.cell? ⟨blk, off + k * 4 + 2, none⟩ = some (.int .i64 r.sz) := hcx 2 (by omega)
        have v2 := (hbw.out.cell (p := ⟨blk, off + k * 4 + 2, none⟩) (cell_some_lt v2)).trans v2
        have v3 : w0.cell? ⟨blk, off + k * 4 + 3, none⟩ = some (.bool r.sc) := hcx 3 (by omega)
        have v3 := (hbw.out.cell (p := ⟨blk, off + k * 4 + 3, none⟩) (cell_some_lt v3)).trans v3
        obtain ⟨nm, ad, sz, sc⟩ := r
        dsimp only at *
        obtain ⟨⟨o1, o2⟩, o3, o4⟩ := hrok
        dsimp only at o1 o2 o3 o4
        obtain ⟨w3, hw3⟩ : ∃ w3, wr.alloc (.cells #[.string nm, .int .i64 ad, .int .i64 sz, .bool sc] 82) = w3 := ⟨_, rfl⟩
        have hb3 : Below wr.heap.size wr w3 := by rw [← hw3]; exact (Below.refl _ wr).alloc (Nat.le_refl _) _
        have hX : w3.heap[wr.heap.size]? = some (.cells #[.string nm, .int .i64 ad, .int .i64 sz, .bool sc] 82 (0, 0)) := by rw [← hw3]; exact heap_alloc_new _ _
        obtain ⟨q0, q1, q2, q3, _⟩ := box4 hX
        have hI3 := hI.out.go hb3
        obtain ⟨y0, y1, y2c⟩ := hI3.cell
        have hE3 := hE.out.below (hW.out.trans (hI3.bel.mono hW.out.size))
        have h54a := Lib.hid (fun s : Sub w3 => itoa_any ad o1 o2 s.val (hE3.below s.property))
        have h54b := Lib.hid (fun s : Sub w3 => itoa_any sz o3 o4 s.val (hE3.below s.property))
        have hsz : ((⟨#[114, 101, 103, 105, 111, 110, 32]⟩ : ByteArray) ++ nm ++ ⟨#[32]⟩ ++ itoaB ad ++ ⟨#[32]⟩ ++ itoaB sz).size ≤ 1000000 := by
          have z1 : (⟨#[114, 101, 103, 105, 111, 110, 32]⟩ : ByteArray).size = 7 := rfl
          have z2 : (⟨#[32]⟩ : ByteArray).size = 1 := rfl
          simp only [ByteArray.size_append]
          omega
        have h53 := fun s : Sub w3 => secret_any ((⟨#[114, 101, 103, 105, 111, 110, 32]⟩ : ByteArray) ++ nm ++ ⟨#[32]⟩ ++ itoaB ad ++ ⟨#[32]⟩ ++ itoaB sz) sc s.val (by omega)
        unfold txA itoaB at h53
        unfold itoaB at *
        generalize (⟨(Lib.itoa ad).toArray⟩ : ByteArray) = I1 at *
        generalize (⟨(Lib.itoa sz).toArray⟩ : ByteArray) = I2 at *
        generalize (⟨(secT sc).toArray⟩ : ByteArray) = Z at *
        obtain ⟨T, hTT⟩ : ∃ T, regB ⟨nm, ad, sz, sc⟩ = T := ⟨_, rfl⟩
        rw [hTT] at hreg hbd hnxt
        have hT := hreg.symm
        have h53 := Lib.hid h53
        have hI3 := Lib.hid hI3
        have hX := Lib.hid hX
        have hbd := Lib.hid hbd
        have hnxt := Lib.hid hnxt
        have hw3' := Lib.hid hw3
        clear hreg hsplit hcx hx hrm hE3 hb3 hw3 o1 o2 o3 o4 hTs hTT hsz
        go_wp2_with fail
        clear v0 v1 v2 v3
        first | rw [hw3'.out] | skip
        have c0 := Sub.cell q0
        have c1 := Sub.cell q1
        have c2 := Sub.cell q2
        have c3 := Sub.cell q3
        have c4 := Sub.cell y2c
        refine wp_region_below_tail 18 (by kernel_rfl) (by kernel_rfl) ?_
        simp only [List.take_succ_cons, List.take_zero, List.drop_succ_cons, List.drop_zero]
        repeat (go_big_quiet_step ((first | (go_at_call 54; with_reducible exact Sub.call (h54a.out _)) | (go_at_call 54; with_reducible exact Sub.call (h54b.out _)) | (go_at_call 53; with_reducible exact Sub.call (h53.out _)))))
        refine wpQuiet_nil ?_
        rintro w4 ⟨s4, hs4⟩
        have hb4 := hs4 ▸ s4.property
        clear hs4 s4 q0 q1 q2 q3 c0 c1 c2 c3 c4 y0 y1 y2c
        have hI4 := Lib.hid (hI3.out.go hb4)
        clear hb4
        have hln := Lib.hid (line_any W.heap.size b _ 0 T w4 hI4.out.bd (by decide) hbd.out.2 hI4.out.bel.size)
        go_wp2_with fail
        refine hln.out.mono ?_
        rintro e w5 ⟨rfl, hq⟩
        have hI5 := Lib.hid (TxI.line hwb.out hI4.out hq)
        clear hq hln
        go_wp2
        go_roundg g2
        case measure => omega
        case rel => exact ⟨k + 1, by omega, by go_num, by rw [hnxt.out]; exact hI5.out⟩
      | zero =>
        clear y0 y1 y2
        have e0 : ¬ (k : Int) < (n1 : Int) := by omega
        have hfin := Lib.hid (show p.rs.take k = p.rs by rw [List.take_of_length_le (by rw [hn1'.out]; omega)])
        have hI0 := hI.out
        rw [hfin.out] at hI0
        obtain ⟨y0, y1, y2⟩ := hI0.cell
        have hI0 := Lib.hid hI0
        clear hI hfin hI2 hw2'
        obtain ⟨RL, hRL⟩ : ∃ RL, p.rs.map (fun r => ((0, regB r) : Ln)) = RL := ⟨_, rfl⟩
        have hI0 := hI0.out
        rw [hRL] at hI0
        have hI0 := Lib.hid hI0
        have hRL := Lib.hid hRL
        go_wp2_with fail
        clear y0 y1 y2
        refine (wpIn_wide (n := 8)).1 (wpIn_loop (fun a' V => ∃ (i : Nat) (Ds : List Nat) (tm : Array Value), i ≤ n2 ∧ TxI W b (.cells #[.slice A n1 c, .slice B n2 d] 39 (0, 0)) (RL ++ linesFs (p.fs.take i)) Ds V ∧ tm.size = 105 ∧
          tm[1]? = some (.pointer (some ⟨W.heap.size, 0, none⟩)) ∧ tm[4]? = some (.pointer (some ⟨b, 0, none⟩)) ∧ tm[5]? = some (.pointer (some ⟨b + 1, 0, none⟩)) ∧ tm[47]? = some (.slice B n2 d) ∧ tm[48]? = some (.int .i64 n2) ∧ tm[49]? = some (.int .i64 i) ∧ a' = { tmps := tm, defers := mks Ds })
          (fun a' V => n2 - (intOf (a'.tmps.getD 49 undef)).toNat) ⟨0, [], _, Nat.zero_le _, by simpa [linesFs] using hI0.out, rfl, rfl, rfl, rfl, rfl, rfl, rfl, rfl⟩ ?_)
        rintro _ wr2 ⟨i, Ds, tm, hi, hI, hsz, h1, h4, h5, h47, h48, h49, rfl⟩
        clear hI0 hkg e0
        obtain ⟨l, hl0, hz0⟩ := arr_open hsz
        subst hl0
        clear hsz
        obtain ⟨u0, l, rfl, hz1⟩ := list_open hz0
        clear hz0
        obtain ⟨u1, l, rfl, hz2⟩ := list_open hz1
        clear hz1
        obtain ⟨u2, l, rfl, hz3⟩ := list_open hz2
        clear hz2
        obtain ⟨u3, l, rfl, hz4⟩ := list_open hz3
        clear hz3
        obtain ⟨u4, l, rfl, hz5⟩ := list_open hz4
        clear hz4
        obtain ⟨u5, l, rfl, hz6⟩ := list_open hz5
        clear hz5
        obtain ⟨u6, l, rfl, hz7⟩ := list_open hz6
        clear hz6
        obtain ⟨u7, l, rfl, hz8⟩ := list_open hz7
        clear hz7
        obtain ⟨u8, l, rfl, hz9⟩ := list_open hz8
        clear hz8
        obtain ⟨u9, l, rfl, hz10⟩ := list_open hz9
        clear hz9
        obtain ⟨u10, l, rfl, hz11⟩ := list_open hz10
        clear hz10
        obtain ⟨u11, l, rfl, hz12⟩ := list_open hz11
        clear hz11
        obtain ⟨u12, l, rfl, hz13⟩ := list_open hz12
        clear hz12
        obtain ⟨u13, l, rfl, hz14⟩ := list_open hz13
        clear hz13
        obtain ⟨u14, l, rfl, hz15⟩ := list_open hz14
        clear hz14
        obtain ⟨u15, l, rfl, hz16⟩ := list_open hz15
        clear hz15
        obtain ⟨u16, l, rfl, hz17⟩ := list_open hz16
        clear hz16
        obtain ⟨u17, l, rfl, hz18⟩ := list_open hz17
        clear hz17
        obtain ⟨u18, l, rfl, hz19⟩ := list_open hz18
        clear hz18
        obtain ⟨u19, l, rfl, hz20⟩ := list_open hz19
        clear hz19
        obtain ⟨u20, l, rfl, hz21⟩ := list_open hz20
        clear hz20
        obtain ⟨u21, l, rfl, hz22⟩ := list_open hz21
        clear hz21
        obtain ⟨u22, l, rfl, hz23⟩ := list_open hz22
        clear hz22
        obtain ⟨u23, l, rfl, hz24⟩ := list_open hz23
        clear hz23
        obtain ⟨u24, l, rfl, hz25⟩ := list_open hz24
        clear hz24
        obtain ⟨u25, l, rfl, hz26⟩ := list_open hz25
        clear hz25
        obtain ⟨u26, l, rfl, hz27⟩ := list_open hz26
        clear hz26
        obtain ⟨u27, l, rfl, hz28⟩ := list_open hz27
        clear hz27
        obtain ⟨u28, l, rfl, hz29⟩ := list_open hz28
        clear hz28
        obtain ⟨u29, l, rfl, hz30⟩ := list_open hz29
        clear hz29
        obtain ⟨u30, l, rfl, hz31⟩ := list_open hz30
        clear hz30
        obtain ⟨u31, l, rfl, hz32⟩ := list_open hz31
        clear hz31
        obtain ⟨u32, l, rfl, hz33⟩ := list_open hz32
        clear hz32
        obtain ⟨u33, l, rfl, hz34⟩ := list_open hz33
        clear hz33
        obtain ⟨u34, l, rfl, hz35⟩ := list_open hz34
        clear hz34
        obtain ⟨u35, l, rfl, hz36⟩ := list_open hz35
        clear hz35
        obtain ⟨u36, l, rfl, hz37⟩ := list_open hz36
        clear hz36
        obtain ⟨u37, l, rfl, hz38⟩ := list_open hz37
        clear hz37
        obtain ⟨u38, l, rfl, hz39⟩ := list_open hz38
        clear hz38
        obtain ⟨u39, l, rfl, hz40⟩ := list_open hz39
        clear hz39
        obtain ⟨u40, l, rfl, hz41⟩ := list_open hz40
        clear hz40
        obtain ⟨u41, l, rfl, hz42⟩ := list_open hz41
        clear hz41
        obtain ⟨u42, l, rfl, hz43⟩ := list_open hz42
        clear hz42
        obtain ⟨u43, l, rfl, hz44⟩ := list_open hz43
        clear hz43
        obtain ⟨u44, l, rfl, hz45⟩ := list_open hz44
        clear hz44
        obtain ⟨u45, l, rfl, hz46⟩ := list_open hz45
        clear hz45
        obtain ⟨u46, l, rfl, hz47⟩ := list_open hz46
        clear hz46
        obtain ⟨u47, l, rfl, hz48⟩ := list_open hz47
        clear hz47
        obtain ⟨u48, l, rfl, hz49⟩ := list_open hz48
        clear hz48
        obtain ⟨u49, l, rfl, hz50⟩ := list_open hz49
        clear hz49
        obtain ⟨u50, l, rfl, hz51⟩ := list_open hz50
        clear hz50
        obtain ⟨u51, l, rfl, hz52⟩ := list_open hz51
        clear hz51
        obtain ⟨u52, l, rfl, hz53⟩ := list_open hz52
        clear hz52
        obtain ⟨u53, l, rfl, hz54⟩ := list_open hz53
        clear hz53
        obtain ⟨u54, l, rfl, hz55⟩ := list_open hz54
        clear hz54
        obtain ⟨u55, l, rfl, hz56⟩ := list_open hz55
        clear hz55
        obtain ⟨u56, l, rfl, hz57⟩ := list_open hz56
        clear hz56
        obtain ⟨u57, l, rfl, hz58⟩ := list_open hz57
        clear hz57
        obtain ⟨u58, l, rfl, hz59⟩ := list_open hz58
        clear hz58
        obtain ⟨u59, l, rfl, hz60⟩ := list_open hz59
        clear hz59
        obtain ⟨u60, l, rfl, hz61⟩ := list_open hz60
        clear hz60
        obtain ⟨u61, l, rfl, hz62⟩ := list_open hz61
        clear hz61
        obtain ⟨u62, l, rfl, hz63⟩ := list_open hz62
        clear hz62
        obtain ⟨u63, l, rfl, hz64⟩ := list_open hz63
        clear hz63
        obtain ⟨u64, l, rfl, hz65⟩ := list_open hz64
        clear hz64
        obtain ⟨u65, l, rfl, hz66⟩ := list_open hz65
        clear hz65
        obtain ⟨u66, l, rfl, hz67⟩ := list_open hz66
        clear hz66
        obtain ⟨u67, l, rfl, hz68⟩ := list_open hz67
        clear hz67
        obtain ⟨u68, l, rfl, hz69⟩ := list_open hz68
        clear hz68
        obtain ⟨u69, l, rfl, hz70⟩ := list_open hz69
        clear hz69
        obtain ⟨u70, l, rfl, hz71⟩ := list_open hz70
        clear hz70
        obtain ⟨u71, l, rfl, hz72⟩ := list_open hz71
        clear hz71
        obtain ⟨u72, l, rfl, hz73⟩ := list_open hz72
        clear hz72
        obtain ⟨u73, l, rfl, hz74⟩ := list_open hz73
        clear hz73
        obtain ⟨u74, l, rfl, hz75⟩ := list_open hz74
        clear hz74
        obtain ⟨u75, l, rfl, hz76⟩ := list_open hz75
        clear hz75
        obtain ⟨u76, l, rfl, hz77⟩ := list_open hz76
        clear hz76
        obtain ⟨u77, l, rfl, hz78⟩ := list_open hz77
        clear hz77
        obtain ⟨u78, l, rfl, hz79⟩ := list_open hz78
        clear hz78
        obtain ⟨u79, l, rfl, hz80⟩ := list_open hz79
        clear hz79
        obtain ⟨u80, l, rfl, hz81⟩ := list_open hz80
        clear hz80
        obtain ⟨u81, l, rfl, hz82⟩ := list_open hz81
        clear hz81
        obtain ⟨u82, l, rfl, hz83⟩ := list_open hz82
        clear hz82
        obtain ⟨u83, l, rfl, hz84⟩ := list_open hz83
        clear hz83
        obtain ⟨u84, l, rfl, hz85⟩ := list_open hz84
        clear hz84
        obtain ⟨u85, l, rfl, hz86⟩ := list_open hz85
        clear hz85
        obtain ⟨u86, l, rfl, hz87⟩ := list_open hz86
        clear hz86
        obtain ⟨u87, l, rfl, hz88⟩ := list_open hz87
        clear hz87
        obtain ⟨u88, l, rfl, hz89⟩ := list_open hz88
        clear hz88
        obtain ⟨u89, l, rfl, hz90⟩ := list_open hz89
        clear hz89
        obtain ⟨u90, l, rfl, hz91⟩ := list_open hz90
        clear hz90
        obtain ⟨u91, l, rfl, hz92⟩ := list_open hz91
        clear hz91
        obtain ⟨u92, l, rfl, hz93⟩ := list_open hz92
        clear hz92
        obtain ⟨u93, l, rfl, hz94⟩ := list_open hz93
        clear hz93
        obtain ⟨u94, l, rfl, hz95⟩ := list_open hz94
        clear hz94
        obtain ⟨u95, l, rfl, hz96⟩ := list_open hz95
        clear hz95
        obtain ⟨u96, l, rfl, hz97⟩ := list_open hz96
        clear hz96
        obtain ⟨u97, l, rfl, hz98⟩ := list_open hz97
        clear hz97
        obtain ⟨u98, l, rfl, hz99⟩ := list_open hz98
        clear hz98
        obtain ⟨u99, l, rfl, hz100⟩ := list_open hz99
        clear hz99
        obtain ⟨u100, l, rfl, hz101⟩ := list_open hz100
        clear hz100
        obtain ⟨u101, l, rfl, hz102⟩ := list_open hz101
        clear hz101
        obtain ⟨u102, l, rfl, hz103⟩ := list_open hz102
        clear hz102
        obtain ⟨u103, l, rfl, hz104⟩ := list_open hz103
        clear hz103
        obtain ⟨u104, l, rfl, hz105⟩ := list_open hz104
        clear hz104
        obtain rfl : l = [] := List.length_eq_zero_iff.1 hz105
        simp only [List.getElem?_toArray, List.getElem?_cons_succ, List.getElem?_cons_zero, Option.some.injEq] at h1 h4 h5 h47 h48 h49
        subst h1 h4 h5 h47 h48 h49
        have hI := Lib.hid hI
        clear hz105
        refine wpIn_wide.2 ?_
        obtain ⟨y0, y1, y2⟩ := hI.out.cell
        by_cases hlt : i < n2
        · skip
          have e0 : (i : Int) < (n2 : Int) := by omega
          have hbw := Lib.hid (hW.out.trans (hI.out.bel.mono hW.out.size))
          obtain ⟨blk, off, x, r, rfl, hx, hcx, hnow⟩ := hf.out.at_ (k := i) (by rw [hn2'.out]; omega)
          have hxm := hmf.out x (List.mem_of_getElem? hx)
          unfold mayFn at hxm
          simp only [Bool.and_eq_true] at hxm
          obtain ⟨m1, m2, m3, m4, m5⟩ := hxm
          have hcF : cntF x ≤ 30000 := by
            have h1 := cntFs_take i hx
            have h2 : cntFs (p.fs.take (i + 1)) ≤ cntFs p.fs := by
              have e : ∀ (L : List Fn) (k : Nat), cntFs (L.take k) ≤ cntFs L := fun L => by
                induction L with
                | nil => intro k; simp [cntFs]
                | cons f l ihl => intro k; cases k with
                  | zero => simp [cntFs]
                  | succ k => rw [List.take_succ_cons, cntFs, cntFs]; have := ihl k; omega
              exact e _ _
            have h3 := hcf.out
            omega
          have hF := hcF
          unfold cntF at hF
          have hnxt : linesFs (p.fs.take (i + 1)) = linesFs (p.fs.take i) ++ linesF x := linesFs_take hx
          have hsplit : RL ++ linesFs (p.fs.take i) ++ (linesF x ++ linesFs (p.fs.drop (i + 1))) = linesP p := by
            unfold linesP
            rw [hRL.out]
            have hk : i < p.fs.length := (List.getElem?_eq_some_iff.1 hx).1
            have e : p.fs = p.fs.take i ++ (x :: p.fs.drop (i + 1)) := by
              have h2 : p.fs.drop i = x :: p.fs.drop (i + 1) := by
                rw [List.drop_eq_getElem_cons hk]
                congr 1
                exact Option.some.inj ((List.getElem?_eq_getElem hk).symm.trans hx)
              rw [← h2, List.take_append_drop]
            conv => rhs; rw [e]
            simp [linesFs]
          obtain ⟨P0, hP0⟩ : ∃ P0, RL ++ linesFs (p.fs.take i) = P0 := ⟨_, rfl⟩
          obtain ⟨RR, hRR⟩ : ∃ RR, linesFs (p.fs.drop (i + 1)) = RR := ⟨_, rfl⟩
          have hnxt2 : RL ++ linesFs (p.fs.take (i + 1)) = P0 ++ linesF x := by rw [hnxt, ← hP0, List.append_assoc]
          rw [hP0, hRR] at hsplit
          have hI1 := hI.out
          rw [hP0] at hI1
          have hlf : linesF x = (0, fnB x) :: (x.vs.map (fun v => ((1, varB v) : Ln)) ++ (upL (iterL x.bd) ++ [(0, endB)])) := by
            unfold linesF iterL
            rw [if_pos m5, ← up_lines _ x.bd (Nat.le_refl _) 0]
          rw [hlf] at hsplit hnxt2
          obtain ⟨nmx, psx, vsx, rsx, bdx, psA, vsA, rsA, bdA, psK, vsK⟩ : r.nm = x.nm ∧ r.ps.n = x.ps.length ∧ r.vs.n = x.vs.length ∧ r.rs.n = x.rs.length ∧ r.bd.n = x.bd.length ∧ CellsAt 4 cellsV w0 x.ps r.ps.a ∧ CellsAt 4 cellsV w0 x.vs r.vs.a ∧ CellsAt 1 cellsS w0 x.rs r.rs.a ∧ StsAt w0 x.bd r.bd.a ∧ (∀ v ∈ x.ps, VarOk v) ∧ ∀ v ∈ x.vs, VarOk v :=
            ⟨hnow.nm, hnow.ps, hnow.vs, hnow.rs, hnow.bd, hnow.psA, hnow.vsA, hnow.rsA, hnow.bdA, hnow.psK, hnow.vsK⟩
          obtain ⟨nm, ⟨pA, pn, pc⟩, ⟨vA, vn, vc⟩, ⟨sA, sn, sc⟩, ⟨bA, bn, bc⟩⟩ := r
          dsimp only at nmx psx vsx rsx bdx psA vsA rsA bdA
          have v0 : w0.cell? ⟨blk, off + i * 5, none⟩ = some (.string nm) := hcx 0 (by omega)
          have v0 := (hbw.out.cell (p := ⟨blk, off + i * 5, none⟩) (cell_some_lt v0)).trans v0
          have v1 : w0.cell? ⟨blk, off + i * 5 + 1, none⟩ = some (.slice pA pn pc) := hcx 1 (by omega)
          have v1 := (hbw.out.cell (p := ⟨blk, off + i * 5 + 1, none⟩) (cell_some_lt v1)).trans v1
          have v2 : w0.cell? ⟨blk, off + i * 5 + 2, none⟩ = some (.slice vA vn vc) := hcx 2 (by omega)
          have v2 := (hbw.out.cell (p := ⟨blk, off + i * 5 + 2, none⟩) (cell_some_lt v2)).trans v2
          have v3 : w0.cell? ⟨blk, off + i * 5 + 3, none⟩ = some (.slice sA sn sc) := hcx 3 (by omega)
          have v3 := (hbw.out.cell (p := ⟨blk, off + i * 5 + 3, none⟩) (cell_some_lt v3)).trans v3
          have v4 : w0.cell? ⟨blk, off + i * 5 + 4, none⟩ = some (.slice bA bn bc) := hcx 4 (by omega)
          have v4 := (hbw.out.cell (p := ⟨blk, off + i * 5 + 4, none⟩) (cell_some_lt v4)).trans v4
          obtain ⟨w3, hw3⟩ : ∃ w3, wr2.alloc (.cells #[.string nm, .slice pA pn pc, .slice vA vn vc, .slice sA sn sc, .slice bA bn bc] 54) = w3 := ⟨_, rfl⟩
          have hb3 : Below wr2.heap.size wr2 w3 := by rw [← hw3]; exact (Below.refl _ wr2).alloc (Nat.le_refl _) _
          have hX : w3.heap[wr2.heap.size]? = some (.cells #[.string nm, .slice pA pn pc, .slice vA vn vc, .slice sA sn sc, .slice bA bn bc] 54 (0, 0)) := by rw [← hw3]; exact heap_alloc_new _ _
          obtain ⟨q0, q1, q2, q3, q4⟩ := box5 hX
          have hI3 := hI1.go hb3
          obtain ⟨x3, hx3⟩ : ∃ x3, wr2.heap.size = x3 := ⟨_, rfl⟩
          have hx3b : b < x3 := by rw [← hx3]; have := blk_lt hI1.fn; omega
          have up := fun (V : World) (hb : Below W.heap.size W V) => (hW.out.trans (hb.mono hW.out.size) : Below w0.heap.size w0 V)
          have s1 := listP_size x.ps
          have s2 := listT_le x.rs
          have hnz : nm.size ≤ 30000 := by rw [nmx]; omega
          have h55 : ∀ (V : World), Below W.heap.size W V → Calls Tryz.prog 55 #[.slice pA pn pc, .func (.func 56) #[] #[]] V (StrPost (listT (x.ps.map paramB)) V) := fun V hV => by
            rw [psx]
            exact listV_any 56 (enters_of Tryz.func56 (by kernel_rfl) rfl) paramB w0 x.ps pA psA pc V (up V hV) (by have := len_cntV x.ps; omega)
              (by have h := join_len (x.ps.map fun v => (paramB v).data.toList); have h2 := sum_params x.ps; rw [List.length_map] at h; omega) (fun j v hv V2 _ => param_anyB v V2 (by have := cntV_mem hv; omega))
          have h57 : ∀ (V : World), Below W.heap.size W V → Calls Tryz.prog 57 #[.slice sA sn sc, .func (.func 58) #[] #[]] V (StrPost (listT x.rs) V) := fun V hV => by
            have t7 : (listT x.rs).size = (Lib.join (x.rs.map fun x => x.data.toList) [44, 32]).length := listT_size x.rs
            have h := listS_any 58 (enters_of Tryz.func58 (by kernel_rfl) rfl) id w0 x.rs sA rsA sc V (up V hV) (by have := len_cntN x.rs; omega) (by show (Lib.join (x.rs.map fun x => x.data.toList) [44, 32]).length ≤ _; rw [← t7]; omega) (fun i s hs W2 _ => self_any s W2)
            rw [List.map_id] at h
            rw [rsx]
            exact h
          have hvs : ∀ (j : Nat) (v : VarC), x.vs[j]? = some v → ∀ V, Below W.heap.size W V → Calls Tryz.prog 59 #[vlV v] V (StrPost (varB v) V) := fun j v hv V hV =>
            var59_any v V (hE.out.below (up V hV)) (by have := cntV_mem hv; omega) (vsK v (List.mem_of_getElem? hv)) (by rw [List.all_eq_true] at m3; exact m3 v (List.mem_of_getElem? hv))
          have hvn : vn ≤ 30000 := by rw [vsx]; have := len_cntV x.vs; omega
          have hbn : cntSs x.bd ≤ 30000 := by omega
          have hz1 : (listT (x.ps.map paramB)).size ≤ 300000 := by omega
          have hz2 : (listT x.rs).size ≤ 100000 := by omega
          have hH : (⟨#[102, 110, 32]⟩ : ByteArray) ++ nm ++ ⟨#[40]⟩ ++ listT (x.ps.map paramB) ++ ⟨#[41]⟩ = fnHd x := by unfold fnHd; rw [nmx]
          have hHz : (fnHd x).size ≤ 400000 := by
            have z1 : (⟨#[102, 110, 32]⟩ : ByteArray).size = 3 := rfl
            have z2 : (⟨#[40]⟩ : ByteArray).size = 1 := rfl
            have z3 : (⟨#[41]⟩ : ByteArray).size = 1 := rfl
            rw [← hH]
            simp only [ByteArray.size_append]
            omega
          have hR : (if sn = 0 then fnHd x else fnHd x ++ ((⟨#[32, 45, 62, 32]⟩ : ByteArray) ++ listT x.rs)) = fnRt x := by unfold fnRt; rw [rsx]
          have hRz : (fnRt x).size ≤ 600000 := by
            have z1 : (⟨#[32, 45, 62, 32]⟩ : ByteArray).size = 4 := rfl
            rw [← hR]
            split
            · omega
            · simp only [ByteArray.size_append]; omega
          have hFB : fnRt x ++ ⟨#[32, 123]⟩ = fnB x := rfl
          generalize hLP : listT (x.ps.map paramB) = LP at h55 hz1 hH
          generalize hLR : listT x.rs = LR at h57 hz2 hR
          generalize fnHd x = HD at hH hHz hR
          generalize fnRt x = RT at hR hRz hFB
          generalize fnB x = FB at hFB hsplit hnxt2
          have hsplit := Lib.hid hsplit
          have hnxt2 := Lib.hid hnxt2
          have hX := Lib.hid hX
          have hI3 := Lib.hid hI3
          have h55s := Lib.hid (fun s : Sub w3 => h55 s.val (Below.next hI3.out.bel s.property))
          have h57 := Lib.hid h57
          have hvs := Lib.hid hvs
          have hR := Lib.hid hR
          have hbdA := Lib.hid bdA
          have hvsA := Lib.hid vsA
          have hx3' := Lib.hid hx3
          have hx3b := Lib.hid hx3b
          have hw3' := Lib.hid hw3
          have hvsx := Lib.hid vsx
          have hbdx := Lib.hid bdx
          have hbn := Lib.hid hbn
          have up := Lib.hid up
          have hfb := Lib.hid hFB
          clear hcx hx hnow m1 m2 m3 m4 m5 hF hcF hnxt hlf psx vsx rsx bdx psA vsA rsA bdA psK vsK h55 s1 s2 hb3 hI1 hw3 hP0 hRR hLP hLR nmx hx3 hFB
          go_wp2_with fail
          clear v0 v1 v2 v3 v4
          first | rw [hw3'.out] | skip
          first | rw [hx3'.out] | skip
          have hX0 := hX.out
          rw [hx3'.out] at q0 q1 q2 q3 q4 hX0
          have hX := Lib.hid hX0
          have c0 := Sub.cell q0
          have c1 := Sub.cell q1
          refine wp_region_below (by kernel_rfl) (by kernel_rfl) ?_
          repeat (go_big_quiet_step ((go_at_call 55; with_reducible exact Sub.call (h55s.out _))))
          refine wpQuiet_nil ?_
          rintro w4 ⟨s4, hs4⟩
          have hb4 := hs4 ▸ s4.property
          clear hs4 s4 q0 q1 q2 q3 q4 c0 c1 y0 y1 y2 hX0
          have hI4 := Lib.hid (hI3.out.go hb4)
          have hX4 := Lib.hid ((hb4.block _ (blk_lt hX.out)).trans hX.out)
          clear hb4 h55s hI3
          obtain ⟨q0, q1, q2, q3, q4⟩ := box5 hX4.out
          go_upto_if 65 with fail
          go_cut [10] from 61 to 71 (fun s10 wx => s10 = .string RT ∧ Below w4.heap.size w4 wx)
          case first =>
            by_cases hn0 : sn = 0
            · have e1 : ¬ (0 : Int) < (sn : Int) := by omega
              have hRR := Lib.hid (show HD = RT by have := hR.out; rw [if_pos hn0] at this; exact this)
              clear hn0
              go_wp2_with fail
              go_meet
              case rel => exact ⟨by rw [hRR.out], Below.refl _ _⟩
            · have e1 : (0 : Int) < (sn : Int) := by omega
              have hRR' := Lib.hid (show HD ++ ((⟨#[32, 45, 62, 32]⟩ : ByteArray) ++ LR) = RT by have := hR.out; rw [if_neg hn0] at this; exact this)
              clear hn0
              go_wp2_with fail
              refine (h57.out _ hI4.out.bel).mono ?_
              rintro e w5 ⟨rfl, hb5⟩
              have hb5 := Lib.hid hb5
              clear q0 q1 q2 q3 q4
              go_wp2_with fail
              go_meet
              case rel => exact ⟨by first | rfl | rw [hRR'.out], hb5.out⟩
          case rest =>
            obtain ⟨rfl, hbc⟩ := hcut
            have hI5 := hI4.out.go hbc
            have hX5 := (hbc.block _ (blk_lt hX4.out)).trans hX4.out
            clear q0 q1 q2 q3 q4 hbc
            obtain ⟨y0, y1, y2⟩ := hI5.cell
            have hFB := hfb.out
            have hsp := hsplit.out
            rw [List.cons_append] at hsp
            have hbd := hlp.out _ _ _ hsp
            have hI5 := Lib.hid hI5
            have hX5 := Lib.hid hX5
            have hln := Lib.hid (line_any W.heap.size b _ 0 FB wc hI5.out.bd (by decide) hbd.2 hI5.out.bel.size)
            clear hsp hbd
            go_wp2_with fail
            refine hln.out.mono ?_
            rintro e w6 ⟨rfl, hq⟩
            have hX6 := hq.2.2.2 _ _ (by have := hx3b.out; omega) hX5.out (fun _ _ e => by cases e)
            have hI6 := Lib.hid (TxI.line hwb.out hI5.out hq)
            have hX6 := Lib.hid hX6
            clear hq hln y0 y1 y2
            obtain ⟨q0, q1, q2, q3, q4⟩ := box5 hX6.out
            go_wp2_with fail
            clear q0 q1 q2 q3 q4
            go_loopg [79] vn (fun g s79 wr => ∃ k : Nat, k + g = vn ∧ s79 = .int .i64 k ∧ TxI W b (.cells #[.slice A n1 c, .slice (some ⟨blk, off, none⟩) n2 d] 39 (0, 0)) (P0 ++ [(0, FB)] ++ (x.vs.take k).map fun v => (1, varB v)) Ds wr ∧ wr.heap[x3]? = some (.cells #[.string nm, .slice pA pn pc, .slice vA vn vc, .slice sA sn sc, .slice bA bn bc] 54 (0, 0)))
            case atStart => exact ⟨0, by omega, rfl, by simpa using hI6.out, hX6.out⟩
            case round =>
              obtain ⟨k2, hkg2, rfl, hI7, hX7⟩ := hrel
              have hI7 := Lib.hid hI7
              have hX7 := Lib.hid hX7
              cases gk with
              | succ g2 =>
                have e1 : (k2 : Int) < (vn : Int) := by omega
                have hbw7 := Lib.hid (up.out _ hI7.out.bel)
                obtain ⟨blk2, off2, v, rfl, hv, hcv⟩ := (hvsA.out).at_ (i := k2) (by rw [← hvsx.out]; omega)
                have hnx : (x.vs.take (k2 + 1)).map (fun v => ((1, varB v) : Ln)) = (x.vs.take k2).map (fun v => ((1, varB v) : Ln)) ++ [(1, varB v)] := by
                  rw [List.take_add_one, hv, List.map_append]; rfl
                have hsp : P0 ++ [(0, FB)] ++ (x.vs.take k2).map (fun v => ((1, varB v) : Ln)) ++ (1, varB v) :: ((x.vs.drop (k2 + 1)).map (fun v => ((1, varB v) : Ln)) ++ (upL (iterL x.bd) ++ [(0, endB)]) ++ RR) = linesP p := by
                  rw [← hsplit.out]
                  have hk : k2 < x.vs.length := (List.getElem?_eq_some_iff.1 hv).1
                  have e : x.vs = x.vs.take k2 ++ (v :: x.vs.drop (k2 + 1)) := by
                    have h2 : x.vs.drop k2 = v :: x.vs.drop (k2 + 1) := by
                      rw [List.drop_eq_getElem_cons hk]
                      congr 1
                      exact Option.some.inj ((List.getElem?_eq_getElem hk).symm.trans hv)
                    rw [← h2, List.take_append_drop]
                  conv => rhs; rw [e]
                  simp
                have hbd := hlp.out _ _ _ hsp
                have hvc := hvs.out k2 v hv
                have v0 : w0.cell? ⟨blk2, off2 + k2 * 4, none⟩ = some (.string v.nm) := hcv 0 (by omega)
                have v0 := (hbw7.out.cell (p := ⟨blk2, off2 + k2 * 4, none⟩) (cell_some_lt v0)).trans v0
                have v1 : w0.cell? ⟨blk2, off2 + k2 * 4 + 1, none⟩ = some (.int .i64 v.kd) := hcv 1 (by omega)
                have v1 := (hbw7.out.cell (p := ⟨blk2, off2 + k2 * 4 + 1, none⟩) (cell_some_lt v1)).trans v1
                have v2 : w0.cell? ⟨blk2, off2 + k2 * 4 + 2, none⟩ = some (.int .i64 v.sz) := hcv 2 (by omega)
                have v2 := (hbw7.out.cell (p := ⟨blk2, off2 + k2 * 4 + 2, none⟩) (cell_some_lt v2)).trans v2
                have v3 : w0.cell? ⟨blk2, off2 + k2 * 4 + 3, none⟩ = some (.bool v.sc) := hcv 3 (by omega)
                have v3 := (hbw7.out.cell (p := ⟨blk2, off2 + k2 * 4 + 3, none⟩) (cell_some_lt v3)).trans v3
                obtain ⟨w8, hw8⟩ : ∃ w8, wr.alloc (.cells #[.string v.nm, .int .i64 v.kd, .int .i64 v.sz, .bool v.sc] 58) = w8 := ⟨_, rfl⟩
                have hb8 : Below wr.heap.size wr w8 := by rw [← hw8]; exact (Below.refl _ wr).alloc (Nat.le_refl _) _
                have hXv : w8.heap[wr.heap.size]? = some (.cells #[.string v.nm, .int .i64 v.kd, .int .i64 v.sz, .bool v.sc] 58 (0, 0)) := by rw [← hw8]; exact heap_alloc_new _ _
                obtain ⟨q0, q1, q2, q3, _⟩ := box4 hXv
                have hI8 := hI7.out.go hb8
                have hX8 := (hb8.block _ (blk_lt hX7.out)).trans hX7.out
                obtain ⟨y0, y1, y2c⟩ := hI8.cell
                unfold vlV at hvc
                have h59 := Lib.hid (fun s : Sub w8 => hvc s.val (Below.next hI8.bel s.property))
                have hI8 := Lib.hid hI8
                have hX8 := Lib.hid hX8
                have hbd := Lib.hid hbd
                have hnx := Lib.hid hnx
                have hw8' := Lib.hid hw8
                generalize varB v = T at h59 hbd hnx
                clear hsp hcv hv hvc hb8 hXv hw8
                go_wp2_with fail
                clear v0 v1 v2 v3
                first | rw [hw8'.out] | skip
                have c0 := Sub.cell q0
                have c1 := Sub.cell q1
                have c2 := Sub.cell q2
                have c3 := Sub.cell q3
                have c4 := Sub.cell y2c
                refine wp_region_below_tail 3 (by kernel_rfl) (by kernel_rfl) ?_
                simp only [List.take_succ_cons, List.take_zero, List.drop_succ_cons, List.drop_zero]
                repeat (go_big_quiet_step ((go_at_call 59; with_reducible exact Sub.call (h59.out _))))
                refine wpQuiet_nil ?_
                rintro w9 ⟨s9, hs9⟩
                have hb9 := hs9 ▸ s9.property
                clear hs9 s9 q0 q1 q2 q3 c0 c1 c2 c3 c4 y0 y1 y2c
                have hI9 := Lib.hid (hI8.out.go hb9)
                have hX9 := Lib.hid ((hb9.block _ (blk_lt hX8.out)).trans hX8.out)
                clear hb9
                have hln := Lib.hid (line_any W.heap.size b _ 1 T w9 hI9.out.bd (by decide) hbd.out.2 hI9.out.bel.size)
                go_wp2_with fail
                refine hln.out.mono ?_
                rintro e w10 ⟨rfl, hq⟩
                have hX10 := Lib.hid (hq.2.2.2 _ _ (by have := hx3b.out; omega) hX9.out (fun _ _ e => by cases e))
                have hI10 := Lib.hid (TxI.line hwb.out hI9.out hq)
                clear hq hln
                go_wp2
                go_roundg g2
                case measure => omega
                case rel => exact ⟨k2 + 1, by omega, by go_num, by rw [hnx.out, ← List.append_assoc]; exact hI10.out, hX10.out⟩
              | zero =>
                have e1 : ¬ (k2 : Int) < (vn : Int) := by omega
                have hfin := Lib.hid (show x.vs.take k2 = x.vs by rw [List.take_of_length_le (by rw [← hvsx.out]; omega)])
                have hI8 := hI7.out
                rw [hfin.out] at hI8
                obtain ⟨P1, hP1⟩ : ∃ P1, P0 ++ [(0, FB)] ++ x.vs.map (fun v => ((1, varB v) : Ln)) = P1 := ⟨_, rfl⟩
                rw [hP1] at hI8
                have hsp : P1 ++ (upL (iterL x.bd) ++ ((0, endB) :: RR)) = linesP p := by rw [← hsplit.out, ← hP1]; simp
                have hn3 : RL ++ linesFs (p.fs.take (i + 1)) = P1 ++ (upL (iterL x.bd) ++ [(0, endB)]) := by rw [hnxt2.out, ← hP1]; simp
                have hI8 := Lib.hid hI8
                have hsp := Lib.hid hsp
                have hn3 := Lib.hid hn3
                clear hP1 hfin hI7
                obtain ⟨q0, q1, q2, q3, q4⟩ := box5 hX7.out
                have h30 := Lib.hid (lines30_any bA bn bc wr)
                go_wp2_with fail
                refine h30.out.mono ?_
                rintro e w7 ⟨rfl, hw7⟩
                have hb7 : Below wr.heap.size wr w7 := by rw [hw7]; exact (Below.refl _ wr).alloc (Nat.le_refl _) _
                have hbx : w7.heap[wr.heap.size]? = some (.cells #[.slice bA x.bd.length bc] 48 (0, 0)) := by rw [hw7, hbdx.out]; exact heap_alloc_new wr _
                have hI9 := hI8.out.go hb7
                have hX9 := (hb7.block _ (blk_lt hX7.out)).trans hX7.out
                have hDl : ∀ D ∈ Ds, D < w7.heap.size := fun D hD => blk_lt (hI9.mr D hD)
                have hI9 := Lib.hid hI9
                have hX9 := Lib.hid hX9
                have hDl := Lib.hid hDl
                clear hb7 hw7 h30 q0 q1 q2 q3 q4 hI8 hX7
                go_wp2_with fail
                refine (wpIn_wide (n := 8)).1 (wpIn_range_lines w0 hE.out x.bd bA bc wr.heap.size hbdA.out hbn.out (up.out _ hI9.out.bel) hbx rfl
                  (fun pre V => TxI W b (.cells #[.slice A n1 c, .slice (some ⟨blk, off, none⟩) n2 d] 39 (0, 0)) (P1 ++ upL pre) Ds V ∧ V.heap[x3]? = some (.cells #[.string nm, .slice pA pn pc, .slice vA vn vc, .slice sA sn sc, .slice bA bn bc] 54 (0, 0)) ∧ w7.heap.size ≤ V.heap.size)
                  ?grow ?put ⟨by simpa [upL] using hI9.out, hX9.out, Nat.le_refl _⟩ (fun y => #[u0, .pointer (some ⟨W.heap.size, 0, none⟩), u2, u3, .pointer (some ⟨b, 0, none⟩), .pointer (some ⟨b + 1, 0, none⟩), u6, u7, u8, .pointer (some ⟨x3, 0, none⟩), .string RT, u11, u12, .int .i64 (y.1 : Int), .string y.2, u15, u16, u17, u18, u19, u20, u21, u22, u23, u24, u25, u26, u27, u28, u29, u30, u31, u32, u33, u34, u35, u36, u37, u38, u39, u40, u41, u42, u43, u44, u45, u46, .slice (some ⟨blk, off, none⟩) n2 d, .int .i64 (n2 : Int), .int .i64 (i : Int), .bool true, .pointer (some ⟨blk, off + i * 5, none⟩), .agg #[.string nm, .slice pA pn pc, .slice vA vn vc, .slice sA sn sc, .slice bA bn bc], .pointer (some ⟨x3, 0, none⟩), .string nm, .string ((⟨#[102, 110, 32]⟩ : ByteArray) ++ nm), .string ((⟨#[102, 110, 32]⟩ : ByteArray) ++ nm ++ (⟨#[40]⟩ : ByteArray)), .pointer (some ⟨x3, 1, none⟩), .slice pA pn pc, .string LP, .string ((⟨#[102, 110, 32]⟩ : ByteArray) ++ nm ++ (⟨#[40]⟩ : ByteArray) ++ LP), u61, u62, u63, u64, u65, u66, u67, u68, u69, u70, u71, .func (.func 50) #[] #[.pointer (some ⟨b, 0, none⟩)], .string RT, .string FB, .tuple #[], .pointer (some ⟨x3, 2, none⟩), .slice vA vn vc, .int .i64 (vn : Int), .int .i64 (k2 : Int), .bool false, u81, u82, u83, u84, u85, u86, u87, .pointer (some ⟨x3, 4, none⟩), .slice bA bn bc, .func (.func 81) #[] #[.pointer (some ⟨wr.heap.size, 0, none⟩)], .int .i64 (y.1 : Int), .string y.2, u93, u94, u95, u96, u97, u98, u99, u100, u101, u102, u103, u104]) ?assign ?body ?done)
                case grow => exact fun xs V V' h _ hb => ⟨h.1.go hb, (hb.block _ (blk_lt h.2.1)).trans h.2.1, Nat.le_trans h.2.2 hb.size⟩
                case put =>
                  intro xs V l o o' h hl hlo ho
                  refine ⟨h.1.pu (by have := hI9.out.bel.size; omega) (fun D hD e => by have := hDl.out D hD; omega) hlo ho o', (World.putObj_heap_other ?_).trans h.2.1, by simpa [World.putObj] using h.2.2⟩
                  rintro rfl
                  rw [h.2.1] at hlo
                  cases hlo
                  cases ho
                case assign =>
                  intro l x V K hK
                  have hK' := Lib.hid hK
                  clear hK
                  gi_wp2
                  exact hK'.out
                case body =>
                  rintro l pre y rest V hl hV ⟨hJ, hJX, hJs⟩ hpre
                  have hJ := Lib.hid hJ
                  have hJX := Lib.hid hJX
                  obtain ⟨t, s⟩ := y
                  have hsp2 : P1 ++ upL pre ++ (t + 1, s) :: (upL rest ++ ((0, endB) :: RR)) = linesP p := by rw [← hsp.out, ← hpre]; simp [upL]
                  have hbd := hlp.out _ _ _ hsp2
                  dsimp only at hbd
                  have htb : t ≤ 1000000 := by omega
                  obtain ⟨y0, y1, y2⟩ := hJ.out.cell
                  have hln := line_any W.heap.size b _ (t + 1) s V hJ.out.bd (by omega) (by omega) hJ.out.bel.size
                  have hln := Lib.hid hln
                  clear hbd hsp2
                  dsimp only
                  gi_wp2_with fail
                  refine ⟨trivial, ?_⟩
                  refine (callsIn_wide.2 hln.out).mono ?_
                  rintro e V2 ⟨rfl, hq⟩
                  have hJ2 := TxI.line hwb.out hJ.out hq
                  have hJX2 := hq.2.2.2 _ _ (by have := hx3b.out; omega) hJX.out (fun _ _ e => by cases e)
                  have hkp : Kp w0.heap.size w7.heap.size V V2 := ⟨hq.2.1.mono hW.out.size, fun k o hk ho hn => hq.2.2.2 k o (by have := blk_lt hX9.out; have := hx3b.out; omega) ho hn⟩
                  have hsz2 := hq.2.2.1
                  have hfin := Lib.hid (show Kp w0.heap.size w7.heap.size V V2 ∧ TxI W b (.cells #[.slice A n1 c, .slice (some ⟨blk, off, none⟩) n2 d] 39 (0, 0)) (P1 ++ upL (pre ++ [(t, s)])) Ds V2 ∧ V2.heap[x3]? = some (.cells #[.string nm, .slice pA pn pc, .slice vA vn vc, .slice sA sn sc, .slice bA bn bc] 54 (0, 0)) ∧ w7.heap.size ≤ V2.heap.size from
                    ⟨hkp, by rw [upL_app, ← List.append_assoc]; exact hJ2, hJX2, by omega⟩)
                  clear hq hJ2 hJX2 hkp hsz2 hln y0 y1 y2
                  gi_wp2_with fail
                  exact hfin.out
                case done =>
                  rintro D V hD ⟨hJ, hJX, hJs⟩ hK
                  have hI10 : TxI W b (.cells #[.slice A n1 c, .slice (some ⟨blk, off, none⟩) n2 d] 39 (0, 0)) (P1 ++ upL (iterL x.bd)) (D :: Ds) V := by
                    refine ⟨hJ.bd, hJ.bel, ?_, List.nodup_cons.2 ⟨fun hm => by have := hDl.out D hm; omega, hJ.nd⟩, ?_, hJ.bx, hJ.fn⟩
                    · intro D' hD'
                      rcases List.mem_cons.1 hD' with rfl | hD'
                      · exact hK
                      · exact hJ.mr D' hD'
                    · intro D' hD'
                      rcases List.mem_cons.1 hD' with rfl | hD'
                      · have := hI9.out.bel.size; omega
                      · exact hJ.lo D' hD'
                  have hbd := hlp.out (P1 ++ upL (iterL x.bd)) RR (0, endB) (by rw [← hsp.out]; simp)
                  obtain ⟨y0, y1, y2⟩ := hI10.cell
                  have hI10 := Lib.hid hI10
                  have hln := Lib.hid (line_any W.heap.size b _ 0 ⟨#[125]⟩ V hI10.out.bd (by decide) hbd.2 hI10.out.bel.size)
                  clear hbd hJ hJX hJs hK
                  go_wp2_with fail
                  refine hln.out.mono ?_
                  rintro e V2 ⟨rfl, hq⟩
                  have hI11 := Lib.hid (TxI.line hwb.out hI10.out hq)
                  have hwr : IntKind.i64.wrap ((i : Int) + 1) = (i : Int) + 1 := by rw [IntKind.wrap_i64]; omega
                  clear hq hln y0 y1 y2
                  go_wp2_with fail
                  refine ⟨⟨i + 1, D :: Ds, _, by omega, by rw [hn3.out, ← List.append_assoc]; exact hI11.out, rfl, rfl, rfl, rfl, rfl, rfl, by first | rfl | simp, rfl⟩, ?_⟩
                  simp [intOf]
                  omega
        · have e0 : ¬ (i : Int) < (n2 : Int) := by omega
          have hin : i = n2 := by omega
          have htk : p.fs.take i = p.fs := List.take_of_length_le (by rw [hn2'.out]; omega)
          have hI2 := hI.out
          rw [htk] at hI2
          have htx : RL ++ linesFs p.fs = linesP p := by rw [← hRL.out]; rfl
          rw [htx] at hI2
          have kS := string_any W.heap.size b (textL (linesP p)) wr2 hI2.bd hI2.bel.size
          have kT : (⟨(textL (linesP p)).toArray⟩ : ByteArray) = textP p := rfl
          rw [kT] at kS
          have hI2 := Lib.hid hI2
          have kH := short_any (textP p)
          obtain ⟨TP, hTP⟩ : ∃ TP, textP p = TP := ⟨_, rfl⟩
          rw [hTP] at kS kH
          have kS := Lib.hid kS
          have kH := Lib.hid kH
          have hTP := Lib.hid hTP
          clear htk htx hin kT y0 y1 y2
          go_wp2_with fail
          refine kS.out.mono ?_
          rintro e W2 ⟨rfl, hb3, hh3⟩
          have hb3 := Lib.hid (hI2.out.bel.trans hb3)
          have hh3 := Lib.hid hh3
          go_wp2_with fail
          refine (kH.out W2).mono ?_
          rintro e W3 ⟨rfl, hb4⟩
          have hb5 := Lib.hid (Below.next hb3.out hb4)
          have hb4 := Lib.hid hb4
          go_wp2_with fail
          obtain ⟨cs, hcs⟩ := IsBuilder.cells hI2.out.bd
          have hD2 : ∀ D ∈ Ds, W3.heap[D]? = some (.deferred (some [])) := fun D hD => by
            have h := hh3.out.2 D _ (by
              rintro rfl
              have := hI2.out.mr _ hD
              rw [hcs] at this
              cases this) (hI2.out.mr D hD) (fun _ _ e => by cases e)
            exact (hb4.out.block D (blk_lt h)).trans h
          exact leaves_marks Ds _ hD2 hI2.out.nd ⟨_, by simp [results, Tryz.f19, go_sem]; first | done | (rw [hTP.out]; exact ⟨rfl, rfl⟩), rfl, shut_below Ds _ hI2.out.lo hb5.out⟩
end Go.Proofs.YtnahgfdoiflacaaGreatDoor
