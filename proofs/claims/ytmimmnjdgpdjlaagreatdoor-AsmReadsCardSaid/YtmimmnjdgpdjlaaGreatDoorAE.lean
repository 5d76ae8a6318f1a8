/- A text read as code: Read. num, line, known. -/
import Derived.Test.YtmimmnjdgpdjlaaGreatDoorAC
import Derived.Deep.AppendLies
set_option linter.unusedSimpArgs false
set_option linter.unusedVariables false
namespace Go.Proofs.YtmimmnjdgpdjlaaGreatDoor
open Go.RowKit Go.Lib Go.Shelf Go.MapKept

/-! ## rows of code that the call owns -/
theorem info32 : (Tryz.prog.info? 32).map (fun i => (i.zero, i.size, i.bytes)) = some (some (.agg #[.int .i64 0, .int .i64 0, .int .i64 0, .int .i64 0, .int .i64 0, .int .i64 0, .int .u64 0, .int .i64 0, .int .i64 0, .bool false, .bool false, .int .i64 0, .int .i64 0]), 13, 96) := by kernel_rfl
theorem info_parts {o : Option TypeInfo} {z : Value} {sz bt : Nat} (h : o.map (fun i => (i.zero, i.size, i.bytes)) = some (some z, sz, bt)) : ∃ i, o = some i ∧ i.zero = some z ∧ i.size = sz ∧ i.bytes = bt := by
  cases o with
  | none => cases h
  | some i =>
    simp only [Option.map_some, Option.some.injEq, Prod.mk.injEq] at h
    exact ⟨i, rfl, h.1, h.2.1, h.2.2⟩
def insCells (L : List In) : List Value := L.flatMap inCells
theorem ins_snoc (L : List In) (i : In) : insCells (L ++ [i]) = insCells L ++ inCells i := by simp [insCells]
theorem flat_at : ∀ (L : List In) (k : Nat) (x : In), L[k]? = some x → ∀ j, j < 13 → (insCells L)[k * 13 + j]? = (inCells x)[j]?
  | [], k, x, h, _, _ => by simp at h
  | i :: L, 0, x, h, j, hj => by
    obtain rfl : i = x := by simpa using h
    show (inCells i ++ insCells L)[0 * 13 + j]? = _
    rw [List.getElem?_append_left (by rw [inCells_len]; omega), Nat.zero_mul, Nat.zero_add]
  | i :: L, k + 1, x, h, j, hj => by
    show (inCells i ++ insCells L)[(k + 1) * 13 + j]? = _
    rw [List.getElem?_append_right (by rw [inCells_len]; omega), inCells_len, show (k + 1) * 13 + j - 13 = k * 13 + j by omega]
    exact flat_at L k x (by simpa using h) j hj
theorem own_keep {W W' : World} {base : Nat} {e : TypeId} {size : Nat} {v : Value} {n : Nat} {xs : List Value} (h : W.ownsRow base e size v n xs) (hb : ∀ g, v.ownBlock = some g → W'.heap[g]? = W.heap[g]?) : W'.ownsRow base e size v n xs := by
  refine ⟨h.1, ?_⟩
  rcases h.2 with hn | ⟨g, cap, cur, hv, hbg, hg, rest⟩
  · exact .inl hn
  · exact .inr ⟨g, cap, cur, hv, hbg, (hb g (by rw [hv]; rfl)).trans hg, rest⟩
theorem own_at {W : World} {base : Nat} {e : TypeId} {size : Nat} {v : Value} {n : Nat} {xs : List Value} (h : W.ownsRow base e size v n xs) {g : Nat} (hb : v.ownBlock = some g) : base ≤ g ∧ g < W.heap.size := by
  rcases h.2 with ⟨rfl, _⟩ | ⟨g', cap, cur, hv, hbg, hg, rest⟩
  · cases hb
  · rw [hv] at hb
    cases hb
    exact ⟨hbg, blk_lt hg⟩
theorem ins_own {W : World} {base : Nat} {v : Value} {L : List In} (h : W.ownsRow base 32 13 v L.length (insCells L)) : ∃ A c, v = .slice A L.length c ∧ InsAt W L A ∧ L.length ≤ c := by
  rcases h.2 with ⟨rfl, h0⟩ | ⟨g, cap, cur, hv, hbg, hg, hc1, hc2, hc3, hc4⟩
  · have : L = [] := List.length_eq_zero_iff.1 h0
    subst this
    exact ⟨none, 0, rfl, CellsAt.nil _, Nat.le_refl _⟩
  · refine ⟨_, cap, hv, ⟨g, 0, fun _ => rfl, fun k x hx j hj => ?_⟩, hc1⟩
    have hk := (List.getElem?_eq_some_iff.1 hx).1
    rw [blk_cell hg, ← flat_at L k x hx j hj, ← hc4, List.getElem?_take, if_pos (by omega), Nat.zero_add]
    simp
theorem Table.grown {W W' : World} {lo m : Nat} {G : Nat → Option Gh} {T : List (List UInt8 × List Rd)} (h : Table W lo m G T) {row : Option Nat} (hg : W.grownBy W' row) (hr : ∀ b, row = some b → G b = none ∧ b ≠ m) : Table W' lo m G T :=
  h.keep (S := fun k => some k = row) ⟨hg.os, hg.tape, hg.output, hg.size, fun k hk hs => hg.block k hk hs⟩ (fun k hk => hr k hk.symm)
/-- what is read lies within its words -/
theorem form_fit {i : In} (h : mayB i = true) (him : i.im < 18446744073709551616) : Fit i := by
  refine ⟨him, ?_⟩
  have h2 := h
  unfold mayB at h2
  revert h2
  cases maskO i.op with
  | none => intro h2; cases h2
  | some p =>
    intro h2
    simp only [mayP, addrB, Bool.and_eq_true] at h2
    have h3 := h2.1.1.1.2.2.2
    unfold shortI at h3
    simp only [Bool.and_eq_true, decide_eq_true_eq] at h3
    omega
theorem unl_fit {s : List UInt8} {i : In} (h : unlL s = some i) : Fit i := by
  have := unl_iff.1 h
  exact form_fit this.1 this.2.1
/-- what Read answers -/
def readX (S : List UInt8) : List In × Nat × Nat := if 16777216 < S.length then ([], 0, 3) else readAll S
def Read16Post (S : List UInt8) (w : World) (e : Ending) (w' : World) : Prop :=
  ∃ A c, e = .returned (.tuple #[.slice A (readX S).1.length c, .int .i64 ((readX S).2.1 : Int), .int .i64 ((readX S).2.2 : Int)]) ∧ InsAt w' (readX S).1 A ∧ Below w.heap.size w w'
/-- the reader's round -/
structure RdSt (w : World) (m : Nat) (G : Nat → Option Gh) (S rest : List UInt8) (n : Nat) (acc : List In) (v : Value) (wr : World) : Prop where
  bel : Below w.heap.size w wr
  tab : Table wr w.heap.size m G tableL
  own : wr.ownsRow w.heap.size 32 13 v acc.length (insCells acc)
  dis : ∀ b, v.ownBlock = some b → G b = none ∧ b ≠ m
  eq : readG S 0 [] = readG rest n acc
  len : acc.length = n
  le : n + rest.length ≤ S.length
  fit : ∀ i ∈ acc, Fit i
theorem Table.mlt {w : World} {lo m : Nat} {G : Nat → Option Gh} {T : List (List UInt8 × List Rd)} (h : Table w lo m G T) : m < w.heap.size := by
  obtain ⟨es, ck, hm, _⟩ := h.mp
  exact blk_lt hm
theorem RdSt.call {w : World} {m : Nat} {G : Nat → Option Gh} {S rest : List UInt8} {n : Nat} {acc : List In} {v : Value} {wr w2 : World} (h : RdSt w m G S rest n acc v wr) (hk : Keep (Bxs G) wr w2) (hb : ∀ b r, G b = some (.box r) → BoxAt w2 b r) : RdSt w m G S rest n acc v w2 :=
  ⟨hk.on h.bel (fun b hb => by obtain ⟨r, hr⟩ := hb; exact (h.tab.all b _ hr).1), h.tab.calls hk hb, own_keep h.own (fun g hg => hk.2.2.2.2 g (own_at h.own hg).2 (fun e => by obtain ⟨r, hr⟩ := e; rw [(h.dis g hg).1] at hr; cases hr)), h.dis, h.eq, h.len, h.le, h.fit⟩
theorem RdSt.go {w : World} {m : Nat} {G : Nat → Option Gh} {S rest : List UInt8} {n : Nat} {acc : List In} {v : Value} {wr w2 : World} (h : RdSt w m G S rest n acc v wr) (hb : Below wr.heap.size wr w2) : RdSt w m G S rest n acc v w2 :=
  ⟨Below.next h.bel hb, h.tab.below hb, own_keep h.own (fun g hg => hb.block g (own_at h.own hg).2), h.dis, h.eq, h.len, h.le, h.fit⟩
theorem r16_bad {w : World} {m : Nat} {G : Nat → Option Gh} {S rest : List UInt8} {n : Nat} {acc : List In} {v : Value} {wr : World} (hX : readX S = readAll S) (h : RdSt w m G S rest n acc v wr) (h0 : rest ≠ []) (hs : stepR rest = none) (w' : World) (hb : Below w.heap.size w w') :
    Read16Post S w (.returned (.tuple #[.slice none 0 0, .int .i64 ((n : Int) + 1), .int .i64 15])) w' := by
  have e : readX S = ([], n + 1, 15) := by
    rw [hX]
    unfold readAll
    rw [h.eq, readG_bad h0 hs]
    rfl
  unfold Read16Post
  rw [e]
  exact ⟨none, 0, by simp, CellsAt.nil _, hb⟩
theorem r16_no {w : World} {m : Nat} {G : Nat → Option Gh} {S : List UInt8} {n : Nat} {acc : List In} {v : Value} {wr : World} (hX : readX S = readAll S) (h : RdSt w m G S [] n acc v wr) (hm : mayAll acc = false) (w' : World) (hb : Below w.heap.size w w') :
    Read16Post S w (.returned (.tuple #[.slice none 0 0, .int .i64 0, .int .i64 15])) w' := by
  have e : readX S = ([], 0, 15) := by
    rw [hX]
    unfold readAll
    rw [h.eq, readG_nil]
    simp [hm]
  unfold Read16Post
  rw [e]
  exact ⟨none, 0, by simp, CellsAt.nil _, hb⟩
theorem r16_yes {w : World} {m : Nat} {G : Nat → Option Gh} {S : List UInt8} {n : Nat} {acc : List In} {A : Option Addr} {c : Nat} {v : Value} {wr : World} (hX : readX S = readAll S) (h : RdSt w m G S [] n acc v wr) (hm : mayAll acc = true) (w' : World) (hi : InsAt w' acc A) (hb : Below w.heap.size w w') :
    Read16Post S w (.returned (.tuple #[.slice A acc.length c, .int .i64 0, .int .i64 0])) w' := by
  have e : readX S = (acc, 0, 0) := by
    rw [hX]
    unfold readAll
    rw [h.eq, readG_nil]
    simp [hm]
  unfold Read16Post
  rw [e]
  exact ⟨A, c, by simp, hi, hb⟩
theorem RdSt.add {w : World} {m : Nat} {G : Nat → Option Gh} {S rest more : List UInt8} {n : Nat} {acc : List In} {v v' : Value} {W W' : World} {i : In} (h : RdSt w m G S rest n acc v W) (hs : stepR rest = some (i, more)) (hf : Fit i) (hg : W.grownBy W' v.ownBlock)
    {g : Nat} (hv : v'.ownBlock = some g) (hat : v.ownBlock = some g ∨ g = W.heap.size) (ho : W'.ownsRow w.heap.size 32 13 v' (acc.length + 1) (insCells acc ++ inCells i)) : RdSt w m G S more (n + 1) (acc ++ [i]) v' W' := by
  refine ⟨?_, h.tab.grown hg h.dis, by rw [ins_snoc, List.length_append]; exact ho, fun b hb => ?_, by rw [h.eq, readG_good (step_ne hs) hs], by simp [h.len], ?_, fun j hj => ?_⟩
  · refine ⟨hg.os.trans h.bel.os, hg.tape.trans h.bel.tape, hg.output.trans h.bel.output, Nat.le_trans h.bel.size hg.size, fun k hk => (hg.block k (Nat.lt_of_lt_of_le hk h.bel.size) fun e => ?_).trans (h.bel.block k hk)⟩
    have := (own_at h.own e.symm).1
    omega
  · rw [hv] at hb
    obtain rfl := Option.some.inj hb
    rcases hat with e | e
    · exact h.dis _ e
    · subst e
      exact ⟨h.tab.fresh (Nat.le_refl _), fun e => by have := h.tab.mlt; omega⟩
  · have := step_less (more := more) hs
    have := h.le
    omega
  · rcases List.mem_append.1 hj with hj | hj
    · exact h.fit j hj
    · simp at hj; subst hj; exact hf
set_option maxRecDepth 100000 in
set_option maxHeartbeats 8000000 in
theorem read16_any (S : List UInt8) (w : World) (hE : Env w) (hs : S.length ≤ 2000000 ∨ 16777216 < S.length) (hs2 : S.length ≤ 1000000000000) : Calls Tryz.prog 16 #[.string (bt S)] w (Read16Post S w) := by
  have hsz : (bt S).size = S.length := bt_size S
  obtain ⟨sb, hsb⟩ : ∃ sb, bt S = sb := ⟨_, rfl⟩
  rw [hsb] at hsz ⊢
  by_cases hbig : 16777216 < S.length
  · have hX : readX S = ([], 0, 3) := by unfold readX; rw [if_pos hbig]
    unfold Read16Post
    rw [hX]
    have e0 : (16777216 : Int) < (sb.size : Int) := by omega
    clear hX hbig hs hE
    go_enter Tryz.func16, Tryz.ntmps16
    go_wp2
    refine wp_scope_straight ?_
    go_wp2
    rw [Exit.noGoto_ret]
    exact bodyPost_ret (v := .tuple #[.slice none 0 0, .int .i64 0, .int .i64 3]) (by simp [results, Tryz.results16, go_sem]) rfl ⟨none, 0, rfl, CellsAt.nil _, Below.refl _ _⟩
  · have hX : readX S = readAll S := by unfold readX; rw [if_neg hbig]
    have hs : S.length ≤ 2000000 := by omega
    have e0 : ¬ (16777216 : Int) < (sb.size : Int) := by omega
    have hX := Lib.hid hX
    have hs' := Lib.hid hs
    have hE' := Lib.hid hE
    have hsb' := Lib.hid hsb
    have hrd := Lib.hid (readings34_any w hE)
    unfold ReadsPost at hrd
    obtain ⟨i0, hi0, hz0, hz1, hz2⟩ := info_parts info32
    have hi := Lib.hid (And.intro hi0 (And.intro hz0 (And.intro hz1 hz2)))
    clear hs hE hsb hbig hi0 hz0 hz1 hz2
    go_enter Tryz.func16, Tryz.ntmps16
    go_wp2_with fail
    refine wp_scope_straight ?_
    go_wp2_with fail
    refine hrd.out.mono ?_
    rintro e w1 ⟨m, G, rfl, hT, hb1⟩
    have hR0 := Lib.hid (show RdSt w m G S S 0 [] (.slice none 0 0) w1 from ⟨hb1, hT, ⟨rfl, .inl ⟨rfl, rfl⟩⟩, (fun b h => by cases h), rfl, rfl, by omega, (fun i h => by cases h)⟩)
    clear hT hb1 hrd
    go_wp2_with fail
    refine wp_label ?_
    go_wp2_with fail
    go_loopg [6, 7, 8, 9] S.length (fun g s6 s7 s8 s9 wr => ∃ (rest : List UInt8) (n : Nat) (acc : List In), rest.length ≤ g ∧ s7 = .int .i64 n ∧ s8 = .bool true ∧ s9 = .string (bt rest) ∧ RdSt w m G S rest n acc s6 wr)
    case atStart => exact ⟨S, 0, [], Nat.le_refl _, rfl, rfl, by rw [hsb'.out], hR0.out⟩
    case round =>
      obtain ⟨rest, n, acc, hg, rfl, rfl, rfl, hR⟩ := hrel
      have hR := Lib.hid hR
      have hnle := hR.out.le
      have hSle := hs'.out
      have hemp : (bt rest).toList.isEmpty = rest.isEmpty := by rw [ByteArray.toList_eq]; rfl
      by_cases hz : rest = []
      · subst hz
        have hz : (bt []).toList.isEmpty = true := hemp
        obtain ⟨A, c, hv, hIns, hcl⟩ := ins_own hR.out.own
        have hmay := may41_any acc A c wr hIns hR.out.fit (by have := hR.out.len; omega)
        unfold BoolPost at hmay
        have hyes := Lib.hid (fun h W (hb : Below wr.heap.size wr W) => r16_yes (c := c) hX.out hR.out h W (hIns.keep hb) (Below.next hR.out.bel hb))
        have hno := Lib.hid (fun h W (hb : Below wr.heap.size wr W) => r16_no hX.out hR.out h W (Below.next hR.out.bel hb))
        generalize mayAll acc = mv at hmay hyes hno
        rw [← hv] at hmay
        rw [← hv] at hyes
        have hmay := Lib.hid hmay
        generalize bt [] = be at *
        clear hv hIns hcl hemp
        go_wp2_with fail
        refine hmay.out.mono ?_
        rintro e w2 ⟨rfl, hb2⟩
        have hb2 := Lib.hid hb2
        clear hmay
        cases mv with
        | false =>
          have hq := Lib.hid (hno.out rfl w2 hb2.out)
          clear hno hyes
          go_wp2
          try rw [Exit.noGoto_ret]
          exact bodyPost_ret (v := .tuple #[.slice none 0 0, .int .i64 0, .int .i64 15]) (by simp [results, Tryz.results16, go_sem]) rfl hq.out
        | true =>
          have hq := Lib.hid (hyes.out rfl w2 hb2.out)
          clear hno hyes
          go_wp2
          try rw [Exit.noGoto_ret]
          exact bodyPost_ret (v := .tuple #[u6, .int .i64 0, .int .i64 0]) (by simp [results, Tryz.results16, go_sem]) rfl hq.out
      · have hz2 : (bt rest).toList.isEmpty = false := by rw [hemp]; simpa using hz
        have hcut := Lib.hid (fun (W : World) (m : Int) (hm : W.cell? ⟨2, 0, none⟩ = some (.int .i64 m)) => by
          have hc := Tryz.strings_Cut (bt rest) ⟨#[10]⟩ m W (by rw [bt_size]; omega) hm
          rw [show Lib.cut (bt rest).data.toList (⟨#[10]⟩ : ByteArray).data.toList = _ from cut_eq 10 rest] at hc
          exact hc)
        dsimp only at hcut
        obtain ⟨l1, hl1⟩ : ∃ l1, (cutL 10 rest).1 = l1 := ⟨_, rfl⟩
        obtain ⟨more, hmore⟩ : ∃ more, (cutL 10 rest).2 = more := ⟨_, rfl⟩
        obtain ⟨whole, hwhole⟩ : ∃ b, rest.contains 10 = b := ⟨_, rfl⟩
        have hl1l : l1.length ≤ 2000000 := by rw [← hl1]; have := (cut_len 10 rest).1; omega
        rw [hl1, hmore, hwhole] at hcut
        have hpre := Lib.hid (fun (W : World) => by
          have hc := Tryz.strings_CutPrefix (bt l1) ⟨#[9]⟩ W
          rw [show Lib.trimPrefix (bt l1).data.toList (⟨#[9]⟩ : ByteArray).data.toList = _ from trimP_eq 9 l1, show Lib.hasPrefix (bt l1).data.toList (⟨#[9]⟩ : ByteArray).data.toList = _ from hasP_eq 9 l1] at hc
          exact hc)
        obtain ⟨sl, hsl⟩ : ∃ sl, trimP 9 l1 = sl := ⟨_, rfl⟩
        obtain ⟨tab, htab⟩ : ∃ t, decide (l1.head? = some 9) = t := ⟨_, rfl⟩
        rw [hsl, htab] at hpre
        have hun := Lib.hid (fun (W : World) (hB : Below w.heap.size w W) (hT : Table W w.heap.size m G tableL) => unline33_any sl m G w W hE'.out hB hT (by rw [← hsl]; exact Nat.le_trans (trimP_len 9 l1) hl1l))
        unfold UnlPost at hun
        obtain ⟨u, hu⟩ : ∃ u, unlL sl = u := ⟨_, rfl⟩
        rw [hu] at hun
        have hul := Lib.hid hu
        have hfa : bt l1 = ⟨l1.toArray⟩ := rfl
        have hfb : bt sl = ⟨sl.toArray⟩ := rfl
        have hfc : bt more = ⟨more.toArray⟩ := rfl
        have hfx := Lib.hid (And.intro hfa (And.intro hfb hfc))
        have hdef := Lib.hid (show stepR rest = if whole then (match u with | some i => if tab = decide (i.op ≠ 19) then some (i, more) else none | none => none) else none from by
          unfold stepR
          rw [hwhole, hl1, hsl, hu, hmore]
          have h9 : (l1.head? == some 9) = tab := by
            rw [← htab]
            by_cases h : l1.head? = some 9
            · rw [h]; rfl
            · rw [decide_eq_false h]; exact beq_eq_false_iff_ne.2 h
          simp only [h9]
          rfl)
        obtain ⟨mx, hmx⟩ := (hE'.out.below hR.out.bel).mx
        clear hl1 hmore hwhole hl1l hsl htab hu hfa hfb hfc hemp
        obtain ⟨rb, hrb⟩ : ∃ rb, bt rest = rb := ⟨_, rfl⟩
        rw [hrb] at hcut hz2 ⊢
        have hcut2 := Lib.hid (hcut.out wr mx hmx)
        clear hrb hcut hmx
        go_wp2_with fail
        refine hcut2.out.mono ?_
        rintro e w2 ⟨rfl, nd, hw2⟩
        have hR2 := Lib.hid (hR.out.go (show Below wr.heap.size wr w2 from by rw [hw2]; exact below_drewW _ _))
        rw [← hfx.out.1, ← hfx.out.2.2]
        clear hw2 hcut2
        obtain ⟨mb, hmb⟩ : ∃ mb, bt more = mb := ⟨_, rfl⟩
        rw [hmb]
        have hmb := Lib.hid hmb
        go_wp2_with fail
        refine (hpre.out w2).mono ?_
        rintro e w2' ⟨rfl, rfl⟩
        rw [← hfx.out.2.1]
        have hun2 := Lib.hid (hun.out w2' hR2.out.bel hR2.out.tab)
        clear hun hpre
        go_wp2_with fail
        refine hun2.out.mono ?_
        rintro e w3 ⟨i, rfl, hiu, hk3, hbx3⟩
        have hR3 := Lib.hid (hR2.out.call hk3 hbx3)
        clear hk3 hbx3 hun2
        have hw1 : IntKind.i64.wrap ((n : Int) + 1) = (n : Int) + 1 := by rw [IntKind.wrap_i64]; omega
        obtain ⟨W4, hW4⟩ : ∃ W, w3.alloc (.cells #[.int .i64 i.op, .int .i64 i.bn, .int .i64 i.sh, .int .i64 i.cd, .int .i64 i.ds, .int .i64 i.sr, .int .u64 (i.im : Int), .int .i64 i.ba, .int .i64 i.ix, .bool i.hb, .bool i.hi, .int .i64 i.dp, .int .i64 i.lb] 32) = W := ⟨_, rfl⟩
        have hb4 : Below w3.heap.size w3 W4 := by rw [← hW4]; exact below_new w3 _
        have hx4 := Lib.hid (show W4.heap[w3.heap.size]? = some (.cells #[.int .i64 i.op, .int .i64 i.bn, .int .i64 i.sh, .int .i64 i.cd, .int .i64 i.ds, .int .i64 i.sr, .int .u64 (i.im : Int), .int .i64 i.ba, .int .i64 i.ix, .bool i.hb, .bool i.hi, .int .i64 i.dp, .int .i64 i.lb] 32 (0, 0)) from by rw [← hW4]; exact heap_alloc_new _ _)
        have hR4 := Lib.hid (hR3.out.go hb4)
        have hW4' := Lib.hid hW4
        have hiu' := Lib.hid hiu
        have hz' := Lib.hid hz
        clear hW4 hb4 hiu hz
        obtain ⟨q0, q1, q2, q3, q4, q5, q6, q7, q8, q9, q10, q11, q12⟩ := box13 hx4.out
        unfold inV inC
        cases whole with
        | false =>
          have hst := Lib.hid (show stepR rest = none from by rw [hdef.out]; simp)
          have hq := Lib.hid (r16_bad hX.out hR4.out hz'.out hst.out _ hR4.out.bel)
          clear hiu' hdef
          obtain rfl := hW4'.out
          go_wp2
          try rw [Exit.noGoto_ret]
          exact bodyPost_ret (v := .tuple #[.slice none 0 0, .int .i64 ((n : Int) + 1), .int .i64 15]) (by simp [results, Tryz.results16, go_sem, hw1]) rfl hq.out
        | true =>
          cases u with
          | none =>
            have hst := Lib.hid (show stepR rest = none from by rw [hdef.out]; simp)
            have hq := Lib.hid (r16_bad hX.out hR4.out hz'.out hst.out _ hR4.out.bel)
            clear hiu' hdef
            obtain rfl := hW4'.out
            go_wp2
            try rw [Exit.noGoto_ret]
            exact bodyPost_ret (v := .tuple #[.slice none 0 0, .int .i64 ((n : Int) + 1), .int .i64 15]) (by simp [results, Tryz.results16, go_sem, hw1]) rfl hq.out
          | some j =>
            obtain rfl := hiu'.out j rfl
            obtain ⟨gd, hgd⟩ : ∃ gd, (tab == (i.op != 19)) = gd := ⟨_, rfl⟩
            have hst := hdef.out
            have e9 : decide (i.op ≠ 19) = (i.op != 19) := by
              by_cases h : i.op = 19
              · rw [h]; rfl
              · rw [decide_eq_true h]; exact (bne_iff_ne.2 h).symm
            have e8 : (tab = decide (i.op ≠ 19)) ↔ gd = true := by rw [← hgd, e9, beq_iff_eq]
            simp only [if_true, e8] at hst
            clear e9 e8
            cases gd with
            | false =>
              have hq := Lib.hid (r16_bad hX.out hR4.out hz'.out (by simpa using hst) _ hR4.out.bel)
              clear hiu' hdef hst
              obtain rfl := hW4'.out
              go_wp2
              try rw [Exit.noGoto_ret]
              exact bodyPost_ret (v := .tuple #[.slice none 0 0, .int .i64 ((n : Int) + 1), .int .i64 15]) (by simp [results, Tryz.results16, go_sem, hw1]) rfl hq.out
            | true =>
              have hst2 := Lib.hid (show stepR rest = some (i, more) by simpa using hst)
              have hfit := Lib.hid (show Fit i from unl_fit (s := sl) (by rw [hul.out]))
              obtain ⟨W5, hW5⟩ : ∃ W, W4.alloc (.cells #[.int .i64 i.op, .int .i64 i.bn, .int .i64 i.sh, .int .i64 i.cd, .int .i64 i.ds, .int .i64 i.sr, .int .u64 (i.im : Int), .int .i64 i.ba, .int .i64 i.ix, .bool i.hb, .bool i.hi, .int .i64 i.dp, .int .i64 i.lb] 32) = W := ⟨_, rfl⟩
              have hb5 : Below W4.heap.size W4 W5 := by rw [← hW5]; exact below_new W4 _
              have hsz4 : W4.heap.size = w3.heap.size + 1 := by rw [← hW4'.out]; simp
              have hx5 : W5.heap[w3.heap.size + 1]? = some (.cells #[.int .i64 i.op, .int .i64 i.bn, .int .i64 i.sh, .int .i64 i.cd, .int .i64 i.ds, .int .i64 i.sr, .int .u64 (i.im : Int), .int .i64 i.ba, .int .i64 i.ix, .bool i.hb, .bool i.hi, .int .i64 i.dp, .int .i64 i.lb] 32 (0, 0)) := by rw [← hW5, ← hsz4]; exact heap_alloc_new _ _
              have hR5 := Lib.hid (hR4.out.go hb5)
              have hnewc := Lib.hid (show ∀ (j : Nat) (u : Value), (inCells i)[j]? = some u → W5.cell? ((⟨w3.heap.size + 1, 0, none⟩ : Addr).add j) = some u from fun j u hu => by
                have e : ((⟨w3.heap.size + 1, 0, none⟩ : Addr).add j) = ⟨w3.heap.size + 1, j, none⟩ := by rw [Lib.add_plain, Nat.zero_add]
                rw [e, blk_cell hx5]
                simpa [inCells] using hu)
              have hone := Lib.hid (show ∀ v ∈ inCells i, v.oneCell' = true by simp [inCells, Value.oneCell'])
              have hW5' := Lib.hid hW5
              have hk1 := Lib.hid (show acc.length + 1 ≤ maxLen by unfold maxLen; have := hR.out.len; omega)
              have hk2 := Lib.hid (show (acc.length + 1) * 96 ≤ 140737488355328 by have := hR.out.len; omega)
              obtain ⟨hj1, hj2, hj3, hj4⟩ := hi.out
              clear hiu' hdef hW5 hb5 hx5 hsz4 hst
              obtain rfl := hW4'.out
              go_wp2_with (at_builtin; rw [hW5'.out]; refine wpList_append_lies _ rfl _ _ 42 rfl w.heap.size 32 i0 _ 13 96 Tryz.underlying42 hj1 hj2 hj3 hj4 rfl (by decide) u6 acc.length _ rfl hR5.out.own ⟨w3.heap.size + 1, 0, none⟩ 1 1 (inCells i) rfl rfl hnewc.out hone.out (by decide) hk1.out hk2.out hR5.out.bel.size _ rfl ?_; intro g cap w6 hown6 hg6 hat6 hlt6; have hown6 := Lib.hid hown6; have hg6 := Lib.hid hg6; have hat6 := Lib.hid hat6)
              have hR6 := hR5.out.add hst2.out hfit.out hg6.out (v' := .slice (some ⟨g, 0, none⟩) (acc.length + 1) cap) rfl hat6.out hown6.out
              go_roundg more.length
              case measure => have := step_less hst2.out; omega
              case rel => exact ⟨more, n + 1, acc ++ [i], Nat.le_refl _, by go_num, rfl, by rw [hmb.out], hR6⟩
end Go.Proofs.YtmimmnjdgpdjlaaGreatDoor
namespace Go.Proofs.YtmimmnjdgpdjlaaGreatDoor
open Go.RowKit Go.Lib Go.Shelf Go.MapKept

theorem num_any (n : Int) (w : World) : Calls Tryz.prog 15 #[.int .i64 n] w fun e w' => e = .returned (.int .i64 n) ∧ w' = w := by
  go_enter Tryz.func15, Tryz.ntmps15
  go_wp2
  go_ret
  exact ⟨rfl, rfl⟩
set_option maxRecDepth 100000 in
set_option maxHeartbeats 8000000 in
theorem line32_any (i : In) (hf : Fit i) (hm : mayB i = true) (w : World) (hE : Env w) : Calls Tryz.prog 32 #[inV i, .string (bt (lineL i))] w (BoolPost true w) := by
  obtain ⟨W1, hW1⟩ : ∃ W1, w.alloc (.cells #[.int .i64 i.op, .int .i64 i.bn, .int .i64 i.sh, .int .i64 i.cd, .int .i64 i.ds, .int .i64 i.sr, .int .u64 (i.im : Int), .int .i64 i.ba, .int .i64 i.ix, .bool i.hb, .bool i.hi, .int .i64 i.dp, .int .i64 i.lb] 32) = W1 := ⟨_, rfl⟩
  have hb1 : Below w.heap.size w W1 := by rw [← hW1]; exact below_new w _
  have hx1 := Lib.hid (show W1.heap[w.heap.size]? = some (.cells #[.int .i64 i.op, .int .i64 i.bn, .int .i64 i.sh, .int .i64 i.cd, .int .i64 i.ds, .int .i64 i.sr, .int .u64 (i.im : Int), .int .i64 i.ba, .int .i64 i.ix, .bool i.hb, .bool i.hi, .int .i64 i.dp, .int .i64 i.lb] 32 (0, 0)) from by rw [← hW1]; exact heap_alloc_new _ _)
  have hl := line19_any i hf W1 (hE.below hb1)
  unfold LinePost at hl
  rw [hm] at hl
  have hl := Lib.hid hl
  have hb1 := Lib.hid hb1
  have hW1' := Lib.hid hW1
  obtain ⟨z, hz⟩ : ∃ z, bt (lineL i) = z := ⟨_, rfl⟩
  rw [hz] at hl ⊢
  clear hm hf hE hW1 hz
  unfold inV inC at hl ⊢
  obtain ⟨q0, q1, q2, q3, q4, q5, q6, q7, q8, q9, q10, q11, q12⟩ := box13 hx1.out
  go_enter Tryz.func32, Tryz.ntmps32
  go_wp2_with fail
  rw [hW1'.out]
  refine hl.out.mono ?_
  rintro e w2 ⟨rfl, hb2⟩
  have hb2 := Lib.hid (Below.next hb1.out hb2)
  simp only [if_true]
  go_wp2_with fail
  refine (num_any 0 w2).mono ?_
  rintro e w3 ⟨rfl, rfl⟩
  go_wp2
  go_ret
  exact ⟨rfl, hb2.out⟩

theorem known_a : unlL [97, 100, 100, 113, 32, 36, 45, 49, 44, 32, 37, 114, 98, 120] = some ⟨6, 1, 0, 0, 3, 0, 18446744073709551615, 0, 0, false, false, 0, 0⟩ := by kernel_rfl
theorem known_b : unlL [97, 100, 100, 113, 32, 36, 48, 49, 44, 32, 37, 114, 98, 120] = none := by kernel_rfl
theorem known_c : unlL [109, 111, 118, 113, 32, 48, 40, 37, 114, 115, 112, 41, 44, 32, 37, 114, 97, 120] = none := by kernel_rfl
theorem known_d : readX [9, 106, 109, 112, 32, 76, 49, 10] = ([], 0, 15) := by
  have hs : stepR [9, 106, 109, 112, 32, 76, 49, 10] = some ((⟨17, 0, 0, 0, 0, 0, 0, 0, 0, false, false, 0, 1⟩ : In), []) := by kernel_rfl
  have hg : readG [9, 106, 109, 112, 32, 76, 49, 10] 0 [] = ([⟨17, 0, 0, 0, 0, 0, 0, 0, 0, false, false, 0, 1⟩], 1, true) := by
    rw [readG_good (by simp) hs, readG_nil]
    rfl
  unfold readX
  rw [if_neg (by simp)]
  unfold readAll
  rw [hg]
  have hm : mayAll [(⟨17, 0, 0, 0, 0, 0, 0, 0, 0, false, false, 0, 1⟩ : In)] = false := by kernel_rfl
  simp [hm]
theorem known_l1 : mayB ⟨4, 0, 0, 0, 0, 0, 0, 4, 0, true, false, 8, 0⟩ = true ∧ lineL ⟨4, 0, 0, 0, 0, 0, 0, 4, 0, true, false, 8, 0⟩ = [109, 111, 118, 113, 32, 37, 114, 97, 120, 44, 32, 56, 40, 37, 114, 115, 112, 41] := ⟨by kernel_rfl, by kernel_rfl⟩
theorem known_l2 : mayB ⟨3, 0, 0, 0, 3, 0, 0, 4, 1, true, true, 0, 0⟩ = true ∧ lineL ⟨3, 0, 0, 0, 3, 0, 0, 4, 1, true, true, 0, 0⟩ = [109, 111, 118, 113, 32, 40, 37, 114, 115, 112, 44, 37, 114, 99, 120, 44, 56, 41, 44, 32, 37, 114, 98, 120] := ⟨by kernel_rfl, by kernel_rfl⟩
theorem known_l3 : mayB ⟨14, 0, 0, 2, 3, 0, 0, 0, 0, false, false, 0, 0⟩ = true ∧ lineL ⟨14, 0, 0, 2, 3, 0, 0, 0, 0, false, false, 0, 0⟩ = [115, 101, 116, 98, 32, 37, 98, 108] := ⟨by kernel_rfl, by kernel_rfl⟩
theorem unline_as (s : List UInt8) (t : ByteArray) (ht : bt s = t) (r : Option In) (hr : unlL s = r) (w : World) (hE : Env w) (hs : s.length ≤ 2000000) : Calls Tryz.prog 11 #[.string t] w fun e w' => e = .returned (.tuple #[inV (r.getD (inZ 0)), .int .i64 (if r.isSome then 0 else 15)]) ∧ Below w.heap.size w w' := by
  subst ht hr
  exact unline11_any s w hE hs
theorem line_as (i : In) (t : ByteArray) (l : List UInt8) (h : mayB i = true ∧ lineL i = l) (ht : bt l = t) (hf : Fit i) (w : World) (hE : Env w) : Calls Tryz.prog 32 #[inV i, .string t] w (BoolPost true w) := by
  obtain ⟨h1, rfl⟩ := h
  subst ht
  exact line32_any i hf h1 w hE
def inL (op bn sh cd ds sr im : Int) (ba ix : Int) (hb hi : Bool) (dp lb : Int) : Value := .agg #[.int .i64 op, .int .i64 bn, .int .i64 sh, .int .i64 cd, .int .i64 ds, .int .i64 sr, .int .u64 im, .int .i64 ba, .int .i64 ix, .bool hb, .bool hi, .int .i64 dp, .int .i64 lb]
theorem fit_k (i : In) (h : i.im < 18446744073709551616 ∧ -9223372036854775808 ≤ i.dp ∧ i.dp ≤ 9223372036854775807) : Fit i := h
theorem made3 (w : World) (a b c : Obj) : (((w.alloc a).alloc b).alloc c).heap[w.heap.size]? = some a ∧ (((w.alloc a).alloc b).alloc c).heap[w.heap.size + 1]? = some b ∧ (((w.alloc a).alloc b).alloc c).heap[w.heap.size + 1 + 1]? = some c := by
  have hh : ∀ (w : World) (o : Obj), (w.alloc o).heap = w.heap.push o := fun _ _ => rfl
  simp only [hh, Array.getElem?_push, Array.size_push]
  refine ⟨?_, ?_, ?_⟩ <;> (repeat (first | rw [if_pos trivial] | rw [if_neg (by omega)]))
/-- the three instructions of known -/
structure Kn (w W : World) : Prop where
  bel : Below w.heap.size w W
  x1 : W.heap[w.heap.size]? = some (.cells #[.int .i64 4, .int .i64 0, .int .i64 0, .int .i64 0, .int .i64 0, .int .i64 0, .int .u64 0, .int .i64 4, .int .i64 0, .bool true, .bool false, .int .i64 8, .int .i64 0] 32 (0, 0))
  x2 : W.heap[w.heap.size + 1]? = some (.cells #[.int .i64 3, .int .i64 0, .int .i64 0, .int .i64 0, .int .i64 3, .int .i64 0, .int .u64 0, .int .i64 4, .int .i64 1, .bool true, .bool true, .int .i64 0, .int .i64 0] 32 (0, 0))
  x3 : W.heap[w.heap.size + 1 + 1]? = some (.cells #[.int .i64 14, .int .i64 0, .int .i64 0, .int .i64 2, .int .i64 3, .int .i64 0, .int .u64 0, .int .i64 0, .int .i64 0, .bool false, .bool false, .int .i64 0, .int .i64 0] 32 (0, 0))
theorem Kn.next {w W W' : World} (h : Kn w W) (hb : Below W.heap.size W W') : Kn w W' :=
  ⟨Below.next h.bel hb, (hb.block _ (blk_lt h.x1)).trans h.x1, (hb.block _ (blk_lt h.x2)).trans h.x2, (hb.block _ (blk_lt h.x3)).trans h.x3⟩
set_option maxRecDepth 100000 in
set_option maxHeartbeats 16000000 in
theorem known_any (w : World) (hE : Env w) : Calls Tryz.prog 10 #[] w (BoolPost true w) := by
  have hE' := Lib.hid hE
  have hl1 := (fun W (h : Below w.heap.size w W) => line_as ⟨4, 0, 0, 0, 0, 0, 0, 4, 0, true, false, 8, 0⟩ ⟨#[109, 111, 118, 113, 32, 37, 114, 97, 120, 44, 32, 56, 40, 37, 114, 115, 112, 41]⟩ _ known_l1 rfl (by constructor <;> decide) W (hE.below h))
  have hl2 := (fun W (h : Below w.heap.size w W) => line_as ⟨3, 0, 0, 0, 3, 0, 0, 4, 1, true, true, 0, 0⟩ ⟨#[109, 111, 118, 113, 32, 40, 37, 114, 115, 112, 44, 37, 114, 99, 120, 44, 56, 41, 44, 32, 37, 114, 98, 120]⟩ _ known_l2 rfl (by constructor <;> decide) W (hE.below h))
  have hl3 := (fun W (h : Below w.heap.size w W) => line_as ⟨14, 0, 0, 2, 3, 0, 0, 0, 0, false, false, 0, 0⟩ ⟨#[115, 101, 116, 98, 32, 37, 98, 108]⟩ _ known_l3 rfl (by constructor <;> decide) W (hE.below h))
  have hu1 := (fun W (h : Below w.heap.size w W) => unline_as _ ⟨#[97, 100, 100, 113, 32, 36, 45, 49, 44, 32, 37, 114, 98, 120]⟩ rfl _ known_a W (hE.below h) (by decide))
  have hu2 := (fun W (h : Below w.heap.size w W) => unline_as _ ⟨#[97, 100, 100, 113, 32, 36, 48, 49, 44, 32, 37, 114, 98, 120]⟩ rfl _ known_b W (hE.below h) (by decide))
  have hu3 := (fun W (h : Below w.heap.size w W) => unline_as _ ⟨#[109, 111, 118, 113, 32, 48, 40, 37, 114, 115, 112, 41, 44, 32, 37, 114, 97, 120]⟩ rfl _ known_c W (hE.below h) (by decide))
  have hrd := (fun W (h : Below w.heap.size w W) => (show Calls Tryz.prog 16 #[.string ⟨#[9, 106, 109, 112, 32, 76, 49, 10]⟩] W (Read16Post [9, 106, 109, 112, 32, 76, 49, 10] W) from read16_any _ W (hE.below h) (.inl (by decide)) (by decide)))
  have heq : ∀ W, (binOp BinOp.eql 32 (.agg #[.int .i64 6, .int .i64 1, .int .i64 0, .int .i64 0, .int .i64 3, .int .i64 0, .int .u64 18446744073709551615, .int .i64 0, .int .i64 0, .bool false, .bool false, .int .i64 0, .int .i64 0]) (.agg #[.int .i64 6, .int .i64 1, .int .i64 0, .int .i64 0, .int .i64 3, .int .i64 0, .int .u64 18446744073709551615, .int .i64 0, .int .i64 0, .bool false, .bool false, .int .i64 0, .int .i64 0])).run Tryz.prog W = .ok (.bool true) W := fun W => by
    have h := run_eq13 ⟨6, 1, 0, 0, 3, 0, 18446744073709551615, 0, 0, false, false, 0, 0⟩ ⟨6, 1, 0, 0, 3, 0, 18446744073709551615, 0, 0, false, false, 0, 0⟩ W
    rw [decide_eq_true rfl] at h
    exact h
  unfold Read16Post at hrd
  rw [known_d] at hrd
  clear hE
  unfold inV inC at hl1 hl2 hl3 hu1 hu2 hu3
  dsimp only [Option.getD, Option.isSome, inZ] at hu1 hu2 hu3
  simp only [if_true, Bool.false_eq_true, if_false] at hu1 hu2 hu3
  dsimp only [List.length_nil] at hl1 hl2 hl3 hu1 hu2 hu3 hrd
  have hl1 := Lib.hid hl1
  have hl2 := Lib.hid hl2
  have hl3 := Lib.hid hl3
  have hu1 := Lib.hid hu1
  have hu2 := Lib.hid hu2
  have hu3 := Lib.hid hu3
  have hrd := Lib.hid hrd
  obtain ⟨W3, hW3⟩ : ∃ W, (((w.alloc (.cells #[.int .i64 4, .int .i64 0, .int .i64 0, .int .i64 0, .int .i64 0, .int .i64 0, .int .u64 0, .int .i64 4, .int .i64 0, .bool true, .bool false, .int .i64 8, .int .i64 0] 32)).alloc (.cells #[.int .i64 3, .int .i64 0, .int .i64 0, .int .i64 0, .int .i64 3, .int .i64 0, .int .u64 0, .int .i64 4, .int .i64 1, .bool true, .bool true, .int .i64 0, .int .i64 0] 32)).alloc (.cells #[.int .i64 14, .int .i64 0, .int .i64 0, .int .i64 2, .int .i64 3, .int .i64 0, .int .u64 0, .int .i64 0, .int .i64 0, .bool false, .bool false, .int .i64 0, .int .i64 0] 32)) = W := ⟨_, rfl⟩
  have hK3 := Lib.hid (show Kn w W3 from by
    obtain ⟨m0, m1, m2⟩ := made3 w (.cells #[.int .i64 4, .int .i64 0, .int .i64 0, .int .i64 0, .int .i64 0, .int .i64 0, .int .u64 0, .int .i64 4, .int .i64 0, .bool true, .bool false, .int .i64 8, .int .i64 0] 32) (.cells #[.int .i64 3, .int .i64 0, .int .i64 0, .int .i64 0, .int .i64 3, .int .i64 0, .int .u64 0, .int .i64 4, .int .i64 1, .bool true, .bool true, .int .i64 0, .int .i64 0] 32) (.cells #[.int .i64 14, .int .i64 0, .int .i64 0, .int .i64 2, .int .i64 3, .int .i64 0, .int .u64 0, .int .i64 0, .int .i64 0, .bool false, .bool false, .int .i64 0, .int .i64 0] 32)
    rw [← hW3]
    exact ⟨(((Below.refl _ w).alloc (Nat.le_refl _) _).alloc (by simp) _).alloc (by simp; omega) _, m0, m1, m2⟩)
  have hW3' := Lib.hid hW3
  have hg := guard32
  clear hW3
  go_enter Tryz.func10, Tryz.ntmps10
  go_wp2_with fail
  rw [hW3'.out]
  refine (hu1.out _ hK3.out.bel).mono ?_
  rintro e w4 ⟨rfl, hb4⟩
  obtain ⟨w5, hw5⟩ : ∃ W, w4.alloc (.cells #[.int .i64 6, .int .i64 1, .int .i64 0, .int .i64 0, .int .i64 3, .int .i64 0, .int .u64 18446744073709551615, .int .i64 0, .int .i64 0, .bool false, .bool false, .int .i64 0, .int .i64 0] 32) = W := ⟨_, rfl⟩
  have hb5 : Below w4.heap.size w4 w5 := by rw [← hw5]; exact below_new w4 _
  have hx4 := Lib.hid (show w5.heap[w4.heap.size]? = some (.cells #[.int .i64 6, .int .i64 1, .int .i64 0, .int .i64 0, .int .i64 3, .int .i64 0, .int .u64 18446744073709551615, .int .i64 0, .int .i64 0, .bool false, .bool false, .int .i64 0, .int .i64 0] 32 (0, 0)) from by rw [← hw5]; exact heap_alloc_new _ _)
  have hK5 := Lib.hid ((hK3.out.next hb4).next hb5)
  have hw5' := Lib.hid hw5
  clear hb4 hb5 hw5
  go_wp2_with fail
  rw [hw5'.out]
  refine (hu2.out _ hK5.out.bel).mono ?_
  rintro e w6 ⟨rfl, hb6⟩
  obtain ⟨w7, hw7⟩ : ∃ W, w6.alloc (.cells #[.int .i64 0, .int .i64 0, .int .i64 0, .int .i64 0, .int .i64 0, .int .i64 0, .int .u64 0, .int .i64 0, .int .i64 0, .bool false, .bool false, .int .i64 0, .int .i64 0] 32) = W := ⟨_, rfl⟩
  have hb7 : Below w5.heap.size w5 w7 := by rw [← hw7]; exact Below.next hb6 (below_new w6 _)
  have hK7 := Lib.hid (hK5.out.next hb7)
  have hx7 := Lib.hid ((hb7.block _ (blk_lt hx4.out)).trans hx4.out)
  have hw7' := Lib.hid hw7
  clear hb6 hb7 hw7
  go_wp2_with fail
  rw [hw7'.out]
  refine (hu3.out _ hK7.out.bel).mono ?_
  rintro e w8 ⟨rfl, hb8⟩
  obtain ⟨w9, hw9⟩ : ∃ W, w8.alloc (.cells #[.int .i64 0, .int .i64 0, .int .i64 0, .int .i64 0, .int .i64 0, .int .i64 0, .int .u64 0, .int .i64 0, .int .i64 0, .bool false, .bool false, .int .i64 0, .int .i64 0] 32) = W := ⟨_, rfl⟩
  have hb9 : Below w7.heap.size w7 w9 := by rw [← hw9]; exact Below.next hb8 (below_new w8 _)
  have hK9 := Lib.hid (hK7.out.next hb9)
  have hx9 := Lib.hid ((hb9.block _ (blk_lt hx7.out)).trans hx7.out)
  have hw9' := Lib.hid hw9
  clear hb8 hb9 hw9
  go_wp2_with fail
  rw [hw9'.out]
  refine (hrd.out _ hK9.out.bel).mono ?_
  rintro e w10 ⟨A, c, rfl, _, hb10⟩
  have hK10 := Lib.hid (hK9.out.next hb10)
  have hx10 := Lib.hid ((hb10.block _ (blk_lt hx9.out)).trans hx9.out)
  clear hb10
  obtain ⟨q0, q1, q2, q3, q4, q5, q6, q7, q8, q9, q10, q11, q12⟩ := box13 hK10.out.x1
  go_wp2_with fail
  refine (hl1.out _ hK10.out.bel).mono ?_
  rintro e w11 ⟨rfl, hb11⟩
  have hK11 := Lib.hid (hK10.out.next hb11)
  have hx11 := Lib.hid ((hb11.block _ (blk_lt hx10.out)).trans hx10.out)
  clear hb11 q0 q1 q2 q3 q4 q5 q6 q7 q8 q9 q10 q11 q12
  obtain ⟨q0, q1, q2, q3, q4, q5, q6, q7, q8, q9, q10, q11, q12⟩ := box13 hK11.out.x2
  go_wp2_with fail
  refine (hl2.out _ hK11.out.bel).mono ?_
  rintro e w12 ⟨rfl, hb12⟩
  have hK12 := Lib.hid (hK11.out.next hb12)
  have hx12 := Lib.hid ((hb12.block _ (blk_lt hx11.out)).trans hx11.out)
  clear hb12 q0 q1 q2 q3 q4 q5 q6 q7 q8 q9 q10 q11 q12
  obtain ⟨q0, q1, q2, q3, q4, q5, q6, q7, q8, q9, q10, q11, q12⟩ := box13 hK12.out.x3
  go_wp2_with fail
  refine (hl3.out _ hK12.out.bel).mono ?_
  rintro e w13 ⟨rfl, hb13⟩
  have hK13 := Lib.hid (hK12.out.next hb13)
  have hx13 := Lib.hid ((hb13.block _ (blk_lt hx12.out)).trans hx12.out)
  clear hb13 q0 q1 q2 q3 q4 q5 q6 q7 q8 q9 q10 q11 q12
  obtain ⟨q0, q1, q2, q3, q4, q5, q6, q7, q8, q9, q10, q11, q12⟩ := box13 hx13.out
  go_wp2_with fail
  refine (num_any 0 _).mono ?_
  rintro e w14 ⟨rfl, rfl⟩
  go_wp2_with fail
  refine (num_any 15 _).mono ?_
  rintro e w15 ⟨rfl, rfl⟩
  go_wp2_with fail
  refine (num_any 15 _).mono ?_
  rintro e w16 ⟨rfl, rfl⟩
  go_wp2_with fail
  refine (num_any 15 _).mono ?_
  rintro e w17 ⟨rfl, rfl⟩
  go_wp2
  go_ret
  exact ⟨rfl, hK13.out.bel⟩
end Go.Proofs.YtmimmnjdgpdjlaaGreatDoor
