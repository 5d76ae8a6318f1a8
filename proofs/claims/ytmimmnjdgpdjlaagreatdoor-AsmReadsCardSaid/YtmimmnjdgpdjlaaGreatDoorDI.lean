/- The reference's Read. -/
import Derived.Test.YtmimmnjdgpdjlaaGreatDoorDG
import Derived.Test.YtmimmnjdgpdjlaaGreatDoorAQ
set_option linter.unusedSimpArgs false
set_option linter.unusedVariables false
namespace Go.Proofs.YtmimmnjdgpdjlaaGreatDoor
open Go.RowKit Go.Lib Go.Shelf

def Read17Post (S : List UInt8) (w : World) (e : Ending) (w' : World) : Prop :=
  ∃ A c, e = .returned (.tuple #[.slice A (readAll S).1.length c, .int .i64 ((readAll S).2.1 : Int), .int .i64 ((readAll S).2.2 : Int)]) ∧ InsAt w' (readAll S).1 A ∧ Below w.heap.size w w'
theorem drop_of {S X b : List UInt8} (h : S = X ++ b) : S.drop X.length = b := by
  subst h
  exact List.drop_left
theorem read_cut {S : List UInt8} {p : Nat} (hp : p ≤ S.length) (hc : (S.drop p).contains 10 = true) : (cutL 10 (S.drop p)).1.length < S.length - p ∧ (cutL 10 (S.drop p)).2.length ≤ S.length ∧ S.drop (S.length - (cutL 10 (S.drop p)).2.length) = (cutL 10 (S.drop p)).2 ∧ p < S.length - (cutL 10 (S.drop p)).2.length := by
  obtain ⟨h1, h2⟩ := cut_has 10 (S.drop p) (by simpa using hc)
  generalize (cutL 10 (S.drop p)).1 = a at h1 h2 ⊢
  generalize (cutL 10 (S.drop p)).2 = b at h1 ⊢
  have hl := congrArg List.length h1
  rw [List.length_drop, List.length_append, List.length_cons] at hl
  refine ⟨by omega, by omega, ?_, by omega⟩
  have e : S = (S.take p ++ (a ++ [10])) ++ b := by
    rw [List.append_assoc, List.append_assoc, List.singleton_append, ← h1, List.take_append_drop]
  have hn : S.length - b.length = (S.take p ++ (a ++ [10])).length := by
    rw [List.length_append, List.length_append, List.length_take, List.length_singleton]
    omega
  rw [hn]
  exact drop_of e
theorem opt_none {u : Option In} (h : u.isSome = false) : u = none := by
  cases u with
  | none => rfl
  | some j => cases h
theorem opt_some {u : Option In} {i d : In} (h : u.isSome = true) (hi : u.getD d = i) : u = some i := by
  cases u with
  | none => cases h
  | some j => rw [show j = i from hi]
theorem alloc_size (w : World) (o : Obj) : (w.alloc o).heap.size = w.heap.size + 1 := by simp
def stepW (tab : Bool) (u : Option In) (more : List UInt8) : Option (In × List UInt8) := match u with
  | some i => if tab = decide (i.op ≠ 19) then some (i, more) else none
  | none => none
theorem step_whole {rest : List UInt8} (h : rest.contains 10 = true) : stepR rest = stepW ((cutL 10 rest).1.head? == some 9) (unlL (trimP 9 (cutL 10 rest).1)) (cutL 10 rest).2 := by
  unfold stepR stepW
  rw [h]
  rfl
theorem read_nocut {S : List UInt8} {p : Nat} (hc : (S.drop p).contains 10 = false) : (cutL 10 (S.drop p)).1.length = S.length - p := by
  rw [cut_none 10 _ (by simpa using hc), List.length_drop]
structure RrSt (w : World) (S : List UInt8) (p n : Nat) (acc : List In) (v : Value) (wr : World) : Prop where
  bel : Below w.heap.size w wr
  own : wr.ownsRow w.heap.size 32 13 v acc.length (insCells acc)
  eq : readG S 0 [] = readG (S.drop p) n acc
  len : acc.length = n
  le : n ≤ p
  pl : p ≤ S.length
  fit : ∀ i ∈ acc, Fit i
theorem RrSt.go {w : World} {S : List UInt8} {p n : Nat} {acc : List In} {v : Value} {wr w2 : World} (h : RrSt w S p n acc v wr) (hb : Below wr.heap.size wr w2) : RrSt w S p n acc v w2 :=
  ⟨Below.next h.bel hb, own_keep h.own (fun g hg => hb.block g (own_at h.own hg).2), h.eq, h.len, h.le, h.pl, h.fit⟩
theorem r17_bad {w : World} {S : List UInt8} {p n : Nat} {acc : List In} {v : Value} {wr : World} (h : RrSt w S p n acc v wr) (h0 : p < S.length) (hs : stepR (S.drop p) = none) (w' : World) (hb : Below w.heap.size w w') :
    Read17Post S w (.returned (.tuple #[.slice none 0 0, .int .i64 ((n : Int) + 1), .int .i64 15])) w' := by
  have e : readAll S = ([], n + 1, 15) := by
    unfold readAll
    rw [h.eq, readG_bad (fun e => by have := congrArg List.length e; rw [List.length_drop, List.length_nil] at this; omega) hs]
    rfl
  unfold Read17Post
  rw [e]
  exact ⟨none, 0, by simp, CellsAt.nil _, hb⟩
theorem r17_no {w : World} {S : List UInt8} {p n : Nat} {acc : List In} {v : Value} {wr : World} (h : RrSt w S p n acc v wr) (h0 : S.length ≤ p) (hm : mayAll acc = false) (w' : World) (hb : Below w.heap.size w w') :
    Read17Post S w (.returned (.tuple #[.slice none 0 0, .int .i64 0, .int .i64 15])) w' := by
  have e : readAll S = ([], 0, 15) := by
    unfold readAll
    rw [h.eq, List.drop_eq_nil_of_le h0, readG_nil]
    simp [hm]
  unfold Read17Post
  rw [e]
  exact ⟨none, 0, by simp, CellsAt.nil _, hb⟩
theorem r17_yes {w : World} {S : List UInt8} {p n : Nat} {acc : List In} {A : Option Addr} {c : Nat} {v : Value} {wr : World} (h : RrSt w S p n acc v wr) (h0 : S.length ≤ p) (hm : mayAll acc = true) (w' : World) (hi : InsAt w' acc A) (hb : Below w.heap.size w w') :
    Read17Post S w (.returned (.tuple #[.slice A acc.length c, .int .i64 0, .int .i64 0])) w' := by
  have e : readAll S = (acc, 0, 0) := by
    unfold readAll
    rw [h.eq, List.drop_eq_nil_of_le h0, readG_nil]
    simp [hm]
  unfold Read17Post
  rw [e]
  exact ⟨A, c, by simp, hi, hb⟩
theorem RrSt.add {w : World} {S : List UInt8} {p n p2 : Nat} {acc : List In} {v v' : Value} {W W' : World} {i : In} (h : RrSt w S p n acc v W) (hs : stepR (S.drop p) = some (i, S.drop p2)) (hp : p < p2) (hp2 : p2 ≤ S.length) (hf : Fit i) (hg : W.grownBy W' v.ownBlock)
    (ho : W'.ownsRow w.heap.size 32 13 v' (acc.length + 1) (insCells (acc ++ [i]))) : RrSt w S p2 (n + 1) (acc ++ [i]) v' W' :=
  ⟨grown_below h.bel h.own hg (Nat.le_refl _), by rw [List.length_append]; exact ho, by rw [h.eq, readG_good (step_ne hs) hs], by simp [h.len], by have := h.le; omega, hp2, fun j hj => by
    rcases List.mem_append.1 hj with hj | hj
    · exact h.fit j hj
    · simp at hj; subst hj; exact hf⟩
theorem wpList_append_one {ops : Array Oper} {rest : List Oper} {o : Oper} {a : Act} {w : World} {Q : Exit → Act → World → Prop} (hgd : o.guard = none) (s x : Operand) (ho : o.op = .call { callee := .builtin .append, args := #[s, x], argTypes := #[42, 42] })
    (base : Nat) (v : Value) (n : Nat) (L : List In) (hs : a.eval s = v) (hown : w.ownsRow base 32 13 v n (insCells L)) (b : Nat) (i : In) (hx : a.eval x = .slice (some ⟨b, 0, none⟩) 1 1) (hat : w.heap[b]? = some (.cells (insCells [i]).toArray 32 (0, 0)))
    (hle : n ≤ 2000000) (hbase : base ≤ w.heap.size)
    (h : ∀ v' w', w'.ownsRow base 32 13 v' (n + 1) (insCells (L ++ [i])) → w.grownBy w' v.ownBlock → wpList Tryz.prog ops Q rest (a.put o.dst v') w') : wpList Tryz.prog ops Q (o :: rest) a w := by
  obtain ⟨i0, hi, hz, hsz, hb⟩ := info_parts info32
  refine wpList_append_own w hgd s x 42 ho base 32 i0 _ 13 96 und42 hi hz hsz hb rfl (by decide) v n (insCells L) hs hown ⟨b, 0, none⟩ 1 1 (insCells [i]) hx (by rw [ins_size]; rfl) (ins_cell hat) (fun u hu => ins_one u hu) (by unfold maxLen; omega) (by omega) hbase ?_
  intro v' w' h1 h2 _
  exact h v' w' (by rw [ins_app]; exact h1) h2
set_option maxRecDepth 100000 in
set_option maxHeartbeats 8000000 in
theorem read17_any (S : List UInt8) (w : World) (hE : Env w) (hs : S.length ≤ 1000000) : Calls Tryz.prog 17 #[.string (bt S)] w (Read17Post S w) := by
  have hsz : (bt S).size = S.length := bt_size S
  obtain ⟨sb, hsb⟩ : ∃ sb, bt S = sb := ⟨_, rfl⟩
  rw [hsb] at hsz ⊢
  have hSl := Lib.hid (show sb.data.toList = S from by rw [← hsb, bt_list])
  have hsz' := Lib.hid hsz
  have hs' := Lib.hid hs
  have hE' := Lib.hid (fun W (h : Below w.heap.size w W) => hE.below h)
  obtain ⟨Z, hZ⟩ : ∃ Z, Read17Post S w = Z := ⟨_, rfl⟩
  have hZ' := Lib.hid hZ
  rw [hZ]
  clear hsb hs hE hsz hZ
  go_enter Tryz.func17, Tryz.ntmps17
  go_wp2_with fail
  go_loopg [5, 6, 7, 8, 9, 10, 11, 12] S.length (fun g s5 s6 s7 s8 s9 s10 s11 s12 wr => ∃ (p n : Nat) (acc : List In), p + g = S.length ∧ s6 = .int .i64 n ∧ s7 = .int .i64 p ∧ RrSt w S p n acc s5 wr)
  case atStart => exact ⟨0, 0, [], by omega, rfl, rfl, Below.refl _ _, World.ownsRow_nil _ _ _ _, rfl, rfl, Nat.le_refl _, Nat.zero_le _, fun i hi => by cases hi⟩
  case round =>
    obtain ⟨p, n, acc, hpg, rfl, rfl, hR⟩ := hrel
    have hR := Lib.hid hR
    have hle := hR.out.le
    have hSle := hs'.out
    have hsz := hsz'.out
    cases gk with
    | zero =>
      have e0 : ¬ (p : Int) < (sb.size : Int) := by omega
      have hp : S.length ≤ p := by omega
      obtain ⟨A, c, hv, hIns, hcl⟩ := ins_own hR.out.own
      have hmay := rmay28_any acc A c wr hIns hR.out.fit (by have := hR.out.len; omega)
      unfold BoolPost at hmay
      have hyes := Lib.hid (fun h W (hb : Below wr.heap.size wr W) => r17_yes (c := c) hR.out hp h W (hIns.keep hb) (Below.next hR.out.bel hb))
      have hno := Lib.hid (fun h W (hb : Below wr.heap.size wr W) => r17_no hR.out hp h W (Below.next hR.out.bel hb))
      rw [hZ'.out] at hyes hno
      generalize mayAll acc = mv at hmay hyes hno
      rw [← hv] at hmay hyes
      have hmay := Lib.hid hmay
      clear hv hIns hcl hle hSle hsz hp hpg
      go_wp2_with fail
      refine hmay.out.mono ?_
      rintro e w2 ⟨rfl, hb2⟩
      have hb2 := Lib.hid hb2
      clear hmay
      cases mv with
      | false =>
        have hq := Lib.hid (hno.out rfl w2 hb2.out)
        clear hno hyes
        go_wp2
        try rw [Exit.noGoto_ret]
        first | exact hq.out | (go_ret3; exact hq.out)
      | true =>
        have hq := Lib.hid (hyes.out rfl w2 hb2.out)
        clear hno hyes
        go_wp2
        try rw [Exit.noGoto_ret]
        first | exact hq.out | (go_ret3; exact hq.out)
    | succ g2 =>
      have hp : p < S.length := by omega
      have e0 : (p : Int) < (sb.size : Int) := by omega
      have hbad := Lib.hid (fun hst W hb => (hZ'.out ▸ r17_bad hR.out hp hst W hb : Z (.returned (.tuple #[.slice none 0 0, .int .i64 ((n : Int) + 1), .int .i64 15])) W))
      have hcut := fun W => cut42_any (sb.extract p sb.size) 10 10 rfl W (by rw [extract_from, bt_size, List.length_drop, size_list]; omega)
      rw [show (sb.extract p sb.size).data.toList = S.drop p from by rw [extract_from, bt_list, hSl.out]] at hcut
      have hex := extract_from sb p
      rw [hSl.out] at hex
      have hyc := read_cut (S := S) (p := p) (by omega)
      have hnc := read_nocut (S := S) (p := p)
      obtain ⟨l1, hl1⟩ : ∃ l1, (cutL 10 (S.drop p)).1 = l1 := ⟨_, rfl⟩
      obtain ⟨more, hmore⟩ : ∃ more, (cutL 10 (S.drop p)).2 = more := ⟨_, rfl⟩
      obtain ⟨whole, hwhole⟩ : ∃ b, (S.drop p).contains 10 = b := ⟨_, rfl⟩
      rw [hl1, hmore] at hcut
      rw [hl1, hmore, hwhole] at hyc
      rw [hl1, hwhole] at hnc
      have hL1s : (bt l1).size = l1.length := bt_size l1
      have hMs : (bt more).size = more.length := bt_size more
      have hL1h := Lib.hid (show (bt l1).data.toList = l1 from bt_list l1)
      obtain ⟨L1, hL1⟩ : ∃ x, bt l1 = x := ⟨_, rfl⟩
      obtain ⟨MO, hMO⟩ : ∃ x, bt more = x := ⟨_, rfl⟩
      rw [hL1, hMO] at hcut
      rw [hL1] at hL1s hL1h
      rw [hMO] at hMs
      have hcut := Lib.hid hcut
      have hw1 : (p : Int) ≤ (sb.size : Int) := by omega
      have hw2 : IntKind.i64.wrap ((sb.size : Int) - (p : Int)) = (sb.size : Int) - (p : Int) := by rw [IntKind.wrap_i64]; omega
      have hw4 : IntKind.i64.wrap ((n : Int) + 1) = (n : Int) + 1 := by rw [IntKind.wrap_i64]; omega
      cases whole with
      | false =>
        have e1 : ((L1.size : Int) == (sb.size : Int) - (p : Int)) = true := by
          have h1 := hnc rfl
          have h2 : (L1.size : Int) = (sb.size : Int) - (p : Int) := by omega
          rw [h2]
          exact beq_self_eq_true _
        have hst := Lib.hid (show stepR (S.drop p) = none from by unfold stepR; rw [hwhole]; rfl)
        clear hyc hnc hex hL1s hMs hle hSle hsz hp hpg hl1 hmore hL1 hMO hwhole
        go_wp2_with fail
        refine (hcut.out _).mono ?_
        rintro e w2 ⟨rfl, hb2⟩
        have hR := Lib.hid (hR.out.go hb2)
        clear hb2
        have hq := Lib.hid (hbad.out hst.out _ hR.out.bel)
        clear hbad
        go_wp2
        try rw [Exit.noGoto_ret]
        first | exact hq.out | (go_ret3; exact hq.out)
      | true =>
        obtain ⟨hy1, hy2, hy3, hy4⟩ := hyc rfl
        obtain ⟨p2, hp2⟩ : ∃ x, S.length - more.length = x := ⟨_, rfl⟩
        rw [hp2] at hy3 hy4
        have e1 : ((L1.size : Int) == (sb.size : Int) - (p : Int)) = false := by
          have h2 : (L1.size : Int) ≠ (sb.size : Int) - (p : Int) := by omega
          exact beq_eq_false_iff_ne.2 h2
        have hw3 : IntKind.i64.wrap ((sb.size : Int) - (MO.size : Int)) = (p2 : Int) := by rw [IntKind.wrap_i64]; omega
        have hy := Lib.hid (And.intro hy3 (And.intro hy4 (show p2 ≤ S.length from by omega)))
        obtain ⟨tab, htab⟩ : ∃ t, (l1.head? == some 9) = t := ⟨_, rfl⟩
        obtain ⟨sl, hsl⟩ : ∃ x, trimP 9 l1 = x := ⟨_, rfl⟩
        have htab' := Lib.hid htab
        have hsl' := Lib.hid hsl
        have hsll : sl.length ≤ 2000000 := by rw [← hsl]; exact Nat.le_trans (trimP_len 9 l1) (by omega)
        have hun := fun W hE => unline12_any sl W hE hsll
        unfold Unl12Post at hun
        have hfu := Lib.hid (fun i (h : unlL sl = some i) => unl_fit (s := sl) h)
        obtain ⟨u, hu⟩ : ∃ u, unlL sl = u := ⟨_, rfl⟩
        have hdef := step_whole hwhole
        rw [hl1, hmore, hsl, htab, hu] at hdef
        rw [hu] at hun hfu
        obtain ⟨SL, hSLe⟩ : ∃ x, bt sl = x := ⟨_, rfl⟩
        rw [hSLe] at hun
        have hSL := Lib.hid hSLe
        have hL1z := Lib.hid (show L1.size ≤ 1000000 from by omega)
        have hlen := Lib.hid hR.out.len
        have hgg := Lib.hid hpg
        clear hyc hnc hex hMs hle hSle hsz hp hpg hl1 hmore hL1 hMO hy1 hy2 hy3 hy4 hp2 htab hsl hsll hu hSLe hwhole
        go_wp2_with fail
        refine (hcut.out _).mono ?_
        rintro e w2 ⟨rfl, hb2⟩
        have hR := Lib.hid (hR.out.go hb2)
        clear hb2 hcut
        clear hL1s
        go_upto_region 10 with fail
        clear e1 hw1 hw2 e0 hw3 hw4
        go_cut [10] from 13 to 68 (fun s10 wx => s10 = .bool tab ∧ wx = w2)
        case first =>
          by_cases h0 : L1.size = 0
          · have e1 : ¬ (0 : Int) < (L1.size : Int) := by omega
            have hv := Lib.hid (show false = tab from by
              have hn : l1 = [] := by rw [← hL1h.out]; exact bt_empty_iff L1 h0
              rw [← htab'.out, hn]; rfl)
            clear h0
            go_wp2_with fail
            go_meet
            case rel => exact ⟨by rw [← hv.out], rfl⟩
          · have hp : 0 < L1.size := by omega
            have e1 : (0 : Int) < (L1.size : Int) := by omega
            have hv := Lib.hid (show (((L1[0]'hp).toNat : Int) == 9) = tab from by
              rw [← htab'.out, ← hL1h.out, head_get L1 hp]
              by_cases h : L1[0]'hp = 9
              · rw [h]; rfl
              · have : (L1[0]'hp).toNat ≠ (9 : UInt8).toNat := fun e => h (UInt8.toNat_inj.1 e)
                have h9 : (9 : UInt8).toNat = 9 := rfl
                rw [show (some (L1[0]'hp) == some 9) = false from beq_eq_false_iff_ne.2 fun e => h (Option.some.inj e)]
                simp; omega)
            clear h0
            go_wp2_with fail
            go_meet
            case rel => exact ⟨by rw [← hv.out], rfl⟩
        case rest =>
          obtain ⟨rfl, hwc⟩ := hcut
          obtain rfl := hwc.symm
          go_upto_if 47 with fail
          go_cut [8] from 13 to 68 (fun s8 wx => s8 = .string SL ∧ wx = w2)
          case first =>
            cases tab with
            | false =>
              have hv := Lib.hid (show L1 = SL from by
                rw [← hSL.out, ← hsl'.out, trim_of_ne 9 l1 (fun e => by have := htab'.out; rw [e] at this; cases this), ← hL1h.out, bt_data])
              go_wp2_with fail
              go_meet
              case rel => exact ⟨by rw [← hv.out], rfl⟩
            | true =>
              have hh : l1.head? = some 9 := by have := htab'.out; simpa using this
              have hw1 : (1 : Int) ≤ (L1.size : Int) := by
                rcases Nat.eq_zero_or_pos L1.size with h | h
                · rw [← hL1h.out, bt_empty_iff L1 h] at hh; cases hh
                · omega
              have hv := Lib.hid (show L1.extract 1 L1.size = SL from by
                rw [← hSL.out, ← hsl'.out, trim_tail 9 l1 hh, tail_extract, hL1h.out])
              clear hh
              go_wp2_with fail
              go_meet
              case rel => exact ⟨by rw [← hv.out], rfl⟩
          case rest =>
            obtain ⟨rfl, hwc⟩ := hcut
            obtain rfl := hwc.symm
            obtain ⟨i, hi⟩ : ∃ i, u.getD (inZ 0) = i := ⟨_, rfl⟩
            obtain ⟨ok, hok⟩ : ∃ i, u.isSome = i := ⟨_, rfl⟩
            rw [hi, hok] at hun
            unfold inV inC at hun
            have hun := Lib.hid hun
            have hi := Lib.hid hi
            have hok := Lib.hid hok
            have hdef := Lib.hid hdef
            go_wp2_with fail
            refine (hun.out _ (hE'.out _ hR.out.bel)).mono ?_
            rintro e w4 ⟨rfl, hb4⟩
            have hR := Lib.hid (hR.out.go hb4)
            clear hb4 hun
            have hR := Lib.hid (hR.out.go (below_new w4 (.cells #[.int .i64 i.op, .int .i64 i.bn, .int .i64 i.sh, .int .i64 i.cd, .int .i64 i.ds, .int .i64 i.sr, .int .u64 (i.im : Int), .int .i64 i.ba, .int .i64 i.ix, .bool i.hb, .bool i.hi, .int .i64 i.dp, .int .i64 i.lb] 32)))
            have hx := heap_alloc_new w4 (.cells #[.int .i64 i.op, .int .i64 i.bn, .int .i64 i.sh, .int .i64 i.cd, .int .i64 i.ds, .int .i64 i.sr, .int .u64 (i.im : Int), .int .i64 i.ba, .int .i64 i.ix, .bool i.hb, .bool i.hi, .int .i64 i.dp, .int .i64 i.lb] 32)
            obtain ⟨q0, q1, q2, q3, q4, q5, q6, q7, q8, q9, q10, q11, q12⟩ := box13 hx
            clear hx
            cases ok with
            | false =>
              have hun0 : u = none := opt_none hok.out
              have hst := Lib.hid (show stepR (S.drop p) = none from by rw [hdef.out, hun0]; rfl)
              have hq := Lib.hid (hbad.out hst.out _ hR.out.bel)
              clear hbad hun0 hdef
              go_wp2
              try rw [Exit.noGoto_ret]
              first | exact hq.out | (go_ret3; exact hq.out)
            | true =>
              have hui : u = some i := opt_some hok.out hi.out
              have hd2 := hdef.out
              rw [hui] at hd2
              have hfit := Lib.hid (hfu.out i (by rw [hui]))
              have hd2 := Lib.hid (show stepR (S.drop p) = if tab = decide (i.op ≠ 19) then some (i, more) else none from hd2)
              clear hui hdef
              cases tab with
              | false =>
                by_cases h19 : i.op = 19
                · have e3 : (i.op != 19) = false := by simp [h19]
                  have e4 : (i.op == 19) = true := by simp [h19]
                  have hst := Lib.hid (show stepR (S.drop p) = some (i, S.drop p2) from by rw [hd2.out, if_pos (by simp [h19]), hy.out.1])
                  clear h19 hbad
                  go_wp2_with (refine wpList_sliceI rfl 1 _ rfl [i] rfl (by omega) (by omega) ?cx1 ?_)
                  case cx1 => rfl
                  intro b6 w6 hb6 hbb hx6
                  have hR := Lib.hid (hR.out.go (by rw [alloc_size]; exact hbb))
                  have hx6 := Lib.hid hx6
                  clear hbb hb6
                  go_wp2_with (at_builtin; refine wpList_append_one rfl _ _ rfl w.heap.size _ acc.length acc rfl hR.out.own b6 i rfl hx6.out ?cy1 hR.out.bel.size ?_)
                  case cy1 => have := hR.out.len; have := hR.out.le; have := hR.out.pl; have := hs'.out; omega
                  intro v7 w7 ho7 hg7
                  have hR7 := Lib.hid (hR.out.add hst.out hy.out.2.1 hy.out.2.2 hfit.out hg7 ho7)
                  clear ho7 hg7 hx6
                  go_wp2
                  go_roundg (S.length - p2)
                  case measure => have := hy.out; have := hR.out.pl; have := hgg.out; omega
                  case rel => exact ⟨p2, n + 1, acc ++ [i], by have := hy.out; omega, by go_num, rfl, hR7.out⟩
                · have e3 : (i.op != 19) = true := by simp [h19]
                  have e4 : (i.op == 19) = false := by simp [h19]
                  have hst := Lib.hid (show stepR (S.drop p) = none from by rw [hd2.out, if_neg (by simp [h19])])
                  have hq := Lib.hid (hbad.out hst.out _ hR.out.bel)
                  clear h19 hbad
                  go_wp2
                  try rw [Exit.noGoto_ret]
                  first | exact hq.out | (go_ret3; exact hq.out)
              | true =>
                by_cases h19 : i.op = 19
                · have e3 : (i.op != 19) = false := by simp [h19]
                  have e4 : (i.op == 19) = true := by simp [h19]
                  have hst := Lib.hid (show stepR (S.drop p) = none from by rw [hd2.out, if_neg (by simp [h19])])
                  have hq := Lib.hid (hbad.out hst.out _ hR.out.bel)
                  clear h19 hbad
                  go_wp2
                  try rw [Exit.noGoto_ret]
                  first | exact hq.out | (go_ret3; exact hq.out)
                · have e3 : (i.op != 19) = true := by simp [h19]
                  have e4 : (i.op == 19) = false := by simp [h19]
                  have hst := Lib.hid (show stepR (S.drop p) = some (i, S.drop p2) from by rw [hd2.out, if_pos (by simp [h19]), hy.out.1])
                  clear h19 hbad
                  go_wp2_with (refine wpList_sliceI rfl 1 _ rfl [i] rfl (by omega) (by omega) ?cx2 ?_)
                  case cx2 => rfl
                  intro b6 w6 hb6 hbb hx6
                  have hR := Lib.hid (hR.out.go (by rw [alloc_size]; exact hbb))
                  have hx6 := Lib.hid hx6
                  clear hbb hb6
                  go_wp2_with (at_builtin; refine wpList_append_one rfl _ _ rfl w.heap.size _ acc.length acc rfl hR.out.own b6 i rfl hx6.out ?cy2 hR.out.bel.size ?_)
                  case cy2 => have := hR.out.len; have := hR.out.le; have := hR.out.pl; have := hs'.out; omega
                  intro v7 w7 ho7 hg7
                  have hR7 := Lib.hid (hR.out.add hst.out hy.out.2.1 hy.out.2.2 hfit.out hg7 ho7)
                  clear ho7 hg7 hx6
                  go_wp2
                  go_roundg (S.length - p2)
                  case measure => have := hy.out; have := hR.out.pl; have := hgg.out; omega
                  case rel => exact ⟨p2, n + 1, acc ++ [i], by have := hy.out; omega, by go_num, rfl, hR7.out⟩
end Go.Proofs.YtmimmnjdgpdjlaaGreatDoor
