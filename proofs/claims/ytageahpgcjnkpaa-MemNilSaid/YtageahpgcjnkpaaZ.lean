/- Going over the words that are not 0: All. -/
import Derived.Test.YtageahpgcjnkpaaY
set_option linter.unusedSimpArgs false
set_option linter.unusedVariables false
namespace Go.Proofs.Ytageahpgcjnkpaa
open Go.RowKit Go.Shelf

attribute [local go_sem] Oper.semAt_some

/-- the words below a bound that are not 0, by their numbers -/
def fullN (f : Nat → Int) (k : Nat) : List Nat := (List.range k).filter fun i => get8 f (8 * i) != 0
theorem fullN_succ (f : Nat → Int) (k : Nat) : fullN f (k + 1) = if get8 f (8 * k) = 0 then fullN f k else fullN f k ++ [k] := by
  unfold fullN
  rw [range_succ, List.filter_append]
  by_cases h : get8 f (8 * k) = 0
  · rw [if_pos h]; simp [h]
  · rw [if_neg h]; simp [h]
theorem fullN_len (f : Nat → Int) (k : Nat) : (fullN f k).length ≤ k := by
  have := List.length_filter_le (fun i => get8 f (8 * i) != 0) (List.range k)
  rw [List.length_range] at this
  exact this

set_option maxRecDepth 100000 in
set_option maxHeartbeats 1000000 in
/-- the word at an address, of a memory of which the regions are not asked -/
theorem get_light {p q : Nat} {f : Nat → Int} (a : Int) (w : World) (c1 : w.cell? ⟨p, 1, none⟩ = some (.pointer (some ⟨q, 0, none⟩))) (hq : w.heap[q]? = some (.cells (bytes f) 83 (0, 0))) (hf : ByteFn f) (ha0 : 0 ≤ a) (hat : a + 8 ≤ 65536) :
    Calls Try.prog 46 #[.pointer (some ⟨p, 0, none⟩), .int .i64 a] w fun e w' => e = .returned (.int .u64 (get8 f a.toNat)) ∧ w = w' := by
  obtain ⟨at_, rfl⟩ := Int.eq_ofNat_of_zero_le ha0
  rw [Int.toNat_natCast]
  have H := Lib.hid (fun i (hi : i < 65536) => (show w.cell? ⟨q, i, none⟩ = some (.int .u8 (f i)) by rw [blk_cell hq, bytes_at _ _ hi]))
  have hf' := Lib.hid hf
  have hat' : at_ + 8 ≤ 65536 := by omega
  clear hq hf hat ha0
  go_enter Try.func46, Try.ntmps46
  go_wp2
  go_loop [5, 7] (fun x i => ∃ k : Nat, k ≤ 8 ∧ i = .int .i64 k ∧ x = .int .u64 (getN f at_ k)) (fun _ i => 8 - (intOf i).toNat)
  case atStart => exact ⟨0, by omega, rfl, rfl⟩
  case round =>
    obtain ⟨k, hk, rfl, rfl⟩ := hrel
    by_cases hlt : k < 8
    · have hb := H.out (at_ + k) (by omega)
      have ho := or_step (getN f at_ k) (f (at_ + k)) k hlt (getN_bd f at_ hf'.out k).1 (getN_bd f at_ hf'.out k).2 (hf'.out _).1 (hf'.out _).2
      have ho' := Lib.hid ho
      clear ho
      go_wp2
      go_round
      case rel => exact ⟨k + 1, by omega, by go_num, by rw [ho'.out]; rfl⟩
      case measure => simp [intOf]; omega
    · obtain rfl : k = 8 := by omega
      go_wp2
      go_ret
      exact ⟨rfl, rfl⟩

/-- three blocks are kept -/
def Kp3 (a b c : Nat) (W W' : World) : Prop := W'.heap[a]? = W.heap[a]? ∧ W'.heap[b]? = W.heap[b]? ∧ W'.heap[c]? = W.heap[c]?
theorem Kp3.refl {a b c : Nat} (W : World) : Kp3 a b c W W := ⟨rfl, rfl, rfl⟩
theorem Kp3.trans {a b c : Nat} {A B C : World} (h : Kp3 a b c A B) (k : Kp3 a b c B C) : Kp3 a b c A C := ⟨k.1.trans h.1, k.2.1.trans h.2.1, k.2.2.trans h.2.2⟩
theorem Kp3.below {a b c : Nat} {W W' : World} {B : Nat} (hb : Below B W W') (h1 : a < B) (h2 : b < B) (h3 : c < B) : Kp3 a b c W W' := ⟨hb.block a h1, hb.block b h2, hb.block c h3⟩

/-- what a walk over a memory's words names -/
structure Over (W : World) (Bs p q : Nat) (f : Nat → Int) : Prop where
  c : W.heap[Bs]? = some (.cells #[.pointer (some ⟨p, 0, none⟩)] 25 (0, 0))
  hp : ∃ v, W.heap[p]? = some (.cells #[v, .pointer (some ⟨q, 0, none⟩)] 72 (0, 0))
  hq : W.heap[q]? = some (.cells (bytes f) 83 (0, 0))
  hf : ByteFn f
theorem Over.keep {W W' : World} {Bs p q : Nat} {f : Nat → Int} (h : Over W Bs p q f) (k : Kp3 Bs p q W W') : Over W' Bs p q f :=
  ⟨k.1.trans h.c, by obtain ⟨v, hv⟩ := h.hp; exact ⟨v, k.2.1.trans hv⟩, k.2.2.trans h.hq, h.hf⟩
theorem Over.c0 {W : World} {Bs p q : Nat} {f : Nat → Int} (h : Over W Bs p q f) : W.cell? ⟨Bs, 0, none⟩ = some (.pointer (some ⟨p, 0, none⟩)) := by rw [blk_cell h.c]; rfl
theorem Over.c1 {W : World} {Bs p q : Nat} {f : Nat → Int} (h : Over W Bs p q f) : W.cell? ⟨p, 1, none⟩ = some (.pointer (some ⟨q, 0, none⟩)) := by
  obtain ⟨v, hv⟩ := h.hp
  rw [blk_cell hv]; rfl
theorem Over.blk {W : World} {Bs p q : Nat} {f : Nat → Int} (h : Over W Bs p q f) : Bs < W.heap.size ∧ p < W.heap.size ∧ q < W.heap.size := by
  obtain ⟨v, hv⟩ := h.hp
  exact ⟨blk_lt h.c, blk_lt hv, blk_lt h.hq⟩

theorem run_eql_mem (w : World) (p : Addr) : (binOp .eql 25 (.pointer (some p)) (.pointer none)).run Try.prog w = .ok (.bool false) w := by kernel_rfl

set_option maxRecDepth 100000 in
set_option maxHeartbeats 2000000 in
theorem all58_in (n : Nat) (hn : 1 ≤ n) (l Bs p q : Nat) (f : Nat → Int) (J Jx : List Nat → World → Prop) (W : World)
    (hY : ∀ pre (x : Nat) W, J pre W → pre.length < 8192 → x < 8192 → YieldAt Fence.wide (n - 1) Try.prog l #[.int .u64 (8 * (x : Int)), .int .u64 (get8 f (8 * x))] W fun e W' =>
      (e = .returned (.bool true) ∧ J (pre ++ [x]) W' ∧ Kp3 Bs p q W W') ∨ (e = .returned (.bool false) ∧ Jx (pre ++ [x]) W'))
    (hO : Over W Bs p q f) (h0 : J [] W) :
    CallsIn Fence.wide n Try.prog 58 #[.func (.yield l) #[] #[], .pointer (some ⟨Bs, 0, none⟩)] W fun e W' => (∃ v, e = .returned v) ∧
      ((∃ ys, ys = fullN f 8192 ∧ J ys W') ∨ (∃ pre, (∃ k, k ≤ 8192 ∧ pre = fullN f k) ∧ Jx pre W')) := by
  have hY' := Lib.hid hY
  have hO' := Lib.hid hO
  have c0 := hO.c0
  have he := run_eql_mem
  clear hY hO
  refine callsIn_of_wp Try.func58 rfl trivial ?_ rfl
  simp only [Try.ntmps58, List.size_toArray, List.length_cons, List.length_nil, Nat.reduceAdd, Nat.reduceSub, Array.replicate_succ, Array.replicate_zero, List.push_toArray, List.append_toArray, List.nil_append, List.cons_append]
  gi_wp2
  gi_loopw [3] (fun i wr => ∃ (k : Nat) (a : Int), k ≤ 8192 ∧ a = 8 * (k : Int) ∧ i = .int .i64 a ∧ J (fullN f k) wr ∧ Kp3 Bs p q W wr)
    (fun i _ => 65536 - (intOf i).toNat)
  case atStart => exact ⟨0, 0, Nat.zero_le _, by simp, rfl, h0, Kp3.refl _⟩
  case round =>
    obtain ⟨k, a, hk, ha, rfl, hJs, hnx⟩ := hrel
    have hJs' := Lib.hid hJs
    have hnx' := Lib.hid hnx
    have ha' := Lib.hid ha
    clear hJs hnx c0
    have a0 : 0 ≤ a := by omega
    have a1 : a ≤ 70000 := by omega
    by_cases hlt : k < 8192
    · have hd : decide (a < 65536) = true := by simp; omega
      have ha8 : a + 8 ≤ 65536 := by omega
      have ha8' := Lib.hid ha8
      have hk8' := Lib.hid hlt
      have hO2 := hO'.out.keep hnx'.out
      have c0 := hO2.c0
      have hg := Lib.hid (get_light a _ hO2.c1 hO2.hq hO2.hf a0 ha8)
      have e8 := Lib.hid (show get8 f a.toNat = get8 f (8 * k) by rw [ha]; congr 1)
      rw [e8.out] at hg
      have hbd := getN_bd f (8 * k) hO2.hf 8
      have hv0 : 0 ≤ get8 f (8 * k) := hbd.1
      have hv1 : get8 f (8 * k) ≤ 18446744073709551615 := by have : get8 f (8 * k) < 256 ^ 8 := hbd.2; omega
      clear hbd ha ha8 hk hlt hO2 e8
      gi_wp2_with fail
      refine ⟨trivial, ?_⟩
      refine (callsIn_wide.2 hg.out).mono ?_
      rintro e w1 ⟨rfl, rfl⟩
      have hyk := Lib.hid (hY'.out _ k _ hJs'.out (by have := fullN_len f k; have := hk8'.out; omega) hk8'.out)
      have hfs0 := fullN_succ f k
      generalize get8 f (8 * k) = v at hyk hfs0 hv0 hv1 ⊢
      by_cases hz : v = 0
      · subst hz
        have hfs := Lib.hid (show fullN f (k + 1) = fullN f k by rw [hfs0, if_pos rfl])
        clear hfs0
        gi_wp2
        refine ⟨(fun f e => by cases e), ?_⟩
        gi_wp2
        go_roundw
        case rel => exact ⟨k + 1, a + 8, by have := hk8'.out; omega, by rw [ha'.out]; omega, by go_num, by rw [hfs.out]; exact hJs'.out, hnx'.out⟩
        case measure => have := ha8'.out; simp [intOf]; omega
      · have hfs := Lib.hid (show fullN f (k + 1) = fullN f k ++ [k] by rw [hfs0, if_neg hz])
        have hd2 : (v != 0) = true := by simp [hz]
        clear hz hfs0
        obtain ⟨fn, tmps, assign, body, hy, hRo⟩ := hyk.out
        rw [← ha'.out] at hy
        gi_wp2
        refine hRo.mono ?_
        rintro e W3 (⟨rfl, hJ3, hk3⟩ | ⟨rfl, hJx3⟩)
        · have hJ3' := Lib.hid hJ3
          have hk3' := Lib.hid (hnx'.out.trans hk3)
          clear hJ3 hk3
          gi_wp2
          go_roundw
          case rel => exact ⟨k + 1, a + 8, by have := hk8'.out; omega, by rw [ha'.out]; omega, by go_num, by rw [hfs.out]; exact hJ3'.out, hk3'.out⟩
          case measure => have := ha8'.out; simp [intOf]; omega
        · have hJx3' := Lib.hid hJx3
          clear hJx3
          gi_wp2
          refine bodyPost_ret (results_none rfl _ _ _) rfl ?_
          exact ⟨⟨_, rfl⟩, .inr ⟨_, ⟨k + 1, by have := hk8'.out; omega, hfs.out.symm⟩, hJx3'.out⟩⟩
    · have hd : decide (a < 65536) = false := by simp; omega
      have hk8 := Lib.hid (show k = 8192 by omega)
      clear ha hk hlt
      gi_wp2
      go_end0
      exact ⟨⟨_, rfl⟩, .inl ⟨_, rfl, by rw [← hk8.out]; exact hJs'.out⟩⟩

theorem all58_stops (n : Nat) (hn : 1 ≤ n) (Bs p q : Nat) (f : Nat → Int) (w : World) (hO : Over w Bs p q f) :
    SeqStopsK Fence.wide n Try.prog 58 #[.pointer (some ⟨Bs, 0, none⟩)] (fun x : Fin 8192 => #[Value.int .u64 (8 * ((x.val : Nat) : Int)), .int .u64 (get8 f (8 * x.val))]) (Kp3 Bs p q) (fun ys => ys.map (·.val) = fullN f 8192)
      (fun pre => ∃ k, k ≤ 8192 ∧ pre.map (·.val) = fullN f k) 8192 w := fun l J Jx W hW hJ hJx hY h0 =>
  (all58_in n hn l Bs p q f (fun pre W => ∃ pre' : List (Fin 8192), pre'.map (·.val) = pre ∧ J pre' W) (fun pre W => ∃ pre' : List (Fin 8192), pre'.map (·.val) = pre ∧ Jx pre' W) W
    (fun pre x W1 hp hl hx => by
      obtain ⟨pre', rfl, hp'⟩ := hp
      obtain ⟨fn, tmps, assign, body, h1, h2⟩ := hY pre' ⟨x, hx⟩ W1 hp' (by simpa using hl)
      refine ⟨fn, tmps, assign, body, h1, h2.mono ?_⟩
      rintro e W' (⟨e1, e2, e3⟩ | ⟨e1, e2⟩)
      · exact .inl ⟨e1, ⟨pre' ++ [⟨x, hx⟩], by simp, e2⟩, e3⟩
      · exact .inr ⟨e1, pre' ++ [⟨x, hx⟩], by simp, e2⟩)
    (hO.keep (Kp3.below hW hO.blk.1 hO.blk.2.1 hO.blk.2.2)) ⟨[], rfl, h0⟩).mono fun e W' ⟨h1, h2⟩ => ⟨h1, by
      rcases h2 with ⟨ys, hys, ys', e1, e2⟩ | ⟨pre, ⟨k, hk, e0⟩, pre', e1, e2⟩
      · exact .inl ⟨ys', e1.trans hys, e2⟩
      · exact .inr ⟨pre', ⟨k, hk, e1.trans e0⟩, e2⟩⟩

/-- how All ends -/
def AllPost (f : Nat → Int) (w : World) (e : Ending) (w' : World) : Prop :=
  ∃ Bs p q, e = .returned (.func (.func 58) #[] #[.pointer (some ⟨Bs, 0, none⟩)]) ∧ Over w' Bs p q f ∧ (w.heap.size ≤ Bs ∧ w.heap.size ≤ p ∧ w.heap.size ≤ q) ∧ Below w.heap.size w w'

set_option maxRecDepth 100000 in
set_option maxHeartbeats 1000000 in
theorem all_any {p q : Nat} {A : Option Addr} {n cap : Nat} {L : List Reg} {f : Nat → Int} (w : World) (h : Mem_ w p q A n cap L f) (hc : n ≤ cap) :
    Calls Try.prog 35 #[.pointer (some ⟨p, 0, none⟩)] w (AllPost f w) := by
  have H := Lib.hid h
  clear h
  go_enter Try.func35, Try.ntmps35
  go_wp2_with fail
  refine (copy_any _ H.out hc).mono ?_
  rintro e w2 ⟨p2, q2, A2, cap2, rfl, hM, z1, z2, z3, z4, hb2⟩
  have hM' := Lib.hid hM
  have hb2' := Lib.hid hb2
  clear hM hb2
  go_wp2
  go_ret
  have hall : Below w2.heap.size w2 (w2.alloc (.cells #[.pointer (some ⟨p2, 0, none⟩)] 25)) := (Below.refl _ _).alloc (Nat.le_refl _) _
  have hM3 := hM'.out.below hall
  exact ⟨w2.heap.size, p2, q2, rfl, ⟨heap_alloc_new w2 _, ⟨_, hM3.hp⟩, hM3.hq, hM3.hf⟩, ⟨hb2'.out.size, z3, z4⟩, Below.next hb2'.out hall⟩
end Go.Proofs.Ytageahpgcjnkpaa
