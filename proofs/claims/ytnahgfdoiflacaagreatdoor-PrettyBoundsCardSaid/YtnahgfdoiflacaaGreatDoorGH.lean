/- PrettyBounds: helpers of the walk. -/
import Derived.Test.YtnahgfdoiflacaaGreatDoorGG
import Derived.Deep.MidRow
import Derived.Maps.AppendAt
import Derived.Great.BuildSlice
import Derived.Test.YtnahgfdoiflacaaGreatDoorCJ
import Derived.Test.YtnahgfdoiflacaaGreatDoorQ
set_option linter.unusedSimpArgs false
set_option linter.unusedVariables false
namespace Go.Proofs.YtnahgfdoiflacaaGreatDoor
open Go.RowKit Go.Lib Go.Shelf
theorem deep_at (n m : Nat) (hn : m + 1 = n) (hm : m ≤ 1000) (W : World) : Calls Tryz.prog 24 #[.int .i64 n] W (DeepPost m W) := by subst hn; exact deep24_any m hm W
theorem ex_none (W : World) (op : Int) (u : Nat) (nm : ByteArray) : ExAt W (.node op u nm []) none := .mk 0 0 (fun _ => none) (fun _ => 0) (fun h => by simp at h) (fun i y h => by simp at h) (fun i y h => by simp at h) (fun i y h => by simp at h)
theorem enow_none (W : World) (op : Int) (u : Nat) (nm : ByteArray) (hu : u < 18446744073709551616) : ENow W (.node op u nm []) ⟨op, u, nm, ⟨none, 0, 0⟩⟩ := ⟨rfl, rfl, rfl, rfl, ex_none W op u nm, hu⟩
theorem deep_u (k : Nat) : (deepE k).u < 18446744073709551616 := by cases k <;> exact Nat.zero_lt_succ _
theorem enow_deep (W : World) (k : Nat) (A : Option Addr) (c : Nat) (h : ExAt W (deepE (k + 1)) A) : ENow W (deepE (k + 1)) ⟨4, 0, ⟨#[]⟩, ⟨A, 1, c⟩⟩ := ⟨rfl, rfl, rfl, rfl, h, deep_u _⟩
def rowR (kd : Int) (nm : ByteArray) (e : EC) (lo : Nat) (el : Sl) : StC := ⟨kd, nm, ⟨none, 0, 0⟩, e, ⟨0, 0, ⟨#[]⟩, ⟨none, 0, 0⟩⟩, ⟨none, 0, 0⟩, lo, 0, ⟨none, 0, 0⟩, el⟩
theorem snow_row (W : World) (kd : Int) (nm : ByteArray) (x : Ex) (e : EC) (lo : Nat) (L : List St) (el : Sl) (h : ENow W x e) (hlo : lo < 18446744073709551616) (hL : el.n = L.length) : SNow W (.node kd nm [] x zE [] lo 0 [] L) (rowR kd nm e lo el) :=
  ⟨rfl, rfl, rfl, CellsAt.nil _, h, enow_none W 0 0 ⟨#[]⟩ (by decide), rfl, (ex_none W 0 0 ⟨#[]⟩).args, rfl, rfl, hlo, (show (0 : Nat) < 18446744073709551616 by decide), rfl, hL⟩
theorem alloc_named (w : World) (cs : Array Value) (t : TypeId) : ∃ w', w.alloc (.cells cs t) = w' ∧ Below w.heap.size w w' ∧ w'.heap[w.heap.size]? = some (.cells cs t (0, 0)) := ⟨_, rfl, (Below.refl _ w).alloc (Nat.le_refl _) _, heap_alloc_new w _⟩
theorem set_closed : mayT [setS] = true ∧ flatK setS.kd = true ∧ cntSs [setS] ≤ 30000 ∧ cntSs [moreS] ≤ 30000 ∧ cntSs [lowS] ≤ 30000 ∧ cntSs [otherS] ≤ 30000 ∧ cntSs [zeroS] ≤ 30000 ∧ cntSs [callS] ≤ 30000 ∧ mayT [callS] = true ∧ flatK callS.kd = true := by decide +kernel
theorem wpList_sliceN {P : Program} {ops : Array Oper} {rest : List Oper} {o : Oper} {a : Act} {w : World} {Q : Exit → Act → World → Prop} (hg : o.guard = none) (t e : TypeId) (x : Operand) (ho : o.op = .buildSlice t 1 #[(0, x)])
    (cells : Array Value) (z : Value) (sz : Nat) (hpos : 0 < sz) (hsm : sz ≤ 1000) (hu : P.underlying t = some (.slice e)) (hi : (P.info? e).map (fun i => (i.zero, i.size)) = some (some z, sz)) (hx : a.eval x = .agg cells) (hsz : cells.size = sz)
    (h : ∀ (n : Nat) (w' : World), w.heap.size = n → Below w.heap.size w w' → w'.heap[n]? = some (.cells cells e (0, 0)) → wpList P ops Q rest (a.put o.dst (.slice (some ⟨n, 0, none⟩) 1 1)) w') : wpList P ops Q (o :: rest) a w := by
  cases hie : P.info? e with
  | none => rw [hie] at hi; cases hi
  | some ie =>
    rw [hie] at hi
    simp only [Option.map_some, Option.some.injEq, Prod.mk.injEq] at hi
    obtain ⟨hz, hs⟩ := hi
    refine wpList_buildSlice hg t e 1 #[(0, x)] ho cells ie z hu hie hz (by rw [hs]; omega) (by rw [hs]; omega) ?_ (h _ _ rfl ((Below.refl _ w).alloc (Nat.le_refl _) _) (heap_alloc_new w _))
    rw [hs]
    simp only [List.map_toArray, List.map_cons, List.map_nil, hx]
    have := Go.Great.fill_whole (s := sz) hpos [.agg cells] ((Array.range (1 * sz)).map (z.cells[· % z.cells.size]!)) (fun v hv => by rw [List.mem_singleton.1 hv]; exact hsz) (by simp)
    rw [show (([Value.agg cells].zipIdx 0).map fun x => (x.2, x.1)) = [(0, Value.agg cells)] from rfl] at this
    rw [this]
    show some (cells.toList ++ []).toArray = some cells
    simp
theorem wpList_allocN {P : Program} {ops : Array Oper} {rest : List Oper} {o : Oper} {a : Act} {w : World} {Q : Exit → Act → World → Prop} (hg : o.guard = none) (ty : TypeId) (z : Array Value)
    (hrun : ∀ w, (execOp a.eval o).run P w = .ok (.value (.pointer (some ⟨w.heap.size, 0, none⟩))) (w.alloc (.cells z ty)))
    (h : ∀ (n : Nat) (w' : World), w.heap.size = n → Below w.heap.size w w' → w'.heap[n]? = some (.cells z ty (0, 0)) → wpList P ops Q rest (a.put o.dst (.pointer (some ⟨n, 0, none⟩))) w') : wpList P ops Q (o :: rest) a w :=
  wpList_plain hg fun _ hK => by
    unfold Oper.wp
    rw [hrun]
    exact hK _ _ (h _ _ rfl ((Below.refl _ w).alloc (Nat.le_refl _) _) (heap_alloc_new w _))
theorem wpList_storeN {P : Program} {ops : Array Oper} {rest : List Oper} {o : Oper} {a : Act} {w : World} {Q : Exit → Act → World → Prop} (hgd : o.guard = none) (ty : TypeId) (x y : Operand) (ho : o.op = .store ty x y)
    (g : Nat) (cells : Array Value) (hx : a.eval x = .pointer (some ⟨g, 0, none⟩)) (hy : a.eval y = .agg cells)
    (t : TypeId) (old : Array Value) (hg : w.heap[g]? = some (.cells old t (0, 0))) (hi : (P.info? ty).map (·.size) = some cells.size)
    (hold : old.size = cells.size) (h1 : cells.all (·.oneCell') = true)
    (h : ∀ (w' : World), (∀ B : Nat, B ≤ g → Below B w w') → w'.heap[g]? = some (.cells cells t (0, 0)) → (∀ k, k ≠ g → w'.heap[k]? = w.heap[k]?) → wpList P ops Q rest (a.put o.dst undef) w') : wpList P ops Q (o :: rest) a w :=
  wpList_store_row hgd ty x y ho g cells hx hy t old hg hi hold h1 (h _ (fun B hB => below_setRow (Below.refl _ w) hB _) (setRow_heap _ _ old _ _ _ hg) (fun k hk => setRow_other _ _ _ _ hk))
theorem alloc39 {ev : Operand → Value} {o : Oper} (ho : o.op = .alloc 39) (w : World) : (execOp ev o).run Tryz.prog w = .ok (.value (.pointer (some ⟨w.heap.size, 0, none⟩))) (w.alloc (.cells #[.slice none 0 0, .slice none 0 0] 39)) := by
  unfold execOp
  rw [ho]
  go_simp
theorem und37 : Tryz.prog.underlying 37 = some (.slice 54) := by kernel_rfl
theorem info54 : (Tryz.prog.info? 54).map (fun i => (i.zero, i.size)) = some (some (.agg #[.string ⟨#[]⟩, .slice none 0 0, .slice none 0 0, .slice none 0 0, .slice none 0 0]), 5) := by kernel_rfl
theorem und52 : Tryz.prog.underlying 52 = some (.slice 58) := by kernel_rfl
theorem info58 : (Tryz.prog.info? 58).map (fun i => (i.zero, i.size)) = some (some (.agg #[.string ⟨#[]⟩, .int .i64 0, .int .i64 0, .bool false]), 4) := by kernel_rfl
section
variable {ops : Array Oper} {Q : Exit → Act → World → Prop} {i : Nat} {K : Act → World → Prop} {a : Act} {w : World} {o : Oper}
theorem wpOp_call {f : FuncId} {args : Array Value} {R : Ending → World → Prop} (hi : ops[i]? = some o) (hw : Region.wanted o (yielded ops a.tmps) = true) (hr : (execOp a.eval o).run Tryz.prog w = .ok (.enter f args) w)
    (hc : Calls Tryz.prog f args w R) (h : ∀ e w', R e w' → ∃ v, e = .returned v ∧ K (a.put o.dst v) w') : wpOp Tryz.prog ops Q i K a w :=
  wpOp_wp hi hw (by
    unfold Oper.wp
    rw [hr, Oper.upon_enter]
    refine hc.mono fun e w' hR => ?_
    obtain ⟨v, rfl, hK⟩ := h e w' hR
    exact hK)
theorem und48 : Tryz.prog.underlying 48 = some (.slice 50) := by kernel_rfl
theorem info50b : (Tryz.prog.info? 50).map (fun i => (i.zero, i.size, i.bytes)) = some (some (.agg zero50), 16, 248) := by kernel_rfl
theorem wpOp_append50 {s x : Operand} {base n m c : Nat} {v : Value} {xs news : List Value} {ad : Addr} (hi : ops[i]? = some o) (hw : Region.wanted o (yielded ops a.tmps) = true)
    (ho : o.op = .call { callee := .builtin .append, args := #[s, x], argTypes := #[48, 48] }) (hs : a.eval s = v) (hown : w.ownsRow base 50 16 v n xs) (hx : a.eval x = .slice (some ad) m c) (hl : news.length = m * 16)
    (hnews : ∀ j u, news[j]? = some u → w.cell? (ad.add j) = some u) (h1 : ∀ u ∈ news, u.oneCell' = true) (hb : n + m ≤ 1000000) (hbase : base ≤ w.heap.size)
    (h : ∀ v' w', w'.ownsRow base 50 16 v' (n + m) (xs ++ news) → w.grownBy w' v.ownBlock → K (a.put o.dst v') w') : wpOp Tryz.prog ops Q i K a w := by
  obtain ⟨i0, hi0, hz0, hz1, hz2⟩ := info_parts info50b
  obtain ⟨v', w', hr, h2, h3, _, _⟩ := run_append_own_at (P := Tryz.prog) w base 48 o.type 50 i0 _ 16 248 und48 hi0 hz0 hz1 hz2 rfl (by decide) v n xs hown ad m c news hl hnews h1 (by unfold maxLen; omega) (by omega) hbase
  refine wpOp_wp hi hw ?_
  unfold Oper.wp execOp
  simp only [ho, resolve, invoke, builtin, Sem.run_bind, Sem.run_pure, Result.andThen_ok, List.map_toArray, List.map_cons, List.map_nil, hs, hx, hr]
  exact h v' w' h2 h3
theorem run_build50 {ev : Operand → Value} {parts : Array (Nat × Operand)} (ho : o.op = .build 50 parts) (cells : Array Value) (hf : Tryz.prog.built 50 (parts.map fun (i, x) => (i, ev x)).toList = some cells) (w : World) : (execOp ev o).run Tryz.prog w = .ok (.value (.agg cells)) w := by
  unfold execOp
  simp only [ho, Sem.run_bind, run_build w 50 _ _ hf, Result.andThen_ok]
  rfl
theorem built8 (q : Nat) : Tryz.prog.built 50 [(0, .int .i64 4), (3, .agg #[.int .i64 2, .int .u64 0, .string ⟨#[121]⟩, .slice none 0 0]), (9, .slice (some ⟨q, 0, none⟩) 1 1)] = some #[.int .i64 4, .string ⟨#[]⟩, .slice none 0 0, .int .i64 2, .int .u64 0, .string ⟨#[121]⟩, .slice none 0 0, .int .i64 0, .int .u64 0, .string ⟨#[]⟩, .slice none 0 0, .slice none 0 0, .int .u64 0, .int .u64 0, .slice none 0 0, .slice (some ⟨q, 0, none⟩) 1 1] := by kernel_rfl
theorem run_built8 {ev : Operand → Value} (ho : o.op = .build 50 #[(0, .const (.int .i64 4)), (3, .tmp 33), (9, .tmp 35)]) (q : Nat) (h0 : ev (.const (.int .i64 4)) = .int .i64 4) (h1 : ev (.tmp 33) = .agg #[.int .i64 2, .int .u64 0, .string ⟨#[121]⟩, .slice none 0 0]) (h2 : ev (.tmp 35) = .slice (some ⟨q, 0, none⟩) 1 1) (w : World) :
    (execOp ev o).run Tryz.prog w = .ok (.value (.agg #[.int .i64 4, .string ⟨#[]⟩, .slice none 0 0, .int .i64 2, .int .u64 0, .string ⟨#[121]⟩, .slice none 0 0, .int .i64 0, .int .u64 0, .string ⟨#[]⟩, .slice none 0 0, .slice none 0 0, .int .u64 0, .int .u64 0, .slice none 0 0, .slice (some ⟨q, 0, none⟩) 1 1])) w :=
  run_build50 ho _ (by simp only [List.map_toArray, List.map_cons, List.map_nil, h0, h1, h2]; exact built8 q) w
theorem ones8 (q : Nat) : (#[.int .i64 4, .string ⟨#[]⟩, .slice none 0 0, .int .i64 2, .int .u64 0, .string ⟨#[121]⟩, .slice none 0 0, .int .i64 0, .int .u64 0, .string ⟨#[]⟩, .slice none 0 0, .slice none 0 0, .int .u64 0, .int .u64 0, .slice none 0 0, .slice (some ⟨q, 0, none⟩) 1 1] : Array Value).all (·.oneCell') = true := by kernel_rfl
theorem fill50 (c z : Array Value) (h : c.size = 16) (hz : z.size = 16) : Instr.fill (fun i => some (i * 16, 16)) z [(0, Value.agg c)] = some c := by
  have := Go.Great.fill_whole (s := 16) (by decide) [.agg c] z (fun v hv => by rw [List.mem_singleton.1 hv]; exact h) (by simp [hz])
  rw [show (([Value.agg c].zipIdx 0).map fun x => (x.2, x.1)) = [(0, Value.agg c)] from rfl] at this
  rw [this]
  show some (c.toList ++ []).toArray = some c
  simp
theorem wpOp_one50 {x : Operand} (cells : Array Value) (hi : ops[i]? = some o) (hw : Region.wanted o (yielded ops a.tmps) = true) (ho : o.op = .buildSlice 48 1 #[(0, x)]) (hx : a.eval x = .agg cells) (hsz : cells.size = 16)
    (h : K (a.put o.dst (.slice (some ⟨w.heap.size, 0, none⟩) 1 1)) (w.alloc (.cells cells 50))) : wpOp Tryz.prog ops Q i K a w := by
  obtain ⟨i0, hi0, hz0, hz1, hz2⟩ := info_parts info50b
  refine wpOp_wp hi hw (wp_buildSlice 48 50 1 #[(0, x)] ho cells i0 _ und48 hi0 hz0 (by rw [hz1]; decide) (by rw [hz1]; decide) ?_ h)
  rw [hz1]
  simp only [List.map_toArray, List.map_cons, List.map_nil, hx]
  exact fill50 cells _ hsz (by simp)
end
/-! the rows of the long program's body -/
def rLg : StC := rowR 1 xT ⟨1, 1000000, ⟨#[]⟩, ⟨none, 0, 0⟩⟩ 0 ⟨none, 0, 0⟩
def lgC : List Value := cellsT rLg
def bdC (k : Nat) : List Value := (List.replicate k lgC).flatten
theorem bdC_succ (k : Nat) : bdC (k + 1) = bdC k ++ lgC := by
  unfold bdC
  rw [List.replicate_succ', List.flatten_append]
  simp
theorem bdC_len : ∀ k, (bdC k).length = k * 16
  | 0 => rfl
  | k + 1 => by rw [bdC_succ, List.length_append, bdC_len k]; simp [lgC, cellsT]; omega
theorem bdC_at : ∀ (n i j : Nat) (v : Value), i < n → lgC[j]? = some v → (bdC n)[i * 16 + j]? = some v
  | 0, i, j, v, h, _ => absurd h (by omega)
  | n + 1, i, j, v, h, hj => by
    have hl := (List.getElem?_eq_some_iff.1 hj).1
    have hl5 : lgC.length = 16 := rfl
    rw [bdC_succ]
    rcases Nat.lt_or_ge i n with hlt | hge
    · rw [List.getElem?_append_left (by rw [bdC_len]; omega)]
      exact bdC_at n i j v hlt hj
    · obtain rfl : i = n := by omega
      rw [List.getElem?_append_right (by rw [bdC_len]; omega), bdC_len]
      have e : i * 16 + j - i * 16 = j := by omega
      rw [e]
      exact hj
theorem lg_now (W : World) : SNow W lgS rLg := snow_row W 1 xT cM _ 0 [] _ (enow_none W 1 1000000 ⟨#[]⟩ (by decide)) (by decide) rfl
theorem own_body {w : World} {b0 : Nat} {v : Value} {n : Nat} (h : w.ownsRow b0 50 16 v n (bdC n)) : ∃ A c, v = .slice A n c ∧ StsAt w (List.replicate n lgS) A := by
  rcases h.2 with ⟨hv, h0⟩ | ⟨g, cap, cur, hv, hg, hh, hcap, hmx, hs, ht⟩
  · subst h0
    exact ⟨none, 0, hv, StsAt.nil none⟩
  · refine ⟨_, cap, hv, .mk (List.replicate n rLg) ⟨g, 0, fun _ => rfl, fun i x hi j hj => ?_⟩ (by simp) (fun i x r hx hr => ?_) (fun i x r hx hr => ?_) (fun i x r hx hr => ?_)⟩
    · have hil := (List.getElem?_eq_some_iff.1 hi).1
      rw [List.length_replicate] at hil
      have hxr : x = rLg := List.eq_of_mem_replicate (List.mem_of_getElem? hi)
      subst hxr
      obtain ⟨v, hv⟩ : ∃ v, lgC[j]? = some v := ⟨_, List.getElem?_eq_getElem (show j < lgC.length from hj)⟩
      have h5 := bdC_at n i j v hil hv
      have hlt : i * 16 + j < n * 16 := by omega
      rw [Nat.zero_add, blk_cell hh]
      rw [← ht, List.getElem?_take, if_pos hlt] at h5
      show _ = lgC[j]?
      rw [hv]
      simpa using h5
    · have e1 := List.eq_of_mem_replicate (List.mem_of_getElem? hx)
      have e2 := List.eq_of_mem_replicate (List.mem_of_getElem? hr)
      rw [e1, e2]
      exact lg_now w
    · have e1 := List.eq_of_mem_replicate (List.mem_of_getElem? hx)
      have e2 := List.eq_of_mem_replicate (List.mem_of_getElem? hr)
      rw [e1, e2]
      exact StsAt.nil _
    · have e1 := List.eq_of_mem_replicate (List.mem_of_getElem? hx)
      have e2 := List.eq_of_mem_replicate (List.mem_of_getElem? hr)
      rw [e1, e2]
      exact StsAt.nil _
/-- the long program lies, with k statements -/
structure LG (b p B k : Nat) (v : Value) (w : World) : Prop where
  l : w.heap[p]? = some (.cells #[.slice none 0 0, .slice (some ⟨b, 0, none⟩) 1 1] 39 (0, 0))
  f : w.heap[b]? = some (.cells #[.string ⟨#[102]⟩, .slice none 0 0, .slice none 0 0, .slice none 0 0, v] 54 (0, 0))
  o : w.ownsRow B 50 16 v k (bdC k)
  z : B ≤ w.heap.size
theorem LG.go {b p B k : Nat} {v : Value} {w w' : World} (h : LG b p B k v w) (hb : Below w.heap.size w w') : LG b p B k v w' :=
  ⟨(hb.block _ (blk_lt h.l)).trans h.l, (hb.block _ (blk_lt h.f)).trans h.f, own_keep h.o fun g hg => hb.block g (own_at h.o hg).2, Nat.le_trans h.z hb.size⟩
theorem own_setCells {B g cap n sz : Nat} {e : TypeId} : ∀ (vs pre mid post : List Value) (w : World) (o : Nat), o = pre.length → mid.length = vs.length → w.ownsRow B e sz (.slice (some ⟨g, 0, none⟩) n cap) n (pre ++ (mid ++ post)) →
    (w.setCells g o vs).ownsRow B e sz (.slice (some ⟨g, 0, none⟩) n cap) n (pre ++ (vs ++ post)) ∧ w.grownBy (w.setCells g o vs) (some g)
  | [], pre, mid, post, w, o, _, hm, h => by
    have : mid = [] := List.length_eq_zero_iff.1 hm
    subst this
    exact ⟨h, World.grownBy.refl _ _⟩
  | v :: vs, pre, mid, post, w, o, ho, hm, h => by
    obtain ⟨m, mid, rfl⟩ : ∃ m r, mid = m :: r := by
      cases mid with
      | nil => cases hm
      | cons m r => exact ⟨m, r, rfl⟩
    obtain ⟨h1, h2⟩ := h.stored o v
    have e1 : (pre ++ (m :: mid ++ post)).set o v = (pre ++ [v]) ++ (mid ++ post) := by
      subst ho
      rw [List.set_append_right _ _ (Nat.le_refl _), Nat.sub_self]
      simp
    rw [e1] at h1
    obtain ⟨h3, h4⟩ := own_setCells vs (pre ++ [v]) mid post (w.setCell ⟨g, o, none⟩ v) (o + 1) (by rw [ho]; simp) (by simpa using hm) h1
    have e2 : pre ++ [v] ++ (vs ++ post) = pre ++ (v :: vs ++ post) := by simp
    rw [e2] at h3
    exact ⟨h3, h2.trans h4⟩
theorem grown_blk {w w' : World} {B e sz n : Nat} {v : Value} {xs : List Value} {x : Nat} {ob : Obj} (h : w.ownsRow B e sz v n xs) (hg : w.grownBy w' v.ownBlock) (hx : w.heap[x]? = some ob) (hlt : x < B) : w'.heap[x]? = some ob :=
  (hg.block x (blk_lt hx) fun e => by have := (own_at h e.symm).1; omega).trans hx
theorem grown_bel {w w' W : World} {B C e sz n : Nat} {v : Value} {xs : List Value} (h : w.ownsRow B e sz v n xs) (hg : w.grownBy w' v.ownBlock) (hB : Below C W w) (hC : C ≤ B) (hw : C ≤ w.heap.size) : Below C W w' :=
  hB.grown hg hw (fun g e => Nat.le_trans hC (own_at h e).1)
theorem setF {w : World} {b : Nat} {t : TypeId} {c0 c1 c2 c3 c4 u : Value} (h : w.heap[b]? = some (.cells #[c0, c1, c2, c3, c4] t (0, 0))) : (w.setCell ⟨b, 4, none⟩ u).heap[b]? = some (.cells #[c0, c1, c2, c3, u] t (0, 0)) := by
  simp [World.setCell, Array.getElem?_modify, h]
theorem setF_own {w : World} {B e sz n b o : Nat} {v u : Value} {xs : List Value} (h : w.ownsRow B e sz v n xs) (hb : b < B) : (w.setCell ⟨b, o, none⟩ u).ownsRow B e sz v n xs := ownsRow_setCell_below h hb u
theorem setF_oth {w : World} {b o x : Nat} {u : Value} (h : x ≠ b) : (w.setCell ⟨b, o, none⟩ u).heap[x]? = w.heap[x]? := Below.heap_setCell _ _ _ _ h
theorem run_store48 {ev : Operand → Value} {o : Oper} {x y : Operand} (ho : o.op = .store 48 x y) (b : Nat) (A : Option Addr) (n c : Nat) (hx : ev x = .pointer (some ⟨b, 4, none⟩)) (hy : ev y = .slice A n c) (w : World) {c0 c1 c2 c3 c4 : Value} (h : w.heap[b]? = some (.cells #[c0, c1, c2, c3, c4] 54 (0, 0))) :
    (execOp ev o).run Tryz.prog w = .ok .skip (w.setCell ⟨b, 4, none⟩ (.slice A n c)) := by
  have g : w.cell? ⟨b, 4, none⟩ = some c4 := by rw [blk_cell h]; rfl
  have f : w.frozen? ⟨b, 4, none⟩ = false := by simp [World.frozen?, h]
  unfold execOp
  simp only [ho, hx, hy]
  go_simp
theorem wpOp_skip {P : Program} {ops : Array Oper} {Q : Exit → Act → World → Prop} {i : Nat} {K : Act → World → Prop} {a : Act} {w w' : World} {o : Oper} (hi : ops[i]? = some o) (hw : Region.wanted o (yielded ops a.tmps) = true)
    (hr : (execOp a.eval o).run P w = .ok .skip w') (h : K (a.put o.dst undef) w') : wpOp P ops Q i K a w :=
  wpOp_wp hi hw (by unfold Oper.wp; rw [hr]; exact h)
theorem own_form {w : World} {B e sz n : Nat} {v : Value} {xs : List Value} (h : w.ownsRow B e sz v n xs) : ∃ A c, v = .slice A n c := by
  rcases h.2 with ⟨rfl, rfl⟩ | ⟨g, cap, cur, rfl, _⟩
  · exact ⟨none, 0, rfl⟩
  · exact ⟨_, cap, rfl⟩
theorem own_some {w : World} {B e sz n : Nat} {v : Value} {xs : List Value} (h : w.ownsRow B e sz v n xs) (hn : 0 < n) : ∃ g c, v = .slice (some ⟨g, 0, none⟩) n c := by
  rcases h.2 with ⟨rfl, rfl⟩ | ⟨g, cap, cur, rfl, _⟩
  · omega
  · exact ⟨g, cap, rfl⟩
def lgA : Array Value := #[.int .i64 1, .string ⟨#[120]⟩, .slice none 0 0, .int .i64 1, .int .u64 1000000, .string ⟨#[]⟩, .slice none 0 0, .int .i64 0, .int .u64 0, .string ⟨#[]⟩, .slice none 0 0, .slice none 0 0, .int .u64 0, .int .u64 0, .slice none 0 0, .slice none 0 0]
theorem lgA_list : lgA.toList = lgC := rfl
theorem builtL : Tryz.prog.built 50 [(0, .int .i64 1), (1, .string ⟨#[120]⟩), (3, .agg #[.int .i64 1, .int .u64 1000000, .string ⟨#[]⟩, .slice none 0 0])] = some lgA := by kernel_rfl
theorem run_builtL {ev : Operand → Value} {o : Oper} {t : Tmp} (ho : o.op = .build 50 #[(0, .const (.int .i64 1)), (1, .const (.string ⟨#[120]⟩)), (3, .tmp t)]) (h0 : ev (.const (.int .i64 1)) = .int .i64 1) (h2 : ev (.const (.string ⟨#[120]⟩)) = .string ⟨#[120]⟩) (h1 : ev (.tmp t) = .agg #[.int .i64 1, .int .u64 1000000, .string ⟨#[]⟩, .slice none 0 0]) (w : World) :
    (execOp ev o).run Tryz.prog w = .ok (.value (.agg lgA)) w :=
  run_build50 ho _ (by simp only [List.map_toArray, List.map_cons, List.map_nil, h0, h1, h2]; exact builtL) w
theorem blk_cells {w : World} {g : Nat} {t : TypeId} {cs : Array Value} (h : w.heap[g]? = some (.cells cs t (0, 0))) : ∀ j u, cs.toList[j]? = some u → w.cell? ((⟨g, 0, none⟩ : Addr).add j) = some u := fun j u hj => by
  rw [show ((⟨g, 0, none⟩ : Addr).add j) = ⟨g, j, none⟩ by rw [Addr.add_mid, Nat.zero_add], blk_cell h]
  simpa using hj
/-- so, with a row of noughts behind -/
structure LZ (b p B k : Nat) (v : Value) (w : World) : Prop where
  l : w.heap[p]? = some (.cells #[.slice none 0 0, .slice (some ⟨b, 0, none⟩) 1 1] 39 (0, 0))
  f : w.heap[b]? = some (.cells #[.string ⟨#[102]⟩, .slice none 0 0, .slice none 0 0, .slice none 0 0, v] 54 (0, 0))
  o : w.ownsRow B 50 16 v (k + 1) (bdC k ++ zero50.toList)
  z : B ≤ w.heap.size
def SB (b p : Nat) (w : World) : Prop := w.heap[p]? = some (.cells #[.slice none 0 0, .slice (some ⟨b, 0, none⟩) 1 1] 39 (0, 0)) ∧ ∃ u, w.heap[b]? = some (.cells #[.string ⟨#[102]⟩, .slice none 0 0, .slice none 0 0, .slice none 0 0, u] 54 (0, 0))
theorem ones_z : ∀ u ∈ zero50.toList, u.oneCell' = true := by decide
theorem ones_l : ∀ u ∈ lgA.toList, u.oneCell' = true := by decide
/-- one function lies -/
theorem fn_one {w : World} {b : Nat} {ps vs : List VarC} {bd : List St} {pA vA bA : Option Addr} {pc vc bc : Nat} (h : w.heap[b]? = some (.cells #[.string fT, .slice pA ps.length pc, .slice vA vs.length vc, .slice none 0 0, .slice bA bd.length bc] 54 (0, 0)))
    (hp : CellsAt 4 cellsV w ps pA) (hv : CellsAt 4 cellsV w vs vA) (hb : StsAt w bd bA) (kp : ∀ v ∈ ps, VarOk v) (kv : ∀ v ∈ vs, VarOk v) : FnsAt w [⟨fT, ps, vs, [], bd⟩] (some ⟨b, 0, none⟩) := by
  refine ⟨[⟨fT, ⟨pA, ps.length, pc⟩, ⟨vA, vs.length, vc⟩, ⟨none, 0, 0⟩, ⟨bA, bd.length, bc⟩⟩], ⟨b, 0, fun _ => rfl, fun i x hi j hj => ?_⟩, rfl, fun i x r hx hr => ?_⟩
  · cases i with
    | zero =>
      cases hi
      rw [Nat.zero_mul, Nat.zero_add, blk_cell h]
      simp [cellsF]
    | succ i => simp at hi
  · cases i with
    | zero =>
      cases hx
      cases hr
      exact ⟨rfl, rfl, hp, rfl, hv, rfl, CellsAt.nil _, rfl, hb, kp, kv⟩
    | succ i => simp at hx
theorem fn_zero (w : World) : FnsAt w [] none := ⟨[], CellsAt.nil _, rfl, fun i x r hx => by simp at hx⟩
theorem var_one {w : World} {b : Nat} {v : VarC} (h : w.heap[b]? = some (.cells (cellsV v).toArray 58 (0, 0))) : CellsAt 4 cellsV w [v] (some ⟨b, 0, none⟩) :=
  ⟨b, 0, fun _ => rfl, fun i x hi j hj => by
    cases i with
    | zero =>
      cases hi
      rw [Nat.zero_mul, Nat.zero_add, blk_cell h]
      simp
    | succ i => simp at hi⟩
end Go.Proofs.YtnahgfdoiflacaaGreatDoor
