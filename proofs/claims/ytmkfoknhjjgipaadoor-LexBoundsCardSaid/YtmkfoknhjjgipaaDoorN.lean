/- Tokens that lie; their plain text. -/
import Derived.Test.YtmkfoknhjjgipaaDoorM
set_option linter.unusedSimpArgs false
set_option linter.unusedVariables false
namespace Go.Proofs.YtmkfoknhjjgipaaDoor
open Go.RowKit Go.Lib Go.Shelf

/-- a token of whatever numbers -/
structure Ta where
  k : Int
  t : ByteArray
  u : Nat
  l : Int
  c : Int
def taCells (x : Ta) : List Value := [.int .i64 x.k, .string x.t, .int .u64 x.u, .int .i64 x.l, .int .i64 x.c]
def Tp.ta (t : Tp) : Ta := ⟨t.x.k, mkB t.x.t, t.x.u, t.l, t.c⟩
def TaAt (w : World) (A : Option Addr) (L : List Ta) : Prop :=
  0 < L.length → ∃ blk off, A = some ⟨blk, off, none⟩ ∧ ∀ (i : Nat) (x : Ta), L[i]? = some x →
    w.cell? ⟨blk, off + i * 5, none⟩ = some (.int .i64 x.k) ∧ w.cell? ⟨blk, off + i * 5 + 1, none⟩ = some (.string x.t) ∧ w.cell? ⟨blk, off + i * 5 + 2, none⟩ = some (.int .u64 x.u) ∧
    w.cell? ⟨blk, off + i * 5 + 3, none⟩ = some (.int .i64 x.l) ∧ w.cell? ⟨blk, off + i * 5 + 4, none⟩ = some (.int .i64 x.c)
theorem TaAt.below {w w' : World} {A : Option Addr} {L : List Ta} (h : TaAt w A L) (hb : Below w.heap.size w w') : TaAt w' A L := by
  intro hn
  obtain ⟨blk, off, e, hc⟩ := h hn
  refine ⟨blk, off, e, fun i x hx => ?_⟩
  obtain ⟨h1, h2, h3, h4, h5⟩ := hc i x hx
  have hlt := cell_some_lt h1
  exact ⟨(hb.cell (p := ⟨blk, off + i * 5, none⟩) hlt).trans h1, (hb.cell (p := ⟨blk, off + i * 5 + 1, none⟩) hlt).trans h2, (hb.cell (p := ⟨blk, off + i * 5 + 2, none⟩) hlt).trans h3, (hb.cell (p := ⟨blk, off + i * 5 + 3, none⟩) hlt).trans h4, (hb.cell (p := ⟨blk, off + i * 5 + 4, none⟩) hlt).trans h5⟩
theorem TaAt.at_ {w : World} {A : Option Addr} {L : List Ta} (h : TaAt w A L) {k : Nat} (hk : k < L.length) :
    ∃ blk off x, A = some ⟨blk, off, none⟩ ∧ L[k]? = some x ∧ w.cell? ⟨blk, off + k * 5, none⟩ = some (.int .i64 x.k) ∧ w.cell? ⟨blk, off + k * 5 + 1, none⟩ = some (.string x.t) ∧ w.cell? ⟨blk, off + k * 5 + 2, none⟩ = some (.int .u64 x.u) ∧
    w.cell? ⟨blk, off + k * 5 + 3, none⟩ = some (.int .i64 x.l) ∧ w.cell? ⟨blk, off + k * 5 + 4, none⟩ = some (.int .i64 x.c) := by
  obtain ⟨blk, off, e, hc⟩ := h (by omega)
  have e1 : L[k]? = some L[k] := List.getElem?_eq_getElem hk
  exact ⟨blk, off, _, e, e1, hc k _ e1⟩
theorem tps_get : ∀ (l : List Tp) (i : Nat) (x : Tp), l[i]? = some x → (∀ j, j < 5 → (tpsCells l)[i * 5 + j]? = (tpCells x)[j]?)
  | [], i, x, h, _, _ => by cases h
  | y :: l, 0, x, h, j, hj => by
    cases h
    show (tpCells y ++ tpsCells l)[0 * 5 + j]? = _
    rw [List.getElem?_append_left (by show 0 * 5 + j < 5; omega), Nat.zero_mul, Nat.zero_add]
  | y :: l, i + 1, x, h, j, hj => by
    have e : (i + 1) * 5 + j = 5 + (i * 5 + j) := by omega
    show (tpCells y ++ tpsCells l)[(i + 1) * 5 + j]? = _
    rw [e, List.getElem?_append_right (by show 5 ≤ 5 + (i * 5 + j); omega)]
    have e2 : 5 + (i * 5 + j) - (tpCells y).length = i * 5 + j := by show 5 + (i * 5 + j) - 5 = _; omega
    rw [e2]
    exact tps_get l i x h j hj
/-- tokens that were told lie -/
theorem tpsAt_form {base : Nat} {w : World} {v : Value} {l : List Tp} (h : TpsAt base w v l) : ∃ A c, v = .slice A l.length c ∧ l.length ≤ c ∧ TaAt w A (l.map Tp.ta) ∧ ∀ a, A = some a → base ≤ a.block := by
  rcases h.2 with ⟨rfl, hn⟩ | ⟨g, cap, cur, hv, hbg, hg, hn, _, hs, ht⟩
  · exact ⟨none, 0, by rw [hn], by omega, fun hlt => by rw [List.length_map] at hlt; omega, fun a ha => by cases ha⟩
  · refine ⟨some ⟨g, 0, none⟩, cap, hv, hn, fun _ => ⟨g, 0, rfl, fun i x hx => ?_⟩, fun a ha => by cases ha; exact hbg⟩
    rw [List.getElem?_map] at hx
    obtain ⟨y, hy, rfl⟩ := Option.map_eq_some_iff.1 hx
    have hi := (List.getElem?_eq_some_iff.1 hy).1
    have key : ∀ j, j < 5 → w.cell? ⟨g, 0 + i * 5 + j, none⟩ = (tpCells y)[j]? := fun j hj => by
      rw [blk_cell hg, Nat.zero_add, ← Array.getElem?_toList, ← tps_get l i y hy j hj, ← ht, List.getElem?_take, if_pos (by omega)]
    exact ⟨key 0 (by omega), key 1 (by omega), key 2 (by omega), key 3 (by omega), key 4 (by omega)⟩
def plainT (L : List ByteArray) : ByteArray := ⟨(Lib.join (L.map (·.data.toList)) [32]).toArray⟩
theorem cell_one_new2 (w : World) (o : Obj) (v : Value) (t : TypeId) : ∀ (j : Nat) (u : Value), [v][j]? = some u → ((w.alloc o).alloc (.cells #[v] t)).cell? ((⟨w.heap.size + 1, 0, none⟩ : Addr).add j) = some u := by
  have h := cell_one_new (w.alloc o) v t
  have e : (w.alloc o).heap.size = w.heap.size + 1 := by simp
  rw [e] at h
  exact h
set_option maxRecDepth 100000 in
set_option maxHeartbeats 4000000 in
theorem plain_any (A : Option Addr) (c : Nat) (L : List Ta) (w : World) (hA : TaAt w A L) (hn : L.length ≤ 2000000) (hlen : (Lib.join (L.map (·.t.data.toList)) [32]).length ≤ 140737488355328) :
    Calls Tryd.prog 21 #[.slice A L.length c] w (StrPost (plainT (L.map Ta.t)) w) := by
  obtain ⟨n, hL⟩ : ∃ n, L.length = n := ⟨_, rfl⟩
  rw [hL] at hn ⊢
  have hL' := Lib.hid hL
  have hA' := Lib.hid hA
  have hlen' := Lib.hid hlen
  obtain ⟨i0, hi, hz0, hz1, hz2⟩ := info_parts info9
  have hi' := Lib.hid (And.intro hi (And.intro hz0 (And.intro hz1 hz2)))
  clear hi hz0 hz1 hz2 hA hL hlen
  go_enter Tryd.func21, Tryd.ntmps21
  go_wp2_with fail
  go_loopg [3, 8] n (fun g s3 s8 wr => ∃ k : Nat, k + g = n ∧ s8 = .int .i64 k ∧ wr.ownsRow w.heap.size 9 1 s3 k (sCells ((L.take k).map Ta.t)) ∧ Below w.heap.size w wr)
  case atStart => exact ⟨0, by omega, rfl, ⟨rfl, .inl ⟨rfl, rfl⟩⟩, Below.refl _ _⟩
  case round =>
    obtain ⟨k, hkg, rfl, ho, hbr⟩ := hrel
    have ho' := Lib.hid ho
    have hbr' := Lib.hid hbr
    clear ho hbr
    cases gk with
    | zero =>
      have e0 : ¬ ((k : Int) < (n : Int)) := by omega
      have htk : L.take k = L := List.take_of_length_le (by rw [hL'.out]; omega)
      have ho2 := ho'.out
      rw [htk] at ho2
      have hls : (L.map Ta.t).length = k := by rw [List.length_map, hL'.out]; omega
      obtain ⟨hcl, hcase⟩ := ho2
      rcases hcase with ⟨hv, h0⟩ | ⟨gb, cap, cur, hv, hgb, hh, hcap, hm, hs, htt⟩
      · subst hv
        have hnil := Lib.hid (show plainT (L.map Ta.t) = ⟨#[]⟩ by
          have : L = [] := List.length_eq_zero_iff.1 (by rw [hL'.out]; omega)
          rw [this]
          rfl)
        have hj := Lib.hid (Tryd.strings_Join_none none 0 ⟨#[32]⟩ wr)
        clear hcl htk
        go_wp2_with fail
        refine hj.out.mono ?_
        rintro e w4 ⟨rfl, rfl⟩
        go_wp2
        go_ret
        exact ⟨by rw [hnil.out]; rfl, hbr'.out⟩
      · have hj := (Tryd.strings_Join gb 0 cap (L.map Ta.t) ⟨#[32]⟩ wr (fun j x hx => by
          rw [Nat.zero_add, blk_cell hh]
          have h3 : (cur.toList.take (k * 1))[j]? = (sCells (L.map Ta.t))[j]? := by rw [htt]
          have hjl : j < k := by have := (List.getElem?_eq_some_iff.1 hx).1; omega
          rw [List.getElem?_take, if_pos (by omega), sCells, List.getElem?_map, hx] at h3
          simpa using h3) (blk_lt hh) (by omega) (by omega) (by rw [List.map_map]; exact hlen'.out))
        rw [hls] at hj
        subst hv
        have hj2 := Lib.hid (show Calls Tryd.prog 38 #[.slice (some ⟨gb, 0, none⟩) k cap, .string ⟨#[32]⟩] wr fun e w' => e = .returned (.string (plainT (L.map Ta.t))) ∧ Below wr.heap.size wr w' from hj)
        clear hh htt hs hcl htk hgb hj
        go_wp2_with fail
        refine hj2.out.mono ?_
        rintro e w4 ⟨rfl, hb4⟩
        have hb4' := Lib.hid (Below.next hbr'.out hb4)
        clear hb4
        go_wp2
        go_ret
        exact ⟨rfl, hb4'.out⟩
    | succ g =>
      have e0 : (k : Int) < (n : Int) := by omega
      obtain ⟨blk, off, x, rfl, hx, v1, v2, v3, v4, v5⟩ := (hA'.out.below hbr'.out).at_ (k := k) (by rw [hL'.out]; omega)
      have hx' := Lib.hid hx
      have hblt := cell_some_lt v1
      have hsz := hbr'.out.size
      obtain ⟨xk, xt, xu, xl, xc⟩ := x
      dsimp only at v1 v2 v3 v4 v5
      clear hx
      have hown := Lib.hid (own_keep (W' := (wr.alloc (.cells #[.int .i64 xk, .string xt, .int .u64 xu, .int .i64 xl, .int .i64 xc] 41)).alloc (.cells #[.string xt] 9)) ho'.out fun g hg => by
        have := (own_at ho'.out hg).2
        rw [heap_alloc_old _ _ (by simp; omega), heap_alloc_old _ _ this])
      have hnew := Lib.hid (cell_one_new2 wr (.cells #[.int .i64 xk, .string xt, .int .u64 xu, .int .i64 xl, .int .i64 xc] 41) (.string xt) 9)
      have hbA := Lib.hid ((hbr'.out.alloc hbr'.out.size (.cells #[.int .i64 xk, .string xt, .int .u64 xu, .int .i64 xl, .int .i64 xc] 41)).alloc (by simp; omega) (.cells #[.string xt] 9))
      have hone := Lib.hid (show ∀ v ∈ [Value.string xt], v.oneCell' = true by simp [Value.oneCell'])
      have hbs := Lib.hid hbA.out.size
      have hk1 := Lib.hid (show k + 1 ≤ maxLen by unfold maxLen; omega)
      have hk2 := Lib.hid (show (k + 1) * 16 ≤ 140737488355328 by omega)
      obtain ⟨hj1, hj2, hj3, hj4⟩ := hi'.out
      go_wp2_with ((at_builtin; refine wpList_append_own_at _ rfl _ _ 82 rfl w.heap.size 9 i0 _ 1 16 und45 hj1 hj2 hj3 hj4 rfl (by decide) u3 k (sCells ((L.take k).map Ta.t)) rfl hown.out ⟨wr.heap.size + 1, 0, none⟩ 1 1 [.string xt] rfl rfl hnew.out hone.out hk1.out hk2.out hbs.out ?_; intro v' w4 hown4 hg4 hnil4 hat4))
      have hB4' := Lib.hid (hbA.out.grown hg4 hbs.out (fun g' e => (own_at hown.out e).1))
      have hown4' := Lib.hid hown4
      clear hown4 hg4 hnil4 hat4
      go_wp2
      go_roundg g
      case measure => omega
      case rel =>
        refine ⟨k + 1, by omega, by go_num, ?_, hB4'.out⟩
        have e5 : (L.take (k + 1)).map Ta.t = (L.take k).map Ta.t ++ [xt] := by
          rw [List.take_add_one, hx'.out, List.map_append]
          rfl
        rw [e5]
        simpa [sCells] using hown4'.out
end Go.Proofs.YtmkfoknhjjgipaaDoor
