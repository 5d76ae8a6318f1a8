/- Texts of lists: list[Expr]. -/
import Derived.Test.YtnahgfdoiflacaaGreatDoorP
set_option linter.unusedSimpArgs false
set_option linter.unusedVariables false
namespace Go.Proofs.YtnahgfdoiflacaaGreatDoor
open Go.RowKit Go.Lib Go.Shelf

theorem info_parts {o : Option TypeInfo} {z : Value} {sz bt : Nat} (h : o.map (fun i => (i.zero, i.size, i.bytes)) = some (some z, sz, bt)) : ∃ i, o = some i ∧ i.zero = some z ∧ i.size = sz ∧ i.bytes = bt := by
  cases o with
  | none => cases h
  | some i =>
    simp only [Option.map_some, Option.some.injEq, Prod.mk.injEq] at h
    exact ⟨i, rfl, h.1, h.2.1, h.2.2⟩
theorem own_keep {W W' : World} {base : Nat} {e : TypeId} {size : Nat} {v : Value} {n : Nat} {xs : List Value} (h : W.ownsRow base e size v n xs) (hb : ∀ g, v.ownBlock = some g → W'.heap[g]? = W.heap[g]?) : W'.ownsRow base e size v n xs := by
  refine ⟨h.1, ?_⟩
  rcases h.2 with hn | ⟨g, cap, cur, hv, hbg, hg, rest⟩
  · exact .inl hn
  · exact .inr ⟨g, cap, cur, hv, hbg, (hb g (by rw [hv]; rfl)).trans hg, rest⟩
theorem own_at {W : World} {base : Nat} {e : TypeId} {size : Nat} {v : Value} {n : Nat} {xs : List Value} (h : W.ownsRow base e size v n xs) {g : Nat} (hb : v.ownBlock = some g) : base ≤ g ∧ g < W.heap.size := by
  rcases h.2 with ⟨rfl, _⟩ | ⟨g', cap, cur, hv, hbg, hg, rest⟩
  · cases hb
  · rw [hv] at hb
    cases hb
    exact ⟨hbg, blk_lt hg⟩
theorem cell_one_at (W : World) (v : Value) (t : TypeId) : ∀ (j : Nat) (u : Value), [v][j]? = some u → (W.alloc (.cells #[v] t)).cell? ((⟨W.heap.size, 0, none⟩ : Addr).add j) = some u := by
  have h := cell_one_new W v t
  exact h
theorem commas_join : ∀ l : List (List UInt8), Lib.join l [44, 32] = commas l
  | [] => rfl
  | [x] => Lib.join_one x _
  | x :: y :: r => by
    have ih := commas_join (y :: r)
    rw [Lib.join_cons] at ih ⊢
    rw [commas, ← ih]
    simp [Lib.joinTail]
/-- texts with a comma and a blank between -/
def listT (l : List ByteArray) : ByteArray := ⟨(Lib.join (l.map (·.data.toList)) [44, 32]).toArray⟩

set_option maxRecDepth 100000 in
set_option maxHeartbeats 4000000 in
theorem listE_any (g : Nat) (hent : ∀ args w, (callFunc g args).run Tryz.prog w = .ok (.enter g args) w) (T : Ex → ByteArray) (w0 : World) (L : List (Ex)) (A : Option Addr) (h : ExsAt w0 L A) (c : Nat) (W : World)
    (hW : Below w0.heap.size w0 W) (hn : L.length ≤ 1000000) (hlen : (Lib.join (L.map fun x => (T x).data.toList) [44, 32]).length ≤ 140737488355328)
    (hc : ∀ (i : Nat) (x : Ex) (B : Option Addr), L[i]? = some x → ExAt w0 x B → ∀ (C : Nat) (W' : World), Below w0.heap.size w0 W' → Calls Tryz.prog g #[exV x B C] W' (StrPost (T x) W')) :
    Calls Tryz.prog 96 #[.slice A L.length c, .func (.func g) #[] #[]] W (StrPost (listT (L.map T)) W) := by
  have hs := Lib.hid h
  have hc' := Lib.hid hc
  have hW' := Lib.hid hW
  have hlen' := Lib.hid (show (Lib.join ((L.map T).map (·.data.toList)) [44, 32]).length ≤ 140737488355328 by rw [List.map_map]; exact hlen)
  obtain ⟨n, hnn⟩ : ∃ n, L.length = n := ⟨_, rfl⟩
  rw [hnn] at hn ⊢
  have hL' := Lib.hid hnn
  obtain ⟨i0, hi, hz0, hz1, hz2⟩ := info_parts info9
  have hi' := Lib.hid (And.intro hi (And.intro hz0 (And.intro hz1 hz2)))
  clear hi hz0 hz1 hz2 hc hW hnn h hlen
  go_enter Tryz.func96, Tryz.ntmps96
  go_wp2_with fail
  go_loopg [5, 10] n (fun g s5 s10 wr => ∃ k : Nat, k + g = n ∧ s10 = .int .i64 k ∧ wr.ownsRow W.heap.size 9 1 s5 k (sCells ((L.take k).map T)) ∧ Below W.heap.size W wr)
  case atStart => exact ⟨0, by omega, rfl, ⟨rfl, .inl ⟨rfl, rfl⟩⟩, Below.refl _ _⟩
  case round =>
    obtain ⟨k, hkg, rfl, ho, hbr⟩ := hrel
    have ho' := Lib.hid ho
    have hbr' := Lib.hid hbr
    clear ho hbr
    cases gk with
    | zero =>
      have e0 : ¬ ((k : Int) < (n : Int)) := by omega
      have htk : L.take k = L := List.take_of_length_le (by rw [hL'.out]; omega)
      have ho2 := ho'.out
      rw [htk] at ho2
      have hls : (L.map T).length = k := by rw [List.length_map, hL'.out]; omega
      obtain ⟨hcl, hcase⟩ := ho2
      rcases hcase with ⟨hv, h0⟩ | ⟨gb, cap, cur, hv, hgb, hh, hcap, hm, hs, htt⟩
      · subst hv
        have hnil := Lib.hid (show listT (L.map T) = ⟨#[]⟩ by
          have : L = [] := List.length_eq_zero_iff.1 (by rw [hL'.out]; omega)
          rw [this]
          rfl)
        have hj := Lib.hid (Tryz.strings_Join_none none 0 ⟨#[44, 32]⟩ wr)
        clear hcl htk
        go_wp2_with fail
        refine hj.out.mono ?_
        rintro e w4 ⟨rfl, rfl⟩
        go_wp2
        go_ret
        exact ⟨by rw [hnil.out]; rfl, hbr'.out⟩
      · have hj := (Tryz.strings_Join gb 0 cap (L.map T) ⟨#[44, 32]⟩ wr (fun j x hx => by
          rw [Nat.zero_add, blk_cell hh]
          have h3 : (cur.toList.take (k * 1))[j]? = (sCells (L.map T))[j]? := by rw [htt]
          have hjl : j < k := by have := (List.getElem?_eq_some_iff.1 hx).1; omega
          rw [List.getElem?_take, if_pos (by omega), sCells, List.getElem?_map, hx] at h3
          simpa using h3) (blk_lt hh) (by omega) (by omega) hlen'.out)
        rw [hls] at hj
        subst hv
        have hj2 := Lib.hid (show Calls Tryz.prog 105 #[.slice (some ⟨gb, 0, none⟩) k cap, .string ⟨#[44, 32]⟩] wr fun e w' => e = .returned (.string (listT (L.map T))) ∧ Below wr.heap.size wr w' from hj)
        clear hh htt hs hcl htk hgb hj
        go_wp2_with fail
        refine hj2.out.mono ?_
        rintro e w4 ⟨rfl, hb4⟩
        have hb4' := Lib.hid (Below.next hbr'.out hb4)
        clear hb4
        go_wp2
        go_ret
        exact ⟨rfl, hb4'.out⟩
    | succ g2 =>
      have e0 : (k : Int) < (n : Int) := by omega
      have hbw := Lib.hid (hW'.out.trans (hbr'.out.mono hW'.out.size))
      obtain ⟨blk, off, x, B, C, rfl, hx, v0, v1, v2, v3, hxe⟩ := (hs.out).at_ (k := k) (by rw [hL'.out]; omega)
      have v0 := (hbw.out.cell (p := ⟨blk, off + k * 4, none⟩) (cell_some_lt v0)).trans v0
      have v1 := (hbw.out.cell (p := ⟨blk, off + k * 4 + 1, none⟩) (cell_some_lt v1)).trans v1
      have v2 := (hbw.out.cell (p := ⟨blk, off + k * 4 + 2, none⟩) (cell_some_lt v2)).trans v2
      have v3 := (hbw.out.cell (p := ⟨blk, off + k * 4 + 3, none⟩) (cell_some_lt v3)).trans v3
      have hx' := Lib.hid hx
      have hcl := hc'.out k x B hx hxe C (wr.alloc (.cells #[.int .i64 x.op, .int .u64 x.u, .string x.nm, .slice B x.ars.length C] 26)) (hbw.out.alloc hbw.out.size _)
      unfold exV at hcl
      have hcl := Lib.hid hcl
      have hown0 := Lib.hid (own_keep (W' := wr.alloc (.cells #[.int .i64 x.op, .int .u64 x.u, .string x.nm, .slice B x.ars.length C] 26)) ho'.out fun g hg => heap_alloc_old _ _ (own_at ho'.out hg).2)
      have hbo := Lib.hid (hbr'.out.alloc hbr'.out.size (.cells #[.int .i64 x.op, .int .u64 x.u, .string x.nm, .slice B x.ars.length C] 26))
      clear hx hxe
      go_wp2_with fail
      refine hcl.out.mono ?_
      rintro e w2 ⟨rfl, hb2⟩
      have hb2' := Lib.hid (Below.next hbo.out hb2)
      generalize hxt : T x = xt
      have hown := Lib.hid (own_keep (W' := w2.alloc (.cells #[.string xt] 9)) hown0.out fun g hg => by
        have h1 := (own_at hown0.out hg).2
        have h2 := hb2.size
        rw [heap_alloc_old _ _ (by omega), hb2.block g h1])
      have hxt' := Lib.hid hxt
      have hnew := Lib.hid (cell_one_at w2 (.string xt) 9)
      have hbA := Lib.hid (hb2'.out.alloc hb2'.out.size (.cells #[.string xt] 9))
      have hone := Lib.hid (show ∀ v ∈ [Value.string xt], v.oneCell' = true by simp [Value.oneCell'])
      have hbs := Lib.hid hbA.out.size
      have hk1 := Lib.hid (show k + 1 ≤ maxLen by unfold maxLen; omega)
      have hk2 := Lib.hid (show (k + 1) * 16 ≤ 140737488355328 by omega)
      obtain ⟨hj1, hj2, hj3, hj4⟩ := hi'.out
      clear hb2 hxt
      go_wp2_with ((at_builtin; refine wpList_append_own_at _ rfl _ _ 47 rfl W.heap.size 9 i0 _ 1 16 und45 hj1 hj2 hj3 hj4 rfl (by decide) u5 k (sCells ((L.take k).map T)) rfl hown.out ⟨w2.heap.size, 0, none⟩ 1 1 [.string xt] rfl rfl hnew.out hone.out hk1.out hk2.out hbs.out ?_; intro v' w4 hown4 hg4 hnil4 hat4))
      have hB4' := Lib.hid (hbA.out.grown hg4 hbs.out (fun g' e => (own_at hown.out e).1))
      have hown4' := Lib.hid hown4
      clear hown4 hg4 hnil4 hat4
      go_wp2
      go_roundg g2
      case measure => omega
      case rel =>
        refine ⟨k + 1, by omega, by go_num, ?_, hB4'.out⟩
        have e5 : (L.take (k + 1)).map T = (L.take k).map T ++ [xt] := by
          rw [List.take_add_one, hx'.out, List.map_append, ← hxt'.out]
          rfl
        rw [e5]
        simpa [sCells] using hown4'.out
end Go.Proofs.YtnahgfdoiflacaaGreatDoor
