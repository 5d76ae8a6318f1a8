/- The text of what was seen: Seen. -/
import Derived.Test.YtkbmckmlnphpmaaGreatDoorAC
set_option linter.unusedSimpArgs false
set_option linter.unusedVariables false
namespace Go.Proofs.YtkbmckmlnphpmaaGreatDoor
open Go.RowKit Go.Lib Go.Shelf

def j1W : ByteArray := ⟨#[106, 49]⟩
def j0W : ByteArray := ⟨#[106, 48]⟩
def seenT (x : Sn) : ByteArray := if x.t then j1W else if x.j then j0W else numT x.a.toNat
def seenText (L : List Sn) : ByteArray := joinT (L.map seenT) ⟨#[32]⟩
theorem seen_len (L : List Sn) (hL : ∀ x ∈ L, 0 ≤ x.a ∧ x.a ≤ 18446744073709551615) (h2 : L.length ≤ 1000000) : (Lib.join ((L.map seenT).map (·.data.toList)) [32]).length ≤ 140737488355328 := by
  cases L with
  | nil => simp [Lib.join]
  | cons x L =>
    rw [List.map_cons, List.map_cons, Lib.join_length]
    have h3 := lens_le (((x :: L).map seenT).map (·.data.toList)) 1000 (by
      intro y hy
      rw [List.map_map] at hy
      obtain ⟨z, hz, rfl⟩ := List.mem_map.1 hy
      show (seenT z).data.toList.length ≤ 1000
      unfold seenT
      split
      · exact Nat.le_of_lt (by decide)
      · split
        · exact Nat.le_of_lt (by decide)
        · have := numT_len z.a.toNat (by have := hL z hz; omega)
          omega)
    simp only [List.length_cons, List.length_map, List.length_nil, List.map_cons] at h3 h2 ⊢
    have h4 : (L.length + 1) * 1000 ≤ 1000001 * 1000 := Nat.mul_le_mul_right _ (by omega)
    omega

theorem cell_one_new2 (w : World) (o : Obj) (v : Value) (t : TypeId) : ∀ (j : Nat) (u : Value), [v][j]? = some u → ((w.alloc o).alloc (.cells #[v] t)).cell? ((⟨w.heap.size + 1, 0, none⟩ : Addr).add j) = some u := by
  have h := cell_one_new (w.alloc o) v t
  have e : (w.alloc o).heap.size = w.heap.size + 1 := by simp
  rw [e] at h
  exact h

set_option maxRecDepth 100000 in
set_option maxHeartbeats 4000000 in
theorem seen_any (A : Option Addr) (n c : Nat) (L : List Sn) (w : World) (hL : L.length = n) (hA : SnAt w A L) (hT : Tab w) (hn : n ≤ 1000000) :
    Calls Tryz.prog 26 #[.slice A n c] w (StrErr (if L.all toldB = true then seenText L else ⟨#[]⟩) (if L.all toldB = true then 0 else 2) w) := by
  have hk := Lib.hid (allTold_any A n c L w hL hA (by omega))
  have hlen := Lib.hid (seen_len L hA.1 (by omega))
  have hL' := Lib.hid hL
  have hA' := Lib.hid hA
  have hT' := Lib.hid hT
  clear hL hA hT
  obtain ⟨t, ht⟩ : ∃ t, L.all toldB = t := ⟨_, rfl⟩
  rw [ht] at hk ⊢
  cases t
  · rw [if_neg (by simp), if_neg (by simp)]
    clear ht
    go_enter Tryz.func26, Tryz.ntmps26
    go_wp2_with fail
    refine hk.out.mono ?_
    rintro e w1 ⟨rfl, hb1⟩
    have hb1' := Lib.hid hb1
    clear hb1
    go_wp2
    go_ret2
    exact ⟨rfl, hb1'.out⟩
  · rw [if_pos rfl, if_pos rfl]
    clear ht
    obtain ⟨i0, hi, hz0, hz1, hz2⟩ := info_parts info9
    have hi' := Lib.hid (And.intro hi (And.intro hz0 (And.intro hz1 hz2)))
    clear hi hz0 hz1 hz2
    go_enter Tryz.func26, Tryz.ntmps26
    go_wp2_with fail
    refine hk.out.mono ?_
    rintro e w1 ⟨rfl, hb1⟩
    have hb1' := Lib.hid hb1
    clear hb1
    go_wp2_with fail
    go_loopg [4, 12] n (fun g s4 s12 wr => ∃ k : Nat, k + g = n ∧ s12 = .int .i64 k ∧ wr.ownsRow w.heap.size 9 1 s4 k (sCells ((L.take k).map seenT)) ∧ Below w.heap.size w wr)
    case atStart => exact ⟨0, by omega, rfl, ⟨rfl, .inl ⟨rfl, rfl⟩⟩, hb1'.out⟩
    case round =>
      obtain ⟨k, hkg, rfl, ho, hbr⟩ := hrel
      have ho' := Lib.hid ho
      have hbr' := Lib.hid hbr
      clear ho hbr
      cases gk with
      | zero =>
        have e0 : ¬ ((k : Int) < (n : Int)) := by omega
        have htk : L.take k = L := List.take_of_length_le (by rw [hL'.out]; omega)
        have ho2 := ho'.out
        rw [htk] at ho2
        have hls : (L.map seenT).length = k := by rw [List.length_map, hL'.out]; omega
        obtain ⟨hcl, hcase⟩ := ho2
        rcases hcase with ⟨hv, h0⟩ | ⟨gb, cap, cur, hv, hgb, hh, hcap, hm, hs, htt⟩
        · subst hv
          have hnil := Lib.hid (show seenText L = ⟨#[]⟩ by
            have : L = [] := List.length_eq_zero_iff.1 (by rw [hL'.out]; omega)
            rw [this]
            rfl)
          have hj := Lib.hid (Tryz.strings_Join_none none 0 ⟨#[32]⟩ wr)
          clear hcl htk
          go_wp2_with fail
          refine hj.out.mono ?_
          rintro e w4 ⟨rfl, rfl⟩
          go_wp2
          go_ret2
          exact ⟨by rw [hnil.out]; rfl, hbr'.out⟩
        · have hj := Lib.hid (Tryz.strings_Join gb 0 cap (L.map seenT) ⟨#[32]⟩ wr (fun j x hx => by
            rw [Nat.zero_add, blk_cell hh]
            have h3 : (cur.toList.take (k * 1))[j]? = (sCells (L.map seenT))[j]? := by rw [htt]
            have hjl : j < k := by have := (List.getElem?_eq_some_iff.1 hx).1; omega
            rw [List.getElem?_take, if_pos (by omega), sCells, List.getElem?_map, hx] at h3
            simpa using h3) (blk_lt hh) (by omega) (by omega) hlen.out)
          rw [hls] at hj
          subst hv
          have hj2 := Lib.hid (show Calls Tryz.prog 65 #[.slice (some ⟨gb, 0, none⟩) k cap, .string ⟨#[32]⟩] wr fun e w' => e = .returned (.string (seenText L)) ∧ Below wr.heap.size wr w' from hj.out)
          clear hh htt hs hcl htk hgb hj
          go_wp2_with fail
          refine hj2.out.mono ?_
          rintro e w4 ⟨rfl, hb4⟩
          have hb4' := Lib.hid (Below.next hbr'.out hb4)
          clear hb4
          go_wp2
          go_ret2
          exact ⟨rfl, hb4'.out⟩
      | succ g =>
        have e0 : (k : Int) < (n : Int) := by omega
        obtain ⟨blk, off, x, rfl, hx, v1, v2, v3, x0, x1⟩ := (hA'.out.below hbr'.out).at_ (k := k) (by rw [hL'.out]; omega)
        have hx' := Lib.hid hx
        obtain ⟨u, hu⟩ := Int.eq_ofNat_of_zero_le x0
        rw [hu] at v3 x1
        have hu' := Lib.hid hu
        have hblt := cell_some_lt v1
        have hf := Lib.hid fun (W : World) (h : Below w.heap.size w W) => fmtU u (by omega) W (hT'.out.below h)
        have hsz := hbr'.out.size
        obtain ⟨xj, hxj⟩ : ∃ xj, x.j = xj := ⟨_, rfl⟩
        obtain ⟨xt, hxt⟩ : ∃ xt, x.t = xt := ⟨_, rfl⟩
        rw [hxj] at v1
        rw [hxt] at v2
        have hxj' := Lib.hid hxj
        have hxt' := Lib.hid hxt
        clear hx hu x0 hxj hxt
        cases xt
        · cases xj
          · go_wp2_with fail
            refine (hf.out _ (hbr'.out.alloc hbr'.out.size _)).mono ?_
            rintro e w3 ⟨rfl, hb3⟩
            have hb3' := Lib.hid (Below.next ((Below.refl wr.heap.size wr).alloc (Nat.le_refl _) _) hb3)
            clear hb3
            have hown := Lib.hid ((show (w3).ownsRow w.heap.size 9 1 u4 k (sCells ((L.take k).map seenT)) from ho'.out.kept (row := none) ⟨(hb3'.out).os, (hb3'.out).tape, (hb3'.out).output, (hb3'.out).size, fun i hi _ => (hb3'.out).block i hi⟩ (Classical.em _)).alloc (.cells #[.string (numT u)] 9))
            have hnew := Lib.hid (cell_one_new (w3) (.string (numT u)) 9)
            have hbA := Lib.hid (Below.next hbr'.out ((hb3'.out).alloc (hb3'.out).size (.cells #[.string (numT u)] 9)))
            have hone := Lib.hid (show ∀ v ∈ [Value.string (numT u)], v.oneCell' = true by simp [Value.oneCell'])
            have hbs := Lib.hid hbA.out.size
            have hk1 := Lib.hid (show k + 1 ≤ maxLen by unfold maxLen; omega)
            have hk2 := Lib.hid (show (k + 1) * 16 ≤ 140737488355328 by omega)
            obtain ⟨hj1, hj2, hj3, hj4⟩ := hi'.out
            go_wp2_with ((at_builtin; refine wpList_append_own_at _ rfl _ _ 67 rfl w.heap.size 9 i0 _ 1 16 und67 hj1 hj2 hj3 hj4 rfl (by decide) u4 k (sCells ((L.take k).map seenT)) rfl hown.out ⟨w3.heap.size, 0, none⟩ 1 1 [.string (numT u)] rfl rfl hnew.out hone.out hk1.out hk2.out hbs.out ?_; intro v' w4 hown4 hg4 hnil4 hat4))
            have hB4 : Below w.heap.size w w4 := hbA.out.grown hg4 hbs.out (fun g' e => (hown.out.lt g' e).1)
            have hB4' := Lib.hid hB4
            have hown4' := Lib.hid hown4
            clear hB4 hown4 hg4 hnil4 hat4
            go_wp2
            go_roundg g
            case measure => omega
            case rel =>
              refine ⟨k + 1, by omega, by go_num, ?_, hB4'.out⟩
              have e5 : (L.take (k + 1)).map seenT = (L.take k).map seenT ++ [(numT u)] := by
                rw [List.take_add_one, hx'.out, List.map_append]
                have : seenT x = (numT u) := by unfold seenT; rw [hxt'.out]; rw [hxj'.out, hu'.out]; rfl
                simp [this]
              rw [e5]
              simpa [sCells] using hown4'.out
          · have hown := Lib.hid ((show ((wr.alloc (Obj.cells #[.bool true, .bool false, .int .u64 u] 84))).ownsRow w.heap.size 9 1 u4 k (sCells ((L.take k).map seenT)) from ho'.out.kept (row := none) ⟨(((Below.refl wr.heap.size wr).alloc (Nat.le_refl _) (Obj.cells #[.bool true, .bool false, .int .u64 u] 84))).os, (((Below.refl wr.heap.size wr).alloc (Nat.le_refl _) (Obj.cells #[.bool true, .bool false, .int .u64 u] 84))).tape, (((Below.refl wr.heap.size wr).alloc (Nat.le_refl _) (Obj.cells #[.bool true, .bool false, .int .u64 u] 84))).output, (((Below.refl wr.heap.size wr).alloc (Nat.le_refl _) (Obj.cells #[.bool true, .bool false, .int .u64 u] 84))).size, fun i hi _ => (((Below.refl wr.heap.size wr).alloc (Nat.le_refl _) (Obj.cells #[.bool true, .bool false, .int .u64 u] 84))).block i hi⟩ (Classical.em _)).alloc (.cells #[.string ⟨#[106, 48]⟩] 9))
            have hnew := Lib.hid (cell_one_new2 wr (Obj.cells #[.bool true, .bool false, .int .u64 u] 84) (.string ⟨#[106, 48]⟩) 9)
            have hbA := Lib.hid (Below.next hbr'.out ((((Below.refl wr.heap.size wr).alloc (Nat.le_refl _) (Obj.cells #[.bool true, .bool false, .int .u64 u] 84))).alloc (((Below.refl wr.heap.size wr).alloc (Nat.le_refl _) (Obj.cells #[.bool true, .bool false, .int .u64 u] 84))).size (.cells #[.string ⟨#[106, 48]⟩] 9)))
            have hone := Lib.hid (show ∀ v ∈ [Value.string ⟨#[106, 48]⟩], v.oneCell' = true by simp [Value.oneCell'])
            have hbs := Lib.hid hbA.out.size
            have hk1 := Lib.hid (show k + 1 ≤ maxLen by unfold maxLen; omega)
            have hk2 := Lib.hid (show (k + 1) * 16 ≤ 140737488355328 by omega)
            obtain ⟨hj1, hj2, hj3, hj4⟩ := hi'.out
            go_wp2_with ((at_builtin; refine wpList_append_own_at _ rfl _ _ 67 rfl w.heap.size 9 i0 _ 1 16 und67 hj1 hj2 hj3 hj4 rfl (by decide) u4 k (sCells ((L.take k).map seenT)) rfl hown.out ⟨wr.heap.size + 1, 0, none⟩ 1 1 [.string ⟨#[106, 48]⟩] rfl rfl hnew.out hone.out hk1.out hk2.out hbs.out ?_; intro v' w4 hown4 hg4 hnil4 hat4))
            have hB4 : Below w.heap.size w w4 := hbA.out.grown hg4 hbs.out (fun g' e => (hown.out.lt g' e).1)
            have hB4' := Lib.hid hB4
            have hown4' := Lib.hid hown4
            clear hB4 hown4 hg4 hnil4 hat4
            go_wp2
            go_roundg g
            case measure => omega
            case rel =>
              refine ⟨k + 1, by omega, by go_num, ?_, hB4'.out⟩
              have e5 : (L.take (k + 1)).map seenT = (L.take k).map seenT ++ [⟨#[106, 48]⟩] := by
                rw [List.take_add_one, hx'.out, List.map_append]
                have : seenT x = ⟨#[106, 48]⟩ := by unfold seenT; rw [hxt'.out]; rw [hxj'.out]; rfl
                simp [this]
              rw [e5]
              simpa [sCells] using hown4'.out
        · have hown := Lib.hid ((show ((wr.alloc (Obj.cells #[.bool xj, .bool true, .int .u64 u] 84))).ownsRow w.heap.size 9 1 u4 k (sCells ((L.take k).map seenT)) from ho'.out.kept (row := none) ⟨(((Below.refl wr.heap.size wr).alloc (Nat.le_refl _) (Obj.cells #[.bool xj, .bool true, .int .u64 u] 84))).os, (((Below.refl wr.heap.size wr).alloc (Nat.le_refl _) (Obj.cells #[.bool xj, .bool true, .int .u64 u] 84))).tape, (((Below.refl wr.heap.size wr).alloc (Nat.le_refl _) (Obj.cells #[.bool xj, .bool true, .int .u64 u] 84))).output, (((Below.refl wr.heap.size wr).alloc (Nat.le_refl _) (Obj.cells #[.bool xj, .bool true, .int .u64 u] 84))).size, fun i hi _ => (((Below.refl wr.heap.size wr).alloc (Nat.le_refl _) (Obj.cells #[.bool xj, .bool true, .int .u64 u] 84))).block i hi⟩ (Classical.em _)).alloc (.cells #[.string ⟨#[106, 49]⟩] 9))
          have hnew := Lib.hid (cell_one_new2 wr (Obj.cells #[.bool xj, .bool true, .int .u64 u] 84) (.string ⟨#[106, 49]⟩) 9)
          have hbA := Lib.hid (Below.next hbr'.out ((((Below.refl wr.heap.size wr).alloc (Nat.le_refl _) (Obj.cells #[.bool xj, .bool true, .int .u64 u] 84))).alloc (((Below.refl wr.heap.size wr).alloc (Nat.le_refl _) (Obj.cells #[.bool xj, .bool true, .int .u64 u] 84))).size (.cells #[.string ⟨#[106, 49]⟩] 9)))
          have hone := Lib.hid (show ∀ v ∈ [Value.string ⟨#[106, 49]⟩], v.oneCell' = true by simp [Value.oneCell'])
          have hbs := Lib.hid hbA.out.size
          have hk1 := Lib.hid (show k + 1 ≤ maxLen by unfold maxLen; omega)
          have hk2 := Lib.hid (show (k + 1) * 16 ≤ 140737488355328 by omega)
          obtain ⟨hj1, hj2, hj3, hj4⟩ := hi'.out
          go_wp2_with ((at_builtin; refine wpList_append_own_at _ rfl _ _ 67 rfl w.heap.size 9 i0 _ 1 16 und67 hj1 hj2 hj3 hj4 rfl (by decide) u4 k (sCells ((L.take k).map seenT)) rfl hown.out ⟨wr.heap.size + 1, 0, none⟩ 1 1 [.string ⟨#[106, 49]⟩] rfl rfl hnew.out hone.out hk1.out hk2.out hbs.out ?_; intro v' w4 hown4 hg4 hnil4 hat4))
          have hB4 : Below w.heap.size w w4 := hbA.out.grown hg4 hbs.out (fun g' e => (hown.out.lt g' e).1)
          have hB4' := Lib.hid hB4
          have hown4' := Lib.hid hown4
          clear hB4 hown4 hg4 hnil4 hat4
          go_wp2
          go_roundg g
          case measure => omega
          case rel =>
            refine ⟨k + 1, by omega, by go_num, ?_, hB4'.out⟩
            have e5 : (L.take (k + 1)).map seenT = (L.take k).map seenT ++ [⟨#[106, 49]⟩] := by
              rw [List.take_add_one, hx'.out, List.map_append]
              have : seenT x = ⟨#[106, 49]⟩ := by unfold seenT; rw [hxt'.out]; rfl
              simp [this]
            rw [e5]
            simpa [sCells] using hown4'.out
end Go.Proofs.YtkbmckmlnphpmaaGreatDoor
