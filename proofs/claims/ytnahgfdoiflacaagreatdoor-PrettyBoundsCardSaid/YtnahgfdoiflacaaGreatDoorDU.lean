/- Texts of lists: names, parameters; the word behind. A statement's first line. The reference's texts of lists; numbers with a sign. Variables' lines. Variables' lines: the program's way. -/
import Derived.Test.YtnahgfdoiflacaaGreatDoorQ
import Derived.Test.YtnahgfdoiflacaaGreatDoorS
import Derived.Test.YtnahgfdoiflacaaGreatDoorDI
import Derived.Test.YtnahgfdoiflacaaGreatDoorR
import Derived.BigQuiet
import Derived.Test.YtnahgfdoiflacaaGreatDoorDN
import Derived.Test.YtnahgfdoiflacaaGreatDoorP
set_option linter.unusedSimpArgs false
set_option linter.unusedVariables false
namespace Go.Proofs.YtnahgfdoiflacaaGreatDoor
open Go.RowKit Go.Lib Go.Shelf

set_option maxRecDepth 100000 in
set_option maxHeartbeats 4000000 in
theorem listS_any (g : Nat) (hent : ∀ args w, (callFunc g args).run Tryz.prog w = .ok (.enter g args) w) (T : ByteArray → ByteArray) (w0 : World) (L : List (ByteArray)) (A : Option Addr) (h : CellsAt 1 cellsS w0 L A) (c : Nat) (W : World)
    (hW : Below w0.heap.size w0 W) (hn : L.length ≤ 1000000) (hlen : (Lib.join (L.map fun x => (T x).data.toList) [44, 32]).length ≤ 140737488355328)
    (hc : ∀ (i : Nat) (x : ByteArray) , L[i]? = some x →  ∀ (W' : World), Below w0.heap.size w0 W' → Calls Tryz.prog g #[vlS x] W' (StrPost (T x) W')) :
    Calls Tryz.prog 57 #[.slice A L.length c, .func (.func g) #[] #[]] W (StrPost (listT (L.map T)) W) := by
  have hs := Lib.hid h
  have hc' := Lib.hid hc
  have hW' := Lib.hid hW
  have hlen' := Lib.hid (show (Lib.join ((L.map T).map (·.data.toList)) [44, 32]).length ≤ 140737488355328 by rw [List.map_map]; exact hlen)
  obtain ⟨n, hnn⟩ : ∃ n, L.length = n := ⟨_, rfl⟩
  rw [hnn] at hn ⊢
  have hL' := Lib.hid hnn
  obtain ⟨i0, hi, hz0, hz1, hz2⟩ := info_parts info9
  have hi' := Lib.hid (And.intro hi (And.intro hz0 (And.intro hz1 hz2)))
  clear hi hz0 hz1 hz2 hc hW hnn h hlen
  go_enter Tryz.func57, Tryz.ntmps57
  go_wp2_with fail
  go_loopg [5, 10] n (fun g s5 s10 wr => ∃ k : Nat, k + g = n ∧ s10 = .int .i64 k ∧ wr.ownsRow W.heap.size 9 1 s5 k (sCells ((L.take k).map T)) ∧ Below W.heap.size W wr)
  case atStart => exact ⟨0, by omega, rfl, ⟨rfl, .inl ⟨rfl, rfl⟩⟩, Below.refl _ _⟩
  case round =>
    obtain ⟨k, hkg, rfl, ho, hbr⟩ := hrel
    have ho' := Lib.hid ho
    have hbr' := Lib.hid hbr
    clear ho hbr
    cases gk with
    | zero =>
      have e0 : ¬ ((k : Int) < (n : Int)) := by omega
      have htk : L.take k = L := List.take_of_length_le (by rw [hL'.out]; omega)
      have ho2 := ho'.out
      rw [htk] at ho2
      have hls : (L.map T).length = k := by rw [List.length_map, hL'.out]; omega
      obtain ⟨hcl, hcase⟩ := ho2
      rcases hcase with ⟨hv, h0⟩ | ⟨gb, cap, cur, hv, hgb, hh, hcap, hm, hs, htt⟩
      · subst hv
        have hnil := Lib.hid (show listT (L.map T) = ⟨#[]⟩ by
          have : L = [] := List.length_eq_zero_iff.1 (by rw [hL'.out]; omega)
          rw [this]
          rfl)
        have hj := Lib.hid (Tryz.strings_Join_none none 0 ⟨#[44, 32]⟩ wr)
        clear hcl htk
        go_wp2_with fail
        refine hj.out.mono ?_
        rintro e w4 ⟨rfl, rfl⟩
        go_wp2
        go_ret
        exact ⟨by rw [hnil.out]; rfl, hbr'.out⟩
      · have hj := (Tryz.strings_Join gb 0 cap (L.map T) ⟨#[44, 32]⟩ wr (fun j x hx => by
          rw [Nat.zero_add, blk_cell hh]
          have h3 : (cur.toList.take (k * 1))[j]? = (sCells (L.map T))[j]? := by rw [htt]
          have hjl : j < k := by have := (List.getElem?_eq_some_iff.1 hx).1; omega
          rw [List.getElem?_take, if_pos (by omega), sCells, List.getElem?_map, hx] at h3
          simpa using h3) (blk_lt hh) (by omega) (by omega) hlen'.out)
        rw [hls] at hj
        subst hv
        have hj2 := Lib.hid (show Calls Tryz.prog 105 #[.slice (some ⟨gb, 0, none⟩) k cap, .string ⟨#[44, 32]⟩] wr fun e w' => e = .returned (.string (listT (L.map T))) ∧ Below wr.heap.size wr w' from hj)
        clear hh htt hs hcl htk hgb hj
        go_wp2_with fail
        refine hj2.out.mono ?_
        rintro e w4 ⟨rfl, hb4⟩
        have hb4' := Lib.hid (Below.next hbr'.out hb4)
        clear hb4
        go_wp2
        go_ret
        exact ⟨rfl, hb4'.out⟩
    | succ g2 =>
      have e0 : (k : Int) < (n : Int) := by omega
      have hbw := Lib.hid (hW'.out.trans (hbr'.out.mono hW'.out.size))
      obtain ⟨blk, off, x, rfl, hx, hcell⟩ := (hs.out).at_ (i := k) (by rw [hL'.out]; omega)
      have v0 : w0.cell? ⟨blk, off + k, none⟩ = some (.string x) := by have := hcell 0 (by omega); rw [Nat.mul_one] at this; exact this
      have v0 := (hbw.out.cell (p := ⟨blk, off + k, none⟩) (cell_some_lt v0)).trans v0
      clear hcell
      have hx' := Lib.hid hx
      have hcl := hc'.out k x hx wr hbw.out
      unfold vlS at hcl
      have hcl := Lib.hid hcl
      have hown0 := ho'
      have hbo := hbr'
      clear hx
      go_wp2_with fail
      refine hcl.out.mono ?_
      rintro e w2 ⟨rfl, hb2⟩
      have hb2' := Lib.hid (Below.next hbo.out hb2)
      generalize hxt : T x = xt
      have hown := Lib.hid (own_keep (W' := w2.alloc (.cells #[.string xt] 9)) hown0.out fun g hg => by
        have h1 := (own_at hown0.out hg).2
        have h2 := hb2.size
        rw [heap_alloc_old _ _ (by omega), hb2.block g h1])
      have hxt' := Lib.hid hxt
      have hnew := Lib.hid (cell_one_at w2 (.string xt) 9)
      have hbA := Lib.hid (hb2'.out.alloc hb2'.out.size (.cells #[.string xt] 9))
      have hone := Lib.hid (show ∀ v ∈ [Value.string xt], v.oneCell' = true by simp [Value.oneCell'])
      have hbs := Lib.hid hbA.out.size
      have hk1 := Lib.hid (show k + 1 ≤ maxLen by unfold maxLen; omega)
      have hk2 := Lib.hid (show (k + 1) * 16 ≤ 140737488355328 by omega)
      obtain ⟨hj1, hj2, hj3, hj4⟩ := hi'.out
      clear hb2 hxt
      go_wp2_with ((at_builtin; refine wpList_append_own_at _ rfl _ _ 47 rfl W.heap.size 9 i0 _ 1 16 und45 hj1 hj2 hj3 hj4 rfl (by decide) u5 k (sCells ((L.take k).map T)) rfl hown.out ⟨w2.heap.size, 0, none⟩ 1 1 [.string xt] rfl rfl hnew.out hone.out hk1.out hk2.out hbs.out ?_; intro v' w4 hown4 hg4 hnil4 hat4))
      have hB4' := Lib.hid (hbA.out.grown hg4 hbs.out (fun g' e => (own_at hown.out e).1))
      have hown4' := Lib.hid hown4
      clear hown4 hg4 hnil4 hat4
      go_wp2
      go_roundg g2
      case measure => omega
      case rel =>
        refine ⟨k + 1, by omega, by go_num, ?_, hB4'.out⟩
        have e5 : (L.take (k + 1)).map T = (L.take k).map T ++ [xt] := by
          rw [List.take_add_one, hx'.out, List.map_append, ← hxt'.out]
          rfl
        rw [e5]
        simpa [sCells] using hown4'.out

set_option maxRecDepth 100000 in
set_option maxHeartbeats 4000000 in
theorem listV_any (g : Nat) (hent : ∀ args w, (callFunc g args).run Tryz.prog w = .ok (.enter g args) w) (T : VarC → ByteArray) (w0 : World) (L : List (VarC)) (A : Option Addr) (h : CellsAt 4 cellsV w0 L A) (c : Nat) (W : World)
    (hW : Below w0.heap.size w0 W) (hn : L.length ≤ 1000000) (hlen : (Lib.join (L.map fun x => (T x).data.toList) [44, 32]).length ≤ 140737488355328)
    (hc : ∀ (i : Nat) (x : VarC) , L[i]? = some x →  ∀ (W' : World), Below w0.heap.size w0 W' → Calls Tryz.prog g #[vlV x] W' (StrPost (T x) W')) :
    Calls Tryz.prog 55 #[.slice A L.length c, .func (.func g) #[] #[]] W (StrPost (listT (L.map T)) W) := by
  have hs := Lib.hid h
  have hc' := Lib.hid hc
  have hW' := Lib.hid hW
  have hlen' := Lib.hid (show (Lib.join ((L.map T).map (·.data.toList)) [44, 32]).length ≤ 140737488355328 by rw [List.map_map]; exact hlen)
  obtain ⟨n, hnn⟩ : ∃ n, L.length = n := ⟨_, rfl⟩
  rw [hnn] at hn ⊢
  have hL' := Lib.hid hnn
  obtain ⟨i0, hi, hz0, hz1, hz2⟩ := info_parts info9
  have hi' := Lib.hid (And.intro hi (And.intro hz0 (And.intro hz1 hz2)))
  clear hi hz0 hz1 hz2 hc hW hnn h hlen
  go_enter Tryz.func55, Tryz.ntmps55
  go_wp2_with fail
  go_loopg [5, 10] n (fun g s5 s10 wr => ∃ k : Nat, k + g = n ∧ s10 = .int .i64 k ∧ wr.ownsRow W.heap.size 9 1 s5 k (sCells ((L.take k).map T)) ∧ Below W.heap.size W wr)
  case atStart => exact ⟨0, by omega, rfl, ⟨rfl, .inl ⟨rfl, rfl⟩⟩, Below.refl _ _⟩
  case round =>
    obtain ⟨k, hkg, rfl, ho, hbr⟩ := hrel
    have ho' := Lib.hid ho
    have hbr' := Lib.hid hbr
    clear ho hbr
    cases gk with
    | zero =>
      have e0 : ¬ ((k : Int) < (n : Int)) := by omega
      have htk : L.take k = L := List.take_of_length_le (by rw [hL'.out]; omega)
      have ho2 := ho'.out
      rw [htk] at ho2
      have hls : (L.map T).length = k := by rw [List.length_map, hL'.out]; omega
      obtain ⟨hcl, hcase⟩ := ho2
      rcases hcase with ⟨hv, h0⟩ | ⟨gb, cap, cur, hv, hgb, hh, hcap, hm, hs, htt⟩
      · subst hv
        have hnil := Lib.hid (show listT (L.map T) = ⟨#[]⟩ by
          have : L = [] := List.length_eq_zero_iff.1 (by rw [hL'.out]; omega)
          rw [this]
          rfl)
        have hj := Lib.hid (Tryz.strings_Join_none none 0 ⟨#[44, 32]⟩ wr)
        clear hcl htk
        go_wp2_with fail
        refine hj.out.mono ?_
        rintro e w4 ⟨rfl, rfl⟩
        go_wp2
        go_ret
        exact ⟨by rw [hnil.out]; rfl, hbr'.out⟩
      · have hj := (Tryz.strings_Join gb 0 cap (L.map T) ⟨#[44, 32]⟩ wr (fun j x hx => by
          rw [Nat.zero_add, blk_cell hh]
          have h3 : (cur.toList.take (k * 1))[j]? = (sCells (L.map T))[j]? := by rw [htt]
          have hjl : j < k := by have := (List.getElem?_eq_some_iff.1 hx).1; omega
          rw [List.getElem?_take, if_pos (by omega), sCells, List.getElem?_map, hx] at h3
          simpa using h3) (blk_lt hh) (by omega) (by omega) hlen'.out)
        rw [hls] at hj
        subst hv
        have hj2 := Lib.hid (show Calls Tryz.prog 105 #[.slice (some ⟨gb, 0, none⟩) k cap, .string ⟨#[44, 32]⟩] wr fun e w' => e = .returned (.string (listT (L.map T))) ∧ Below wr.heap.size wr w' from hj)
        clear hh htt hs hcl htk hgb hj
        go_wp2_with fail
        refine hj2.out.mono ?_
        rintro e w4 ⟨rfl, hb4⟩
        have hb4' := Lib.hid (Below.next hbr'.out hb4)
        clear hb4
        go_wp2
        go_ret
        exact ⟨rfl, hb4'.out⟩
    | succ g2 =>
      have e0 : (k : Int) < (n : Int) := by omega
      have hbw := Lib.hid (hW'.out.trans (hbr'.out.mono hW'.out.size))
      obtain ⟨blk, off, x, rfl, hx, hcell⟩ := (hs.out).at_ (i := k) (by rw [hL'.out]; omega)
      have v0 : w0.cell? ⟨blk, off + k * 4, none⟩ = some (.string x.nm) := by have := hcell 0 (by omega); exact this
      have v0 := (hbw.out.cell (p := ⟨blk, off + k * 4, none⟩) (cell_some_lt v0)).trans v0
      have v1 : w0.cell? ⟨blk, off + k * 4 + 1, none⟩ = some (.int .i64 x.kd) := by have := hcell 1 (by omega); exact this
      have v1 := (hbw.out.cell (p := ⟨blk, off + k * 4 + 1, none⟩) (cell_some_lt v1)).trans v1
      have v2 : w0.cell? ⟨blk, off + k * 4 + 2, none⟩ = some (.int .i64 x.sz) := by have := hcell 2 (by omega); exact this
      have v2 := (hbw.out.cell (p := ⟨blk, off + k * 4 + 2, none⟩) (cell_some_lt v2)).trans v2
      have v3 : w0.cell? ⟨blk, off + k * 4 + 3, none⟩ = some (.bool x.sc) := by have := hcell 3 (by omega); exact this
      have v3 := (hbw.out.cell (p := ⟨blk, off + k * 4 + 3, none⟩) (cell_some_lt v3)).trans v3
      clear hcell
      have hx' := Lib.hid hx
      have hcl := hc'.out k x hx (wr.alloc (.cells #[.string x.nm, .int .i64 x.kd, .int .i64 x.sz, .bool x.sc] 58)) (hbw.out.alloc hbw.out.size _)
      unfold vlV at hcl
      have hcl := Lib.hid hcl
      have hown0 := Lib.hid (own_keep (W' := wr.alloc (.cells #[.string x.nm, .int .i64 x.kd, .int .i64 x.sz, .bool x.sc] 58)) ho'.out fun g hg => heap_alloc_old _ _ (own_at ho'.out hg).2)
      have hbo := Lib.hid (hbr'.out.alloc hbr'.out.size (.cells #[.string x.nm, .int .i64 x.kd, .int .i64 x.sz, .bool x.sc] 58))
      clear hx
      go_wp2_with fail
      refine hcl.out.mono ?_
      rintro e w2 ⟨rfl, hb2⟩
      have hb2' := Lib.hid (Below.next hbo.out hb2)
      generalize hxt : T x = xt
      have hown := Lib.hid (own_keep (W' := w2.alloc (.cells #[.string xt] 9)) hown0.out fun g hg => by
        have h1 := (own_at hown0.out hg).2
        have h2 := hb2.size
        rw [heap_alloc_old _ _ (by omega), hb2.block g h1])
      have hxt' := Lib.hid hxt
      have hnew := Lib.hid (cell_one_at w2 (.string xt) 9)
      have hbA := Lib.hid (hb2'.out.alloc hb2'.out.size (.cells #[.string xt] 9))
      have hone := Lib.hid (show ∀ v ∈ [Value.string xt], v.oneCell' = true by simp [Value.oneCell'])
      have hbs := Lib.hid hbA.out.size
      have hk1 := Lib.hid (show k + 1 ≤ maxLen by unfold maxLen; omega)
      have hk2 := Lib.hid (show (k + 1) * 16 ≤ 140737488355328 by omega)
      obtain ⟨hj1, hj2, hj3, hj4⟩ := hi'.out
      clear hb2 hxt
      go_wp2_with ((at_builtin; refine wpList_append_own_at _ rfl _ _ 47 rfl W.heap.size 9 i0 _ 1 16 und45 hj1 hj2 hj3 hj4 rfl (by decide) u5 k (sCells ((L.take k).map T)) rfl hown.out ⟨w2.heap.size, 0, none⟩ 1 1 [.string xt] rfl rfl hnew.out hone.out hk1.out hk2.out hbs.out ?_; intro v' w4 hown4 hg4 hnil4 hat4))
      have hB4' := Lib.hid (hbA.out.grown hg4 hbs.out (fun g' e => (own_at hown.out e).1))
      have hown4' := Lib.hid hown4
      clear hown4 hg4 hnil4 hat4
      go_wp2
      go_roundg g2
      case measure => omega
      case rel =>
        refine ⟨k + 1, by omega, by go_num, ?_, hB4'.out⟩
        have e5 : (L.take (k + 1)).map T = (L.take k).map T ++ [xt] := by
          rw [List.take_add_one, hx'.out, List.map_append, ← hxt'.out]
          rfl
        rw [e5]
        simpa [sCells] using hown4'.out

/-- a word behind -/
def secT (is : Bool) : List UInt8 := if is then [32, 115, 101, 99, 114, 101, 116] else []
def txA (s : ByteArray) (l : List UInt8) : ByteArray := s ++ ⟨l.toArray⟩
set_option maxRecDepth 100000 in
set_option maxHeartbeats 2000000 in
theorem secret_any (s : ByteArray) (is : Bool) (W : World) (hs : s.size ≤ 1000000000000) : Calls Tryz.prog 53 #[.string s, .bool is] W (StrPost (txA s (secT is)) W) := by
  have e0 : ¬ 9223372036854775807 < s.size + 7 := by omega
  cases is
  · go_enter Tryz.func53, Tryz.ntmps53
    go_wp2
    go_ret
    exact ⟨congrArg (fun t => Ending.returned (.string t)) (show s = txA s (secT false) from (by
      obtain ⟨d⟩ := s
      unfold txA secT
      apply congrArg ByteArray.mk
      apply Array.toList_inj.1
      simp)), Below.refl _ _⟩
  · go_enter Tryz.func53, Tryz.ntmps53
    go_wp2
    go_ret
    exact ⟨rfl, Below.refl _ _⟩
set_option maxRecDepth 100000 in
set_option maxHeartbeats 2000000 in
theorem refSecret_any (is : Bool) (W : World) : Calls Tryz.prog 73 #[.bool is] W (StrPost ⟨(secT is).toArray⟩ W) := by
  cases is
  all_goals
    go_enter Tryz.func73, Tryz.ntmps73
    go_wp2
    go_ret
    exact ⟨rfl, Below.refl _ _⟩
set_option maxRecDepth 100000 in
set_option maxHeartbeats 2000000 in
theorem self_any (s : ByteArray) (W : World) : Calls Tryz.prog 58 #[.string s] W (StrPost s W) := by
  go_enter Tryz.func58, Tryz.ntmps58
  go_wp2
  go_ret
  exact ⟨rfl, Below.refl _ _⟩
set_option maxRecDepth 100000 in
set_option maxHeartbeats 2000000 in
theorem param_any (v : VarC) (W : World) (hv : v.nm.size ≤ 1000000000000) : Calls Tryz.prog 56 #[vlV v] W (StrPost (txA v.nm (secT v.sc)) W) := by
  have hs := Lib.hid (fun W' : World => secret_any v.nm v.sc W' hv)
  obtain ⟨nm, kd, sz, sc⟩ := v
  unfold vlV
  dsimp only at hs ⊢
  clear hv
  obtain ⟨T, hT⟩ : ∃ T, txA nm (secT sc) = T := ⟨_, rfl⟩
  rw [hT] at hs ⊢
  clear hT
  obtain ⟨W1, hW1⟩ : ∃ W1, W.alloc (.cells #[.string nm, .int .i64 kd, .int .i64 sz, .bool sc] 58) = W1 := ⟨_, rfl⟩
  have hb1 := Lib.hid (show Below W.heap.size W W1 by rw [← hW1]; exact (Below.refl _ W).alloc (Nat.le_refl _) _)
  have hX : W1.heap[W.heap.size]? = some (.cells #[.string nm, .int .i64 kd, .int .i64 sz, .bool sc] 58 (0, 0)) := by rw [← hW1]; exact heap_alloc_new _ _
  obtain ⟨p0, p1, p2, p3, _⟩ := box4 hX
  have hW1' := Lib.hid hW1
  clear hX hW1
  go_enter Tryz.func56, Tryz.ntmps56
  go_wp2_with fail
  rw [hW1'.out]
  go_wp2_with fail
  refine (hs.out _).mono ?_
  rintro e w2 ⟨rfl, hb2⟩
  have hb2 := Lib.hid (Below.next hb1.out hb2)
  clear p0 p1 p2 p3
  go_wp2
  go_ret
  exact ⟨rfl, hb2.out⟩
end Go.Proofs.YtnahgfdoiflacaaGreatDoor
namespace Go.Proofs.YtnahgfdoiflacaaGreatDoor
open Go.RowKit Go.Lib Go.Shelf

def callB (x : St) : ByteArray := x.nm ++ ⟨#[40]⟩ ++ listT (x.ars.map txS) ++ ⟨#[41, 59]⟩
/-- a statement's first line -/
def headB (x : St) : ByteArray :=
  if x.kd = 1 then x.nm ++ ⟨#[32, 61, 32]⟩ ++ txS x.e ++ ⟨#[59]⟩
  else if x.kd = 2 then x.nm ++ ⟨#[91]⟩ ++ txS x.a ++ ⟨#[93, 32, 61, 32]⟩ ++ txS x.e ++ ⟨#[59]⟩
  else if x.kd = 3 then (⟨#[105, 102, 32]⟩ : ByteArray) ++ txS x.e ++ ⟨#[32, 123]⟩
  else if x.kd = 4 then (⟨#[119, 104, 105, 108, 101, 32]⟩ : ByteArray) ++ txS x.e ++ ⟨#[32, 123]⟩
  else if x.kd = 5 then (⟨#[102, 111, 114, 32]⟩ : ByteArray) ++ x.nm ++ ⟨#[32]⟩ ++ numT x.lo ++ ⟨#[32]⟩ ++ numT x.hi ++ ⟨#[32, 123]⟩
  else if x.ns.length = 0 then callB x else listT x.ns ++ ⟨#[32, 61, 32]⟩ ++ callB x
theorem mayS_parts {x : St} (h : mayS x = true) : kindOk x.kd = true ∧ (usesE x.kd = true → mayE nameB x.e = true) ∧ (x.kd = 2 → mayE nameB x.a = true) ∧ x.ars.all (mayE nameB) = true := by
  rw [mayS_eq] at h
  unfold mayH at h
  simp only [Bool.and_eq_true, Bool.or_eq_true, Bool.not_eq_true'] at h
  obtain ⟨h1, ⟨_, h2, h3, _, _, h4⟩, _⟩ := h
  refine ⟨h1, fun hu => ?_, fun h2' => ?_, h4⟩
  · rcases h2 with h2 | h2
    · rw [h2] at hu; cases hu
    · exact h2
  · rcases h3 with h3 | h3
    · rw [h2'] at h3; cases h3
    · exact h3
theorem join_len (l : List (List UInt8)) : (Lib.join l [44, 32]).length ≤ (l.map List.length).sum + 2 * l.length := by
  rw [commas_join]
  exact commas_len l
theorem sum_txS : ∀ L : List Ex, ((L.map fun x => (txS x).data.toList).map List.length).sum + 2 * L.length ≤ 24 * cntL L
  | [] => by simp
  | x :: L => by
    have h1 := sum_txS L
    have h2 := txS_size x
    have h3 := size_list (txS x)
    rw [cntL]
    simp only [List.map_cons, List.sum_cons, List.length_cons]
    omega
theorem sum_names : ∀ L : List ByteArray, ((L.map fun x => x.data.toList).map List.length).sum + L.length ≤ cntN L
  | [] => by simp
  | x :: L => by
    have h1 := sum_names L
    have h3 := size_list x
    rw [cntN]
    simp only [List.map_cons, List.sum_cons, List.length_cons]
    omega
theorem listT_size (l : List ByteArray) : (listT l).size = (Lib.join (l.map (·.data.toList)) [44, 32]).length := by
  rw [← size_list]
  rfl

set_option maxRecDepth 100000 in
set_option maxHeartbeats 16000000 in
theorem head1_any (w0 : World) (hE : Env w0) (x : St) (r : StC) (hx : SNow w0 x r) (hk : x.kd = 1) (hm : mayS x = true) (W : World) (hW : Below w0.heap.size w0 W) (hcx : cntS x ≤ 30000) : Calls Tryz.prog 83 #[vlT r] W (StrPost (headB x) W) := by
  have hcx0 := cntS_bd x
  have l1 := len_cntN x.ns
  have l3 := len_cnt x.ars
  obtain ⟨_, hme, hma, hmr⟩ := mayS_parts hm
  have hkr : r.kd = 1 := hx.kd.trans hk
  obtain ⟨kd, nm, ⟨nA, nn, nc⟩, ⟨eo, eu, en, ⟨eA, ek, ec⟩⟩, ⟨ao, au, an, ⟨aA, ak, ac⟩⟩, ⟨gA, gn, gc⟩, lo, hi, ⟨bA, bn, bc⟩, ⟨lA, ln, lc⟩⟩ := r
  obtain ⟨kx, mx, nx, nxA, ⟨ex1, ex2, ex3, ex4, exA, exu⟩, ⟨ax1, ax2, ax3, ax4, axA, axu⟩, gx, gxA, lx, hx', lh, hh, bx, elx⟩ := hx
  dsimp only at kx mx nx nxA ex1 ex2 ex3 ex4 exA ax1 ax2 ax3 ax4 axA gx gxA lx hx' bx elx hkr
  rw [show headB x = (nm ++ ⟨#[32, 61, 32]⟩ ++ txS x.e ++ ⟨#[59]⟩) by
    unfold headB
    simp only [hk, ← mx, ← lx, ← hx', ← nx]
    simp]
  have hme := hme (by rw [hk]; rfl)
  have s1 := txS_size x.e
  have h44e : ∀ (W' : World), Below w0.heap.size w0 W' → Calls Tryz.prog 44 #[.agg #[.int .i64 eo, .int .u64 eu, .string en, .slice eA ek ec]] W' (StrPost (txS x.e) W') := fun W' hW' => by
    rw [ex1, ex2, ex3, ex4]
    exact expr_any w0 hE x.e eA exA (by omega) hme exu ec W' hW' 
  rw [← mx] at hcx0
  have hz : nm.size + 3 + (txS x.e).size + 1 ≤ 1000000 := by omega
  clear s1
  generalize txS x.e = S at h44e hz ⊢
  subst hkr
  unfold vlT
  dsimp only
  obtain ⟨W1, hW1⟩ : ∃ W1, W.alloc (.cells #[.int .i64 1, .string nm, .slice nA nn nc, .int .i64 eo, .int .u64 eu, .string en, .slice eA ek ec, .int .i64 ao, .int .u64 au, .string an, .slice aA ak ac, .slice gA gn gc, .int .u64 lo, .int .u64 hi, .slice bA bn bc, .slice lA ln lc] 50) = W1 := ⟨_, rfl⟩
  have hb1 : Below W.heap.size W W1 := by rw [← hW1]; exact (Below.refl _ W).alloc (Nat.le_refl _) _
  have hX : W1.heap[W.heap.size]? = some (.cells #[.int .i64 1, .string nm, .slice nA nn nc, .int .i64 eo, .int .u64 eu, .string en, .slice eA ek ec, .int .i64 ao, .int .u64 au, .string an, .slice aA ak ac, .slice gA gn gc, .int .u64 lo, .int .u64 hi, .slice bA bn bc, .slice lA ln lc] 50 (0, 0)) := by rw [← hW1]; exact heap_alloc_new _ _
  have up : ∀ W', Below W1.heap.size W1 W' → Below w0.heap.size w0 W' := fun W' h => hW.trans ((Below.next hb1 h).mono hW.size)
  have h44e := Lib.hid fun W' (h : Below W1.heap.size W1 W') => h44e W' (up W' h)
  obtain ⟨p0, p1, p2, p3, p4, p5, p6, p7, p8, p9, p10, p11, p12, p13, p14, p15⟩ := box16 hX
  have hX := Lib.hid hX
  have hb1 := Lib.hid hb1
  have hW1' := Lib.hid hW1
  clear up hW hW1 hcx hcx0 l1 l3 hme hma hmr hm hk kx mx nx nxA ex1 ex2 ex3 ex4 exA exu ax1 ax2 ax3 ax4 axA axu gx gxA lx hx' lh hh bx elx
  have c1 := Sub.cell p1
  have c3 := Sub.cell p3
  have c4 := Sub.cell p4
  have c5 := Sub.cell p5
  have c6 := Sub.cell p6
  have sh44e := Lib.hid (fun s : Sub W1 => h44e.out s.val s.property)
  go_enter Tryz.func83, Tryz.ntmps83
  go_wp2_with fail
  rw [hW1'.out]
  go_wp2_with fail
  refine wp_region_below (by kernel_rfl) (by kernel_rfl) ?_
  repeat (go_big_quiet_step ((first | (go_at_call 44; with_reducible exact Sub.call (sh44e.out _)))))
  refine wpQuiet_nil ?_
  rintro w4 ⟨z4, hz4⟩
  have hb4 := hz4 ▸ z4.property
  have hfin := Lib.hid (Below.next hb1.out hb4)
  clear hz4 hb4 p0 p1 p2 p3 p4 p5 p6 p7 p8 p9 p10 p11 p12 p13 p14 p15 c1 c3 c4 c5 c6
  go_wp2
  go_ret
  exact ⟨rfl, hfin.out⟩

set_option maxRecDepth 100000 in
set_option maxHeartbeats 16000000 in
theorem head2_any (w0 : World) (hE : Env w0) (x : St) (r : StC) (hx : SNow w0 x r) (hk : x.kd = 2) (hm : mayS x = true) (W : World) (hW : Below w0.heap.size w0 W) (hcx : cntS x ≤ 30000) : Calls Tryz.prog 83 #[vlT r] W (StrPost (headB x) W) := by
  have hcx0 := cntS_bd x
  have l1 := len_cntN x.ns
  have l3 := len_cnt x.ars
  obtain ⟨_, hme, hma, hmr⟩ := mayS_parts hm
  have hkr : r.kd = 2 := hx.kd.trans hk
  obtain ⟨kd, nm, ⟨nA, nn, nc⟩, ⟨eo, eu, en, ⟨eA, ek, ec⟩⟩, ⟨ao, au, an, ⟨aA, ak, ac⟩⟩, ⟨gA, gn, gc⟩, lo, hi, ⟨bA, bn, bc⟩, ⟨lA, ln, lc⟩⟩ := r
  obtain ⟨kx, mx, nx, nxA, ⟨ex1, ex2, ex3, ex4, exA, exu⟩, ⟨ax1, ax2, ax3, ax4, axA, axu⟩, gx, gxA, lx, hx', lh, hh, bx, elx⟩ := hx
  dsimp only at kx mx nx nxA ex1 ex2 ex3 ex4 exA ax1 ax2 ax3 ax4 axA gx gxA lx hx' bx elx hkr
  rw [show headB x = (nm ++ ⟨#[91]⟩ ++ txS x.a ++ ⟨#[93, 32, 61, 32]⟩ ++ txS x.e ++ ⟨#[59]⟩) by
    unfold headB
    simp only [hk, ← mx, ← lx, ← hx', ← nx]
    simp]
  have hme := hme (by rw [hk]; rfl)
  have s1 := txS_size x.e
  have h44e : ∀ (W' : World), Below w0.heap.size w0 W' → Calls Tryz.prog 44 #[.agg #[.int .i64 eo, .int .u64 eu, .string en, .slice eA ek ec]] W' (StrPost (txS x.e) W') := fun W' hW' => by
    rw [ex1, ex2, ex3, ex4]
    exact expr_any w0 hE x.e eA exA (by omega) hme exu ec W' hW' 
  have hma := hma hk
  have s2 := txS_size x.a
  have h44a : ∀ (W' : World), Below w0.heap.size w0 W' → Calls Tryz.prog 44 #[.agg #[.int .i64 ao, .int .u64 au, .string an, .slice aA ak ac]] W' (StrPost (txS x.a) W') := fun W' hW' => by
    rw [ax1, ax2, ax3, ax4]
    exact expr_any w0 hE x.a aA axA (by omega) hma axu ac W' hW' 
  rw [← mx] at hcx0
  have hz : nm.size + 1 + (txS x.a).size + 4 + (txS x.e).size + 1 ≤ 1000000 := by omega
  clear s1 s2
  generalize txS x.e = S at h44e hz ⊢
  generalize txS x.a = R at h44a hz ⊢
  subst hkr
  unfold vlT
  dsimp only
  obtain ⟨W1, hW1⟩ : ∃ W1, W.alloc (.cells #[.int .i64 2, .string nm, .slice nA nn nc, .int .i64 eo, .int .u64 eu, .string en, .slice eA ek ec, .int .i64 ao, .int .u64 au, .string an, .slice aA ak ac, .slice gA gn gc, .int .u64 lo, .int .u64 hi, .slice bA bn bc, .slice lA ln lc] 50) = W1 := ⟨_, rfl⟩
  have hb1 : Below W.heap.size W W1 := by rw [← hW1]; exact (Below.refl _ W).alloc (Nat.le_refl _) _
  have hX : W1.heap[W.heap.size]? = some (.cells #[.int .i64 2, .string nm, .slice nA nn nc, .int .i64 eo, .int .u64 eu, .string en, .slice eA ek ec, .int .i64 ao, .int .u64 au, .string an, .slice aA ak ac, .slice gA gn gc, .int .u64 lo, .int .u64 hi, .slice bA bn bc, .slice lA ln lc] 50 (0, 0)) := by rw [← hW1]; exact heap_alloc_new _ _
  have up : ∀ W', Below W1.heap.size W1 W' → Below w0.heap.size w0 W' := fun W' h => hW.trans ((Below.next hb1 h).mono hW.size)
  have h44e := Lib.hid fun W' (h : Below W1.heap.size W1 W') => h44e W' (up W' h)
  have h44a := Lib.hid fun W' (h : Below W1.heap.size W1 W') => h44a W' (up W' h)
  obtain ⟨p0, p1, p2, p3, p4, p5, p6, p7, p8, p9, p10, p11, p12, p13, p14, p15⟩ := box16 hX
  have hX := Lib.hid hX
  have hb1 := Lib.hid hb1
  have hW1' := Lib.hid hW1
  clear up hW hW1 hcx hcx0 l1 l3 hme hma hmr hm hk kx mx nx nxA ex1 ex2 ex3 ex4 exA exu ax1 ax2 ax3 ax4 axA axu gx gxA lx hx' lh hh bx elx
  have c1 := Sub.cell p1
  have c3 := Sub.cell p3
  have c4 := Sub.cell p4
  have c5 := Sub.cell p5
  have c6 := Sub.cell p6
  have c7 := Sub.cell p7
  have c8 := Sub.cell p8
  have c9 := Sub.cell p9
  have c10 := Sub.cell p10
  have sh44e := Lib.hid (fun s : Sub W1 => h44e.out s.val s.property)
  have sh44a := Lib.hid (fun s : Sub W1 => h44a.out s.val s.property)
  go_enter Tryz.func83, Tryz.ntmps83
  go_wp2_with fail
  rw [hW1'.out]
  go_wp2_with fail
  refine wp_region_below (by kernel_rfl) (by kernel_rfl) ?_
  repeat (go_big_quiet_step ((first | (go_at_call 44; with_reducible exact Sub.call (sh44e.out _)) | (go_at_call 44; with_reducible exact Sub.call (sh44a.out _)))))
  refine wpQuiet_nil ?_
  rintro w4 ⟨z4, hz4⟩
  have hb4 := hz4 ▸ z4.property
  have hfin := Lib.hid (Below.next hb1.out hb4)
  clear hz4 hb4 p0 p1 p2 p3 p4 p5 p6 p7 p8 p9 p10 p11 p12 p13 p14 p15 c1 c3 c4 c5 c6 c7 c8 c9 c10
  go_wp2
  go_ret
  exact ⟨rfl, hfin.out⟩

set_option maxRecDepth 100000 in
set_option maxHeartbeats 16000000 in
theorem head3_any (w0 : World) (hE : Env w0) (x : St) (r : StC) (hx : SNow w0 x r) (hk : x.kd = 3) (hm : mayS x = true) (W : World) (hW : Below w0.heap.size w0 W) (hcx : cntS x ≤ 30000) : Calls Tryz.prog 83 #[vlT r] W (StrPost (headB x) W) := by
  have hcx0 := cntS_bd x
  have l1 := len_cntN x.ns
  have l3 := len_cnt x.ars
  obtain ⟨_, hme, hma, hmr⟩ := mayS_parts hm
  have hkr : r.kd = 3 := hx.kd.trans hk
  obtain ⟨kd, nm, ⟨nA, nn, nc⟩, ⟨eo, eu, en, ⟨eA, ek, ec⟩⟩, ⟨ao, au, an, ⟨aA, ak, ac⟩⟩, ⟨gA, gn, gc⟩, lo, hi, ⟨bA, bn, bc⟩, ⟨lA, ln, lc⟩⟩ := r
  obtain ⟨kx, mx, nx, nxA, ⟨ex1, ex2, ex3, ex4, exA, exu⟩, ⟨ax1, ax2, ax3, ax4, axA, axu⟩, gx, gxA, lx, hx', lh, hh, bx, elx⟩ := hx
  dsimp only at kx mx nx nxA ex1 ex2 ex3 ex4 exA ax1 ax2 ax3 ax4 axA gx gxA lx hx' bx elx hkr
  rw [show headB x = ((⟨#[105, 102, 32]⟩ : ByteArray) ++ txS x.e ++ ⟨#[32, 123]⟩) by
    unfold headB
    simp only [hk, ← mx, ← lx, ← hx', ← nx]
    simp]
  have hme := hme (by rw [hk]; rfl)
  have s1 := txS_size x.e
  have h44e : ∀ (W' : World), Below w0.heap.size w0 W' → Calls Tryz.prog 44 #[.agg #[.int .i64 eo, .int .u64 eu, .string en, .slice eA ek ec]] W' (StrPost (txS x.e) W') := fun W' hW' => by
    rw [ex1, ex2, ex3, ex4]
    exact expr_any w0 hE x.e eA exA (by omega) hme exu ec W' hW' 
  rw [← mx] at hcx0
  have hz : 3 + (txS x.e).size + 2 ≤ 1000000 := by omega
  clear s1
  generalize txS x.e = S at h44e hz ⊢
  subst hkr
  unfold vlT
  dsimp only
  obtain ⟨W1, hW1⟩ : ∃ W1, W.alloc (.cells #[.int .i64 3, .string nm, .slice nA nn nc, .int .i64 eo, .int .u64 eu, .string en, .slice eA ek ec, .int .i64 ao, .int .u64 au, .string an, .slice aA ak ac, .slice gA gn gc, .int .u64 lo, .int .u64 hi, .slice bA bn bc, .slice lA ln lc] 50) = W1 := ⟨_, rfl⟩
  have hb1 : Below W.heap.size W W1 := by rw [← hW1]; exact (Below.refl _ W).alloc (Nat.le_refl _) _
  have hX : W1.heap[W.heap.size]? = some (.cells #[.int .i64 3, .string nm, .slice nA nn nc, .int .i64 eo, .int .u64 eu, .string en, .slice eA ek ec, .int .i64 ao, .int .u64 au, .string an, .slice aA ak ac, .slice gA gn gc, .int .u64 lo, .int .u64 hi, .slice bA bn bc, .slice lA ln lc] 50 (0, 0)) := by rw [← hW1]; exact heap_alloc_new _ _
  have up : ∀ W', Below W1.heap.size W1 W' → Below w0.heap.size w0 W' := fun W' h => hW.trans ((Below.next hb1 h).mono hW.size)
  have h44e := Lib.hid fun W' (h : Below W1.heap.size W1 W') => h44e W' (up W' h)
  obtain ⟨p0, p1, p2, p3, p4, p5, p6, p7, p8, p9, p10, p11, p12, p13, p14, p15⟩ := box16 hX
  have hX := Lib.hid hX
  have hb1 := Lib.hid hb1
  have hW1' := Lib.hid hW1
  clear up hW hW1 hcx hcx0 l1 l3 hme hma hmr hm hk kx mx nx nxA ex1 ex2 ex3 ex4 exA exu ax1 ax2 ax3 ax4 axA axu gx gxA lx hx' lh hh bx elx
  go_enter Tryz.func83, Tryz.ntmps83
  go_wp2_with fail
  rw [hW1'.out]
  go_wp2_with fail
  refine (h44e.out _ (Below.refl _ _)).mono ?_
  rintro e w2 ⟨rfl, hb2⟩
  have hb2 := Lib.hid (Below.next hb1.out hb2)
  clear p0 p1 p2 p3 p4 p5 p6 p7 p8 p9 p10 p11 p12 p13 p14 p15
  go_wp2
  go_ret
  exact ⟨rfl, hb2.out⟩

set_option maxRecDepth 100000 in
set_option maxHeartbeats 16000000 in
theorem head4_any (w0 : World) (hE : Env w0) (x : St) (r : StC) (hx : SNow w0 x r) (hk : x.kd = 4) (hm : mayS x = true) (W : World) (hW : Below w0.heap.size w0 W) (hcx : cntS x ≤ 30000) : Calls Tryz.prog 83 #[vlT r] W (StrPost (headB x) W) := by
  have hcx0 := cntS_bd x
  have l1 := len_cntN x.ns
  have l3 := len_cnt x.ars
  obtain ⟨_, hme, hma, hmr⟩ := mayS_parts hm
  have hkr : r.kd = 4 := hx.kd.trans hk
  obtain ⟨kd, nm, ⟨nA, nn, nc⟩, ⟨eo, eu, en, ⟨eA, ek, ec⟩⟩, ⟨ao, au, an, ⟨aA, ak, ac⟩⟩, ⟨gA, gn, gc⟩, lo, hi, ⟨bA, bn, bc⟩, ⟨lA, ln, lc⟩⟩ := r
  obtain ⟨kx, mx, nx, nxA, ⟨ex1, ex2, ex3, ex4, exA, exu⟩, ⟨ax1, ax2, ax3, ax4, axA, axu⟩, gx, gxA, lx, hx', lh, hh, bx, elx⟩ := hx
  dsimp only at kx mx nx nxA ex1 ex2 ex3 ex4 exA ax1 ax2 ax3 ax4 axA gx gxA lx hx' bx elx hkr
  rw [show headB x = ((⟨#[119, 104, 105, 108, 101, 32]⟩ : ByteArray) ++ txS x.e ++ ⟨#[32, 123]⟩) by
    unfold headB
    simp only [hk, ← mx, ← lx, ← hx', ← nx]
    simp]
  have hme := hme (by rw [hk]; rfl)
  have s1 := txS_size x.e
  have h44e : ∀ (W' : World), Below w0.heap.size w0 W' → Calls Tryz.prog 44 #[.agg #[.int .i64 eo, .int .u64 eu, .string en, .slice eA ek ec]] W' (StrPost (txS x.e) W') := fun W' hW' => by
    rw [ex1, ex2, ex3, ex4]
    exact expr_any w0 hE x.e eA exA (by omega) hme exu ec W' hW' 
  rw [← mx] at hcx0
  have hz : 6 + (txS x.e).size + 2 ≤ 1000000 := by omega
  clear s1
  generalize txS x.e = S at h44e hz ⊢
  subst hkr
  unfold vlT
  dsimp only
  obtain ⟨W1, hW1⟩ : ∃ W1, W.alloc (.cells #[.int .i64 4, .string nm, .slice nA nn nc, .int .i64 eo, .int .u64 eu, .string en, .slice eA ek ec, .int .i64 ao, .int .u64 au, .string an, .slice aA ak ac, .slice gA gn gc, .int .u64 lo, .int .u64 hi, .slice bA bn bc, .slice lA ln lc] 50) = W1 := ⟨_, rfl⟩
  have hb1 : Below W.heap.size W W1 := by rw [← hW1]; exact (Below.refl _ W).alloc (Nat.le_refl _) _
  have hX : W1.heap[W.heap.size]? = some (.cells #[.int .i64 4, .string nm, .slice nA nn nc, .int .i64 eo, .int .u64 eu, .string en, .slice eA ek ec, .int .i64 ao, .int .u64 au, .string an, .slice aA ak ac, .slice gA gn gc, .int .u64 lo, .int .u64 hi, .slice bA bn bc, .slice lA ln lc] 50 (0, 0)) := by rw [← hW1]; exact heap_alloc_new _ _
  have up : ∀ W', Below W1.heap.size W1 W' → Below w0.heap.size w0 W' := fun W' h => hW.trans ((Below.next hb1 h).mono hW.size)
  have h44e := Lib.hid fun W' (h : Below W1.heap.size W1 W') => h44e W' (up W' h)
  obtain ⟨p0, p1, p2, p3, p4, p5, p6, p7, p8, p9, p10, p11, p12, p13, p14, p15⟩ := box16 hX
  have hX := Lib.hid hX
  have hb1 := Lib.hid hb1
  have hW1' := Lib.hid hW1
  clear up hW hW1 hcx hcx0 l1 l3 hme hma hmr hm hk kx mx nx nxA ex1 ex2 ex3 ex4 exA exu ax1 ax2 ax3 ax4 axA axu gx gxA lx hx' lh hh bx elx
  go_enter Tryz.func83, Tryz.ntmps83
  go_wp2_with fail
  rw [hW1'.out]
  go_wp2_with fail
  refine (h44e.out _ (Below.refl _ _)).mono ?_
  rintro e w2 ⟨rfl, hb2⟩
  have hb2 := Lib.hid (Below.next hb1.out hb2)
  clear p0 p1 p2 p3 p4 p5 p6 p7 p8 p9 p10 p11 p12 p13 p14 p15
  go_wp2
  go_ret
  exact ⟨rfl, hb2.out⟩

set_option maxRecDepth 100000 in
set_option maxHeartbeats 16000000 in
theorem head5_any (w0 : World) (hE : Env w0) (x : St) (r : StC) (hx : SNow w0 x r) (hk : x.kd = 5) (hm : mayS x = true) (W : World) (hW : Below w0.heap.size w0 W) (hcx : cntS x ≤ 30000) : Calls Tryz.prog 83 #[vlT r] W (StrPost (headB x) W) := by
  have hcx0 := cntS_bd x
  have l1 := len_cntN x.ns
  have l3 := len_cnt x.ars
  obtain ⟨_, hme, hma, hmr⟩ := mayS_parts hm
  have hkr : r.kd = 5 := hx.kd.trans hk
  obtain ⟨kd, nm, ⟨nA, nn, nc⟩, ⟨eo, eu, en, ⟨eA, ek, ec⟩⟩, ⟨ao, au, an, ⟨aA, ak, ac⟩⟩, ⟨gA, gn, gc⟩, lo, hi, ⟨bA, bn, bc⟩, ⟨lA, ln, lc⟩⟩ := r
  obtain ⟨kx, mx, nx, nxA, ⟨ex1, ex2, ex3, ex4, exA, exu⟩, ⟨ax1, ax2, ax3, ax4, axA, axu⟩, gx, gxA, lx, hx', lh, hh, bx, elx⟩ := hx
  dsimp only at kx mx nx nxA ex1 ex2 ex3 ex4 exA ax1 ax2 ax3 ax4 axA gx gxA lx hx' bx elx hkr
  rw [show headB x = ((⟨#[102, 111, 114, 32]⟩ : ByteArray) ++ nm ++ ⟨#[32]⟩ ++ numT lo ++ ⟨#[32]⟩ ++ numT hi ++ ⟨#[32, 123]⟩) by
    unfold headB
    simp only [hk, ← mx, ← lx, ← hx', ← nx]
    simp]
  have s3 := numT_len lo (by omega)
  have s4 := numT_len hi (by omega)
  rw [size_list] at s3 s4
  have h47 : ∀ (u : Nat) (W' : World), u < 18446744073709551616 → Below w0.heap.size w0 W' → Calls Tryz.prog 47 #[.int .u64 u, .int .i64 10] W' (StrPost (numT u) W') := fun u W' hu hW' => fmtU u hu W' (hE.below hW').tab
  rw [← mx] at hcx0
  have hz : 4 + nm.size + 1 + (numT lo).size + 1 + (numT hi).size + 2 ≤ 1000000 := by omega
  subst hkr
  unfold vlT
  dsimp only
  obtain ⟨W1, hW1⟩ : ∃ W1, W.alloc (.cells #[.int .i64 5, .string nm, .slice nA nn nc, .int .i64 eo, .int .u64 eu, .string en, .slice eA ek ec, .int .i64 ao, .int .u64 au, .string an, .slice aA ak ac, .slice gA gn gc, .int .u64 lo, .int .u64 hi, .slice bA bn bc, .slice lA ln lc] 50) = W1 := ⟨_, rfl⟩
  have hb1 : Below W.heap.size W W1 := by rw [← hW1]; exact (Below.refl _ W).alloc (Nat.le_refl _) _
  have hX : W1.heap[W.heap.size]? = some (.cells #[.int .i64 5, .string nm, .slice nA nn nc, .int .i64 eo, .int .u64 eu, .string en, .slice eA ek ec, .int .i64 ao, .int .u64 au, .string an, .slice aA ak ac, .slice gA gn gc, .int .u64 lo, .int .u64 hi, .slice bA bn bc, .slice lA ln lc] 50 (0, 0)) := by rw [← hW1]; exact heap_alloc_new _ _
  have up : ∀ W', Below W1.heap.size W1 W' → Below w0.heap.size w0 W' := fun W' h => hW.trans ((Below.next hb1 h).mono hW.size)
  have h47a := Lib.hid fun W' (h : Below W1.heap.size W1 W') => h47 lo W' (by omega) (up W' h)
  have h47b := Lib.hid fun W' (h : Below W1.heap.size W1 W') => h47 hi W' (by omega) (up W' h)
  clear h47
  obtain ⟨p0, p1, p2, p3, p4, p5, p6, p7, p8, p9, p10, p11, p12, p13, p14, p15⟩ := box16 hX
  have hX := Lib.hid hX
  have hb1 := Lib.hid hb1
  have hW1' := Lib.hid hW1
  clear up hW hW1 hcx hcx0 l1 l3 hme hma hmr hm hk kx mx nx nxA ex1 ex2 ex3 ex4 exA exu ax1 ax2 ax3 ax4 axA axu gx gxA lx hx' lh hh bx elx
  have c1 := Sub.cell p1
  have c3 := Sub.cell p3
  have c4 := Sub.cell p4
  have c5 := Sub.cell p5
  have c6 := Sub.cell p6
  have c12 := Sub.cell p12
  have c13 := Sub.cell p13
  have sh47a := Lib.hid (fun s : Sub W1 => h47a.out s.val s.property)
  have sh47b := Lib.hid (fun s : Sub W1 => h47b.out s.val s.property)
  go_enter Tryz.func83, Tryz.ntmps83
  go_wp2_with fail
  rw [hW1'.out]
  go_wp2_with fail
  refine wp_region_below (by kernel_rfl) (by kernel_rfl) ?_
  repeat (go_big_quiet_step ((first | (go_at_call 47; with_reducible exact Sub.call (sh47a.out _)) | (go_at_call 47; with_reducible exact Sub.call (sh47b.out _)))))
  refine wpQuiet_nil ?_
  rintro w4 ⟨z4, hz4⟩
  have hb4 := hz4 ▸ z4.property
  have hfin := Lib.hid (Below.next hb1.out hb4)
  clear hz4 hb4 p0 p1 p2 p3 p4 p5 p6 p7 p8 p9 p10 p11 p12 p13 p14 p15 c1 c3 c4 c5 c6 c12 c13
  go_wp2
  go_ret
  exact ⟨rfl, hfin.out⟩

set_option maxRecDepth 100000 in
set_option maxHeartbeats 16000000 in
theorem head6_any (w0 : World) (hE : Env w0) (x : St) (r : StC) (hx : SNow w0 x r) (hk : x.kd = 6) (hm : mayS x = true) (W : World) (hW : Below w0.heap.size w0 W) (hcx : cntS x ≤ 30000) : Calls Tryz.prog 83 #[vlT r] W (StrPost (headB x) W) := by
  have hcx0 := cntS_bd x
  have l1 := len_cntN x.ns
  have l3 := len_cnt x.ars
  obtain ⟨_, hme, hma, hmr⟩ := mayS_parts hm
  have hkr : r.kd = 6 := hx.kd.trans hk
  obtain ⟨kd, nm, ⟨nA, nn, nc⟩, ⟨eo, eu, en, ⟨eA, ek, ec⟩⟩, ⟨ao, au, an, ⟨aA, ak, ac⟩⟩, ⟨gA, gn, gc⟩, lo, hi, ⟨bA, bn, bc⟩, ⟨lA, ln, lc⟩⟩ := r
  obtain ⟨kx, mx, nx, nxA, ⟨ex1, ex2, ex3, ex4, exA, exu⟩, ⟨ax1, ax2, ax3, ax4, axA, axu⟩, gx, gxA, lx, hx', lh, hh, bx, elx⟩ := hx
  dsimp only at kx mx nx nxA ex1 ex2 ex3 ex4 exA ax1 ax2 ax3 ax4 axA gx gxA lx hx' bx elx hkr
  rw [show headB x = (if nn = 0 then nm ++ ⟨#[40]⟩ ++ listT (x.ars.map txS) ++ ⟨#[41, 59]⟩ else listT x.ns ++ ⟨#[32, 61, 32]⟩ ++ (nm ++ ⟨#[40]⟩ ++ listT (x.ars.map txS) ++ ⟨#[41, 59]⟩)) by
    unfold headB callB
    simp only [hk, ← mx, ← lx, ← hx', ← nx]
    simp]
  have s5 := join_len (x.ars.map fun x => (txS x).data.toList)
  have s6 := sum_txS x.ars
  have s7 := join_len (x.ns.map fun x => x.data.toList)
  have s8 := sum_names x.ns
  rw [List.length_map] at s5 s7
  have t5 : (listT (x.ars.map txS)).size = (Lib.join (x.ars.map fun x => (txS x).data.toList) [44, 32]).length := by rw [listT_size, List.map_map]; rfl
  have t7 : (listT x.ns).size = (Lib.join (x.ns.map fun x => x.data.toList) [44, 32]).length := listT_size x.ns
  rw [← t5] at s5
  rw [← t7] at s7
  have h96 : ∀ (W' : World), Below w0.heap.size w0 W' → Calls Tryz.prog 96 #[.slice gA gn gc, .func (.func 44) #[] #[]] W' (StrPost (listT (x.ars.map txS)) W') := fun W' hW' => by
    rw [gx]
    exact listE_any 44 (enters_of Tryz.func44 (by kernel_rfl) rfl) txS w0 x.ars gA gxA gc W' hW' (by omega) (by rw [← t5]; omega) (fun i y B hy hye C W2 hW2 => expr_any w0 hE y B hye (by have := cnt_mem hy; omega) (by rw [List.all_eq_true] at hmr; exact hmr y (List.mem_of_getElem? hy)) (gxA.u_lt hy) C W2 hW2)
  have h57 : ∀ (W' : World), Below w0.heap.size w0 W' → Calls Tryz.prog 57 #[.slice nA nn nc, .func (.func 58) #[] #[]] W' (StrPost (listT x.ns) W') := fun W' hW' => by
    have h := listS_any 58 (enters_of Tryz.func58 (by kernel_rfl) rfl) id w0 x.ns nA nxA nc W' hW' (by omega) (by show (Lib.join (x.ns.map fun x => x.data.toList) [44, 32]).length ≤ _; rw [← t7]; omega) (fun i s hs W2 _ => self_any s W2)
    rw [List.map_id] at h
    rw [nx]
    exact h
  rw [← mx] at hcx0
  have hz : (listT x.ns).size + 3 + (nm.size + 1 + (listT (x.ars.map txS)).size + 2) ≤ 1000000 := by omega
  clear s5 s6 s7 s8 t5 t7
  generalize listT (x.ars.map txS) = S at h96 hz ⊢
  generalize listT x.ns = R at h57 hz ⊢
  obtain ⟨T, hT⟩ : ∃ T, (if nn = 0 then nm ++ ⟨#[40]⟩ ++ S ++ ⟨#[41, 59]⟩ else R ++ ⟨#[32, 61, 32]⟩ ++ (nm ++ ⟨#[40]⟩ ++ S ++ ⟨#[41, 59]⟩)) = T := ⟨_, rfl⟩
  rw [hT]
  have hT := Lib.hid hT
  subst hkr
  unfold vlT
  dsimp only
  obtain ⟨W1, hW1⟩ : ∃ W1, W.alloc (.cells #[.int .i64 6, .string nm, .slice nA nn nc, .int .i64 eo, .int .u64 eu, .string en, .slice eA ek ec, .int .i64 ao, .int .u64 au, .string an, .slice aA ak ac, .slice gA gn gc, .int .u64 lo, .int .u64 hi, .slice bA bn bc, .slice lA ln lc] 50) = W1 := ⟨_, rfl⟩
  have hb1 : Below W.heap.size W W1 := by rw [← hW1]; exact (Below.refl _ W).alloc (Nat.le_refl _) _
  have hX : W1.heap[W.heap.size]? = some (.cells #[.int .i64 6, .string nm, .slice nA nn nc, .int .i64 eo, .int .u64 eu, .string en, .slice eA ek ec, .int .i64 ao, .int .u64 au, .string an, .slice aA ak ac, .slice gA gn gc, .int .u64 lo, .int .u64 hi, .slice bA bn bc, .slice lA ln lc] 50 (0, 0)) := by rw [← hW1]; exact heap_alloc_new _ _
  have up : ∀ W', Below W1.heap.size W1 W' → Below w0.heap.size w0 W' := fun W' h => hW.trans ((Below.next hb1 h).mono hW.size)
  have h96 := Lib.hid fun W' (h : Below W1.heap.size W1 W') => h96 W' (up W' h)
  have h57 := Lib.hid fun W' (h : Below W1.heap.size W1 W') => h57 W' (up W' h)
  obtain ⟨p0, p1, p2, p3, p4, p5, p6, p7, p8, p9, p10, p11, p12, p13, p14, p15⟩ := box16 hX
  have hX := Lib.hid hX
  have hb1 := Lib.hid hb1
  have hW1' := Lib.hid hW1
  clear up hW hW1 hcx hcx0 l1 l3 hme hma hmr hm hk kx mx nx nxA ex1 ex2 ex3 ex4 exA exu ax1 ax2 ax3 ax4 axA axu gx gxA lx hx' lh hh bx elx
  have c1 := Sub.cell p1
  have c11 := Sub.cell p11
  have sh96 := Lib.hid (fun s : Sub W1 => h96.out s.val s.property)
  go_enter Tryz.func83, Tryz.ntmps83
  go_wp2_with fail
  rw [hW1'.out]
  go_wp2_with fail
  refine wp_region_below (by kernel_rfl) (by kernel_rfl) ?_
  repeat (go_big_quiet_step ((go_at_call 96; with_reducible exact Sub.call (sh96.out _))))
  refine wpQuiet_nil ?_
  rintro w4 ⟨z4, hz4⟩
  have hb4 := hz4 ▸ z4.property
  have hb4 := Lib.hid hb4
  clear hz4 p0 p1 p2 p3 p4 p5 p6 p7 p8 p9 p10 p11 p12 p13 p14 p15 c1 c11
  obtain ⟨p0, p1, p2, p3, p4, p5, p6, p7, p8, p9, p10, p11, p12, p13, p14, p15⟩ := box16 ((hb4.out.block _ (blk_lt hX.out)).trans hX.out)
  by_cases hn0 : nn = 0
  · have e0 : ¬ (0 : Int) < (nn : Int) := by omega
    have hn1 := Lib.hid hn0
    clear hn0
    go_wp2
    go_ret
    exact ⟨by rw [← hT.out, if_pos hn1.out]; rfl, Below.next hb1.out hb4.out⟩
  · have e0 : (0 : Int) < (nn : Int) := by omega
    have hn1 := Lib.hid hn0
    clear hn0
    go_wp2_with fail
    refine (h57.out _ hb4.out).mono ?_
    rintro e w5 ⟨rfl, hb5⟩
    have hb5 := Lib.hid (Below.next hb4.out hb5)
    clear p0 p1 p2 p3 p4 p5 p6 p7 p8 p9 p10 p11 p12 p13 p14 p15
    go_wp2
    go_ret
    exact ⟨by rw [← hT.out, if_neg hn1.out]; rfl, Below.next hb1.out hb5.out⟩
theorem head_any (w0 : World) (hE : Env w0) (x : St) (r : StC) (hx : SNow w0 x r) (hm : mayS x = true) (W : World) (hW : Below w0.heap.size w0 W) (hcx : cntS x ≤ 30000) : Calls Tryz.prog 83 #[vlT r] W (StrPost (headB x) W) := by
  have hb : 1 ≤ x.kd ∧ x.kd ≤ 6 := by simpa [kindOk] using (mayS_parts hm).1
  rcases (show x.kd = 1 ∨ x.kd = 2 ∨ x.kd = 3 ∨ x.kd = 4 ∨ x.kd = 5 ∨ x.kd = 6 by omega) with k | k | k | k | k | k
  · exact head1_any w0 hE x r hx k hm W hW hcx
  · exact head2_any w0 hE x r hx k hm W hW hcx
  · exact head3_any w0 hE x r hx k hm W hW hcx
  · exact head4_any w0 hE x r hx k hm W hW hcx
  · exact head5_any w0 hE x r hx k hm W hW hcx
  · exact head6_any w0 hE x r hx k hm W hW hcx
end Go.Proofs.YtnahgfdoiflacaaGreatDoor
namespace Go.Proofs.YtnahgfdoiflacaaGreatDoor
open Go.RowKit Go.Lib Go.Shelf

theorem commas_snoc : ∀ (l : List (List UInt8)) (x : List UInt8), l ≠ [] → commas (l ++ [x]) = commas l ++ 44 :: 32 :: x
  | [], _, h => absurd rfl h
  | [y], x, _ => by simp [commas]
  | y :: z :: r, x, _ => by
    have h := commas_snoc (z :: r) x (by simp)
    rw [List.cons_append] at h
    rw [List.cons_append, List.cons_append, commas, h, commas]
    simp
theorem listT_commas (l : List ByteArray) : (listT l).data.toList = commas (l.map (·.data.toList)) := by
  rw [← commas_join]
  rfl
theorem listT_one (x : ByteArray) : listT [x] = x := by
  apply ba_ext
  rw [listT_commas]
  simp [commas]
theorem listT_snoc (l : List ByteArray) (x : ByteArray) (h : l ≠ []) : listT (l ++ [x]) = listT l ++ ⟨#[44, 32]⟩ ++ x := by
  apply ba_ext
  rw [listT_commas, ba_app, ba_app, listT_commas, List.map_append, List.map_singleton, commas_snoc _ _ (by simpa using h)]
  simp
theorem listT_le (l : List ByteArray) : (listT l).size ≤ 3 * cntN l := by
  have h1 := join_len (l.map fun x => x.data.toList)
  have h2 := sum_names l
  have h3 := len_cntN l
  rw [List.length_map] at h1
  rw [listT_size]
  show (Lib.join (l.map fun x => x.data.toList) [44, 32]).length ≤ _
  omega
theorem cntN_mono : ∀ (L : List ByteArray) (k : Nat), cntN (L.take k) ≤ cntN L := fun L => by
  induction L with
  | nil => intro k; simp [cntN]
  | cons s r ih => intro k; cases k with
    | zero => simp [cntN]
    | succ k => rw [List.take_succ_cons, cntN, cntN]; have := ih k; omega

set_option maxRecDepth 100000 in
set_option maxHeartbeats 4000000 in
theorem refList_any (w0 : World) (L : List ByteArray) (A : Option Addr) (h : CellsAt 1 cellsS w0 L A) (c : Nat) (W : World) (hW : Below w0.heap.size w0 W) (hc : cntN L ≤ 100000000) :
    Calls Tryz.prog 74 #[.slice A L.length c] W (StrPost (listT L) W) := by
  have hs := Lib.hid h
  have hW' := Lib.hid hW
  have hc' := Lib.hid hc
  have hl := len_cntN L
  obtain ⟨n, hnn⟩ : ∃ n, L.length = n := ⟨_, rfl⟩
  rw [hnn] at hl ⊢
  have hL' := Lib.hid hnn
  have hn : n ≤ 100000000 := by omega
  clear hW hnn h hc hl
  go_enter Tryz.func74, Tryz.ntmps74
  go_wp2_with fail
  go_loopg [3, 4] n (fun g s3 s4 wr => ∃ k : Nat, k + g = n ∧ s4 = .int .i64 k ∧ s3 = .string (listT (L.take k)) ∧ wr = W)
  case atStart => exact ⟨0, by omega, rfl, by rw [List.take_zero]; rfl, rfl⟩
  case round =>
    obtain ⟨k, hkg, rfl, rfl, rfl⟩ := hrel
    cases gk with
    | zero =>
      have e0 : ¬ ((k : Int) < (n : Int)) := by omega
      have hfin := Lib.hid (show listT (L.take k) = listT L by rw [List.take_of_length_le (by have := hL'.out; omega)])
      go_wp2
      go_ret
      exact ⟨by rw [hfin.out]; rfl, Below.refl _ _⟩
    | succ g2 =>
      have e0 : (k : Int) < (n : Int) := by omega
      obtain ⟨blk, off, x, rfl, hx, hcell⟩ := (hs.out).at_ (i := k) (by rw [hL'.out]; omega)
      have v0 : w0.cell? ⟨blk, off + k, none⟩ = some (.string x) := by have := hcell 0 (by omega); rw [Nat.mul_one] at this; exact this
      have v0 := (hW'.out.cell (p := ⟨blk, off + k, none⟩) (cell_some_lt v0)).trans v0
      have hz : (listT (L.take k)).size + 2 + x.size ≤ 1000000000 := by
        have h1 := listT_le (L.take k)
        have h2 := cntN_mono L k
        have h3 := cntN_mem hx
        have := hc'.out
        omega
      have htk : L.take (k + 1) = L.take k ++ [x] := by rw [List.take_add_one, hx]; rfl
      have hzero := Lib.hid (fun h : k = 0 => (show listT (L.take (k + 1)) = listT (L.take k) ++ x from by
        subst h
        rw [htk, List.take_zero, List.nil_append, listT_one]
        apply ba_ext
        rw [ba_app, listT_commas]
        simp [commas]))
      have hpos := Lib.hid (fun h : 0 < k => (show listT (L.take (k + 1)) = listT (L.take k) ++ ⟨#[44, 32]⟩ ++ x from by
        rw [htk]
        refine listT_snoc _ _ fun e => ?_
        have := congrArg List.length e
        rw [List.length_take, hL'.out] at this
        simp at this
        omega))
      clear hcell hx htk
      generalize listT (L.take k) = T at hz hzero hpos ⊢
      by_cases hk0 : k = 0
      · have e1 : ¬ (0 : Int) < (k : Int) := by omega
        have hz0 := Lib.hid (hzero.out hk0)
        clear hk0
        go_wp2
        go_roundg g2
        case measure => omega
        case rel => exact ⟨k + 1, by omega, by go_num, by rw [hz0.out], rfl⟩
      · have e1 : (0 : Int) < (k : Int) := by omega
        have hz0 := Lib.hid (hpos.out (by omega))
        clear hk0
        go_wp2
        go_roundg g2
        case measure => omega
        case rel => exact ⟨k + 1, by omega, by go_num, by rw [hz0.out], rfl⟩

theorem itoa_any (n : Int) (h0 : -9223372036854775808 ≤ n) (h1 : n ≤ 9223372036854775807) (W : World) (hE : Env W) : Calls Tryz.prog 54 #[.int .i64 n] W (StrPost ⟨(Lib.itoa n).toArray⟩ W) :=
  (Tryz.strconv_Itoa n h0 h1 W hE.tab).mono fun e w' ⟨he, k, os, hw⟩ => ⟨he, by rw [hw]; exact Lib.below_grow _ W (Nat.le_refl _) k os⟩

def ArgsPost (L : List ByteArray) (w : World) (e : Ending) (w' : World) : Prop := ∃ A c, e = .returned (.slice A L.length c) ∧ CellsAt 1 cellsS w' L A ∧ Below w.heap.size w w'
theorem names_own {w : World} {base n : Nat} {v : Value} {L : List ByteArray} (h : w.ownsRow base 9 1 v n (sCells L)) (hn : L.length = n) : ∃ A c, v = .slice A L.length c ∧ CellsAt 1 cellsS w L A := by
  obtain ⟨hl, h⟩ := h
  rcases h with ⟨rfl, h0⟩ | ⟨g, cap, cur, rfl, hg, hh, hcap, hm, hs, ht⟩
  · have : L = [] := List.length_eq_zero_iff.1 (by omega)
    subst this
    exact ⟨none, 0, rfl, CellsAt.nil _⟩
  · refine ⟨some ⟨g, 0, none⟩, cap, by rw [hn], g, 0, fun _ => rfl, fun i x hx j hj => ?_⟩
    obtain rfl : j = 0 := by omega
    have hlt := (List.getElem?_eq_some_iff.1 hx).1
    rw [blk_cell hh]
    have h2 := congrArg (fun l : List Value => l[i]?) ht
    simp only [List.getElem?_take, sCells, List.getElem?_map, hx] at h2
    rw [if_pos (by omega)] at h2
    simpa [cellsS] using h2
set_option maxRecDepth 100000 in
set_option maxHeartbeats 8000000 in
theorem refArgsT_any (w0 : World) (hE : Env w0) (L : List Ex) (A : Option Addr) (h : ExsAt w0 L A) (c : Nat) (W : World) (hW : Below w0.heap.size w0 W) (hn : L.length ≤ 30000) (hq : ∀ x ∈ L, cntE x ≤ 30000 ∧ mayE nameB x = true) :
    Calls Tryz.prog 126 #[.slice A L.length c] W (ArgsPost (L.map txS) W) := by
  have hs := Lib.hid h
  have hW' := Lib.hid hW
  have hq' := Lib.hid hq
  have hE' := Lib.hid hE
  obtain ⟨n, hnn⟩ : ∃ n, L.length = n := ⟨_, rfl⟩
  rw [hnn] at hn ⊢
  have hL' := Lib.hid hnn
  obtain ⟨i0, hi, hz0, hz1, hz2⟩ := info_parts info9
  have hi' := Lib.hid (And.intro hi (And.intro hz0 (And.intro hz1 hz2)))
  clear hi hz0 hz1 hz2 hW hnn h hq hE
  go_enter Tryz.func126, Tryz.ntmps126
  go_wp2_with fail
  go_loopg [3, 4] n (fun g s3 s4 wr => ∃ k : Nat, k + g = n ∧ s4 = .int .i64 k ∧ wr.ownsRow W.heap.size 9 1 s3 k (sCells ((L.take k).map txS)) ∧ Below W.heap.size W wr)
  case atStart => exact ⟨0, by omega, rfl, ⟨rfl, .inl ⟨rfl, rfl⟩⟩, Below.refl _ _⟩
  case round =>
    obtain ⟨k, hkg, rfl, ho, hbr⟩ := hrel
    have ho' := Lib.hid ho
    have hbr' := Lib.hid hbr
    clear ho hbr
    cases gk with
    | zero =>
      have e0 : ¬ ((k : Int) < (n : Int)) := by omega
      have htk : L.take k = L := List.take_of_length_le (by rw [hL'.out]; omega)
      have ho2 := ho'.out
      rw [htk] at ho2
      obtain ⟨A', c', rfl, hcl⟩ := names_own ho2 (by rw [List.length_map, hL'.out]; omega)
      have hcl := Lib.hid hcl
      have hlm := Lib.hid (show (L.map txS).length = n by rw [List.length_map, hL'.out])
      clear ho2 htk
      go_wp2
      go_ret
      exact ⟨A', c', by rw [List.length_map]; rfl, hcl.out, hbr'.out⟩
    | succ g2 =>
      have e0 : (k : Int) < (n : Int) := by omega
      have hbw := Lib.hid (hW'.out.trans (hbr'.out.mono hW'.out.size))
      obtain ⟨blk, off, x, B, C, rfl, hx, v0, v1, v2, v3, hxe⟩ := (hs.out).at_ (k := k) (by rw [hL'.out]; omega)
      have v0 := (hbw.out.cell (p := ⟨blk, off + k * 4, none⟩) (cell_some_lt v0)).trans v0
      have v1 := (hbw.out.cell (p := ⟨blk, off + k * 4 + 1, none⟩) (cell_some_lt v1)).trans v1
      have v2 := (hbw.out.cell (p := ⟨blk, off + k * 4 + 2, none⟩) (cell_some_lt v2)).trans v2
      have v3 := (hbw.out.cell (p := ⟨blk, off + k * 4 + 3, none⟩) (cell_some_lt v3)).trans v3
      have hx' := Lib.hid hx
      have hqx := hq'.out x (List.mem_of_getElem? hx)
      have hcl := refExpr_any w0 hE'.out x B hxe hqx.1 hqx.2 (hs.out.u_lt hx) C wr hbw.out
      unfold exV at hcl
      have hcl := Lib.hid hcl
      clear hx hxe hqx
      go_wp2_with fail
      refine hcl.out.mono ?_
      rintro e w2 ⟨rfl, hb2⟩
      have hb2' := Lib.hid (Below.next hbr'.out hb2)
      generalize hxt : txS x = xt
      have hown := Lib.hid (own_keep (W' := w2.alloc (.cells #[.string xt] 9)) ho'.out fun g hg => by
        have h1 := (own_at ho'.out hg).2
        have h2 := hb2.size
        rw [heap_alloc_old _ _ (by omega), hb2.block g h1])
      have hxt' := Lib.hid hxt
      have hnew := Lib.hid (cell_one_at w2 (.string xt) 9)
      have hbA := Lib.hid (hb2'.out.alloc hb2'.out.size (.cells #[.string xt] 9))
      have hone := Lib.hid (show ∀ v ∈ [Value.string xt], v.oneCell' = true by simp [Value.oneCell'])
      have hbs := Lib.hid hbA.out.size
      have hk1 := Lib.hid (show k + 1 ≤ maxLen by unfold maxLen; omega)
      have hk2 := Lib.hid (show (k + 1) * 16 ≤ 140737488355328 by omega)
      obtain ⟨hj1, hj2, hj3, hj4⟩ := hi'.out
      clear hb2 hxt
      go_wp2_with ((at_builtin; refine wpList_append_own_at _ rfl _ _ 47 rfl W.heap.size 9 i0 _ 1 16 und45 hj1 hj2 hj3 hj4 rfl (by decide) u3 k (sCells ((L.take k).map txS)) rfl hown.out ⟨w2.heap.size, 0, none⟩ 1 1 [.string xt] rfl rfl hnew.out hone.out hk1.out hk2.out hbs.out ?_; intro v' w4 hown4 hg4 hnil4 hat4))
      have hB4' := Lib.hid (hbA.out.grown hg4 hbs.out (fun g' e => (own_at hown.out e).1))
      have hown4' := Lib.hid hown4
      clear hown4 hg4 hnil4 hat4
      go_wp2
      go_roundg g2
      case measure => omega
      case rel =>
        refine ⟨k + 1, by omega, by go_num, ?_, hB4'.out⟩
        have e5 : (L.take (k + 1)).map txS = (L.take k).map txS ++ [xt] := by
          rw [List.take_add_one, hx'.out, List.map_append, ← hxt'.out]
          rfl
        rw [e5]
        simpa [sCells] using hown4'.out
end Go.Proofs.YtnahgfdoiflacaaGreatDoor
namespace Go.Proofs.YtnahgfdoiflacaaGreatDoor
open Go.RowKit Go.Lib Go.Shelf

def itoaB (n : Int) : ByteArray := ⟨(Lib.itoa n).toArray⟩
/-- a variable's line -/
def varB (v : VarC) : ByteArray :=
  if v.kd = 2 then (⟨#[97, 114, 114, 97, 121, 32]⟩ : ByteArray) ++ v.nm ++ ⟨#[32]⟩ ++ itoaB v.sz ++ ⟨(secT v.sc).toArray⟩ ++ ⟨#[59]⟩
  else if v.kd = 3 then (⟨#[115, 116, 97, 99, 107, 32]⟩ : ByteArray) ++ v.nm ++ ⟨#[32]⟩ ++ itoaB v.sz ++ ⟨(secT v.sc).toArray⟩ ++ ⟨#[59]⟩
  else (⟨#[118, 97, 114, 32]⟩ : ByteArray) ++ v.nm ++ ⟨#[59]⟩
theorem secT_len (b : Bool) : (secT b).length ≤ 7 := by cases b <;> simp [secT]

set_option maxRecDepth 100000 in
set_option maxHeartbeats 8000000 in
theorem refVar1_any (nm : ByteArray) (sz : Int) (sc : Bool) (W : World) (hE : Env W) (hn : nm.size ≤ 30000) (h0 : -9223372036854775808 ≤ sz) (h1 : sz ≤ 9223372036854775807) (hl : (itoaB sz).size ≤ 100) :
    Calls Tryz.prog 75 #[vlV ⟨nm, 1, sz, sc⟩] W (StrPost (varB ⟨nm, 1, sz, sc⟩) W) := by
  rw [show varB ⟨nm, 1, sz, sc⟩ = (⟨#[118, 97, 114, 32]⟩ : ByteArray) ++ nm ++ ⟨#[59]⟩ by unfold varB; simp]
  unfold vlV
  dsimp only
  obtain ⟨W1, hW1⟩ : ∃ W1, W.alloc (.cells #[.string nm, .int .i64 1, .int .i64 sz, .bool sc] 58) = W1 := ⟨_, rfl⟩
  have hb1 : Below W.heap.size W W1 := by rw [← hW1]; exact (Below.refl _ W).alloc (Nat.le_refl _) _
  have hX : W1.heap[W.heap.size]? = some (.cells #[.string nm, .int .i64 1, .int .i64 sz, .bool sc] 58 (0, 0)) := by rw [← hW1]; exact heap_alloc_new _ _
  obtain ⟨p0, p1, p2, p3, _⟩ := box4 hX
  have hit := Lib.hid (fun s : Sub W1 => itoa_any sz h0 h1 s.val (hE.below (Below.next hb1 s.property)))
  have hlS := secT_len sc
  have hsec := Lib.hid (fun s : Sub W1 => refSecret_any sc s.val)
  have hX := Lib.hid hX
  have hb1 := Lib.hid hb1
  have hW1' := Lib.hid hW1
  have hq : (⟨(secT sc).toArray⟩ : ByteArray).size = (secT sc).length := by
    show (secT sc).toArray.size = _
    simp
  have hz : 6 + nm.size + 1 + (itoaB sz).size + (⟨(secT sc).toArray⟩ : ByteArray).size + 1 ≤ 1000000 := by omega
  unfold itoaB at *
  generalize (⟨(Lib.itoa sz).toArray⟩ : ByteArray) = I at hit hz hl ⊢
  generalize (⟨(secT sc).toArray⟩ : ByteArray) = Z at hsec hz hq ⊢
  clear hW1 hE h0 h1 hn hl hlS hq
  go_enter Tryz.func75, Tryz.ntmps75
  go_wp2_with fail
  rw [hW1'.out]
  go_wp2
  go_ret
  exact ⟨rfl, hb1.out⟩

set_option maxRecDepth 100000 in
set_option maxHeartbeats 8000000 in
theorem refVar2_any (nm : ByteArray) (sz : Int) (sc : Bool) (W : World) (hE : Env W) (hn : nm.size ≤ 30000) (h0 : -9223372036854775808 ≤ sz) (h1 : sz ≤ 9223372036854775807) (hl : (itoaB sz).size ≤ 100) :
    Calls Tryz.prog 75 #[vlV ⟨nm, 2, sz, sc⟩] W (StrPost (varB ⟨nm, 2, sz, sc⟩) W) := by
  rw [show varB ⟨nm, 2, sz, sc⟩ = (⟨#[97, 114, 114, 97, 121, 32]⟩ : ByteArray) ++ nm ++ ⟨#[32]⟩ ++ itoaB sz ++ ⟨(secT sc).toArray⟩ ++ ⟨#[59]⟩ by unfold varB; simp]
  unfold vlV
  dsimp only
  obtain ⟨W1, hW1⟩ : ∃ W1, W.alloc (.cells #[.string nm, .int .i64 2, .int .i64 sz, .bool sc] 58) = W1 := ⟨_, rfl⟩
  have hb1 : Below W.heap.size W W1 := by rw [← hW1]; exact (Below.refl _ W).alloc (Nat.le_refl _) _
  have hX : W1.heap[W.heap.size]? = some (.cells #[.string nm, .int .i64 2, .int .i64 sz, .bool sc] 58 (0, 0)) := by rw [← hW1]; exact heap_alloc_new _ _
  obtain ⟨p0, p1, p2, p3, _⟩ := box4 hX
  have hit := Lib.hid (fun s : Sub W1 => itoa_any sz h0 h1 s.val (hE.below (Below.next hb1 s.property)))
  have hlS := secT_len sc
  have hsec := Lib.hid (fun s : Sub W1 => refSecret_any sc s.val)
  have hX := Lib.hid hX
  have hb1 := Lib.hid hb1
  have hW1' := Lib.hid hW1
  have hq : (⟨(secT sc).toArray⟩ : ByteArray).size = (secT sc).length := by
    show (secT sc).toArray.size = _
    simp
  have hz : 6 + nm.size + 1 + (itoaB sz).size + (⟨(secT sc).toArray⟩ : ByteArray).size + 1 ≤ 1000000 := by omega
  unfold itoaB at *
  generalize (⟨(Lib.itoa sz).toArray⟩ : ByteArray) = I at hit hz hl ⊢
  generalize (⟨(secT sc).toArray⟩ : ByteArray) = Z at hsec hz hq ⊢
  clear hW1 hE h0 h1 hn hl hlS hq
  have c0 := Sub.cell p0
  have c2 := Sub.cell p2
  have c3 := Sub.cell p3
  go_enter Tryz.func75, Tryz.ntmps75
  go_wp2_with fail
  rw [hW1'.out]
  go_wp2_with fail
  refine wp_region_below (by kernel_rfl) (by kernel_rfl) ?_
  repeat (go_big_quiet_step ((first | (go_at_call 54; with_reducible exact Sub.call (hit.out _)) | (go_at_call 73; with_reducible exact Sub.call (hsec.out _)))))
  refine wpQuiet_nil ?_
  rintro w4 ⟨z4, hz4⟩
  have hb4 := hz4 ▸ z4.property
  have hfin := Lib.hid (Below.next hb1.out hb4)
  clear hz4 hb4 p0 p1 p2 p3 c0 c2 c3
  go_wp2
  go_ret
  exact ⟨rfl, hfin.out⟩

set_option maxRecDepth 100000 in
set_option maxHeartbeats 8000000 in
theorem refVar3_any (nm : ByteArray) (sz : Int) (sc : Bool) (W : World) (hE : Env W) (hn : nm.size ≤ 30000) (h0 : -9223372036854775808 ≤ sz) (h1 : sz ≤ 9223372036854775807) (hl : (itoaB sz).size ≤ 100) :
    Calls Tryz.prog 75 #[vlV ⟨nm, 3, sz, sc⟩] W (StrPost (varB ⟨nm, 3, sz, sc⟩) W) := by
  rw [show varB ⟨nm, 3, sz, sc⟩ = (⟨#[115, 116, 97, 99, 107, 32]⟩ : ByteArray) ++ nm ++ ⟨#[32]⟩ ++ itoaB sz ++ ⟨(secT sc).toArray⟩ ++ ⟨#[59]⟩ by unfold varB; simp]
  unfold vlV
  dsimp only
  obtain ⟨W1, hW1⟩ : ∃ W1, W.alloc (.cells #[.string nm, .int .i64 3, .int .i64 sz, .bool sc] 58) = W1 := ⟨_, rfl⟩
  have hb1 : Below W.heap.size W W1 := by rw [← hW1]; exact (Below.refl _ W).alloc (Nat.le_refl _) _
  have hX : W1.heap[W.heap.size]? = some (.cells #[.string nm, .int .i64 3, .int .i64 sz, .bool sc] 58 (0, 0)) := by rw [← hW1]; exact heap_alloc_new _ _
  obtain ⟨p0, p1, p2, p3, _⟩ := box4 hX
  have hit := Lib.hid (fun s : Sub W1 => itoa_any sz h0 h1 s.val (hE.below (Below.next hb1 s.property)))
  have hlS := secT_len sc
  have hsec := Lib.hid (fun s : Sub W1 => refSecret_any sc s.val)
  have hX := Lib.hid hX
  have hb1 := Lib.hid hb1
  have hW1' := Lib.hid hW1
  have hq : (⟨(secT sc).toArray⟩ : ByteArray).size = (secT sc).length := by
    show (secT sc).toArray.size = _
    simp
  have hz : 6 + nm.size + 1 + (itoaB sz).size + (⟨(secT sc).toArray⟩ : ByteArray).size + 1 ≤ 1000000 := by omega
  unfold itoaB at *
  generalize (⟨(Lib.itoa sz).toArray⟩ : ByteArray) = I at hit hz hl ⊢
  generalize (⟨(secT sc).toArray⟩ : ByteArray) = Z at hsec hz hq ⊢
  clear hW1 hE h0 h1 hn hl hlS hq
  have c0 := Sub.cell p0
  have c2 := Sub.cell p2
  have c3 := Sub.cell p3
  go_enter Tryz.func75, Tryz.ntmps75
  go_wp2_with fail
  rw [hW1'.out]
  go_wp2_with fail
  refine wp_region_below (by kernel_rfl) (by kernel_rfl) ?_
  repeat (go_big_quiet_step ((first | (go_at_call 54; with_reducible exact Sub.call (hit.out _)) | (go_at_call 73; with_reducible exact Sub.call (hsec.out _)))))
  refine wpQuiet_nil ?_
  rintro w4 ⟨z4, hz4⟩
  have hb4 := hz4 ▸ z4.property
  have hfin := Lib.hid (Below.next hb1.out hb4)
  clear hz4 hb4 p0 p1 p2 p3 c0 c2 c3
  go_wp2
  go_ret
  exact ⟨rfl, hfin.out⟩
end Go.Proofs.YtnahgfdoiflacaaGreatDoor
namespace Go.Proofs.YtnahgfdoiflacaaGreatDoor
open Go.RowKit Go.Lib Go.Shelf Go.MapKept
open Go.ChangeMaps (setBlock heap_setBlock_same heap_setBlock_other)

theorem run_lookupF {P : Program} {t k e : TypeId} (ht : P.underlying t = some (.map k e)) (hk : P.underlying k = some (.int .i64)) {w : World} {b : Nat} {es : Array MapEntry} {clock : Nat}
    (hb : w.heap[b]? = some (.map es clock)) (n : Int) (v : Value) (i : Nat) (hf : Instr.findNow (.int .i64) (.int .i64 n) es.toList 0 = some (some (i, v))) :
    (Instr.lookup t (.map (some b)) (.int .i64 n) false).run P w = .ok v w := by
  have hik : IsKey (.int .i64) (.int .i64 n) := by simp [IsKey]
  simp [Instr.lookup, run_underlying ht, Go.MapKept.run_getObj_map hb, run_checkKey hk hik, run_findKey hk hf, Result.andThen]
theorem below_setBlock {B : Nat} {w W : World} (h : Below B w W) {b : Nat} {es : Array MapEntry} {clock : Nat} (hb : W.heap[b]? = some (.map es clock)) (hB : B ≤ b) (o : Obj) : Below B w (setBlock W b o) :=
  ⟨h.os, h.tape, h.output, by simpa [setBlock] using h.size, fun i hi => (heap_setBlock_other hb o (by omega)).trans (h.block i hi)⟩
def vEnt1 : MapEntry := ⟨.int .i64 1, .agg #[.string ⟨#[118, 97, 114, 32]⟩], 0⟩
def vEnt2 : MapEntry := ⟨.int .i64 2, .agg #[.string ⟨#[97, 114, 114, 97, 121, 32]⟩], 1⟩
def vEnt3 : MapEntry := ⟨.int .i64 3, .agg #[.string ⟨#[115, 116, 97, 99, 107, 32]⟩], 2⟩
theorem field120 (s : ByteArray) (w : World) : (Instr.field 120 (.agg #[.string s]) 0).run Tryz.prog w = .ok (.string s) w := by
  simp [Instr.field, run_underlying Tryz.underlying120, go_sem]
  rfl
/-- the map of words is laid -/
theorem words_laid (W : World) : ∃ M1 M2 M3 : World,
    (Instr.mapUpdate 141 (.map (some W.heap.size)) (.int .i64 1) (.agg #[.string ⟨#[118, 97, 114, 32]⟩])).run Tryz.prog (W.alloc (.map #[] 0)) = .ok () M1 ∧
    (Instr.mapUpdate 141 (.map (some W.heap.size)) (.int .i64 2) (.agg #[.string ⟨#[97, 114, 114, 97, 121, 32]⟩])).run Tryz.prog M1 = .ok () M2 ∧
    (Instr.mapUpdate 141 (.map (some W.heap.size)) (.int .i64 3) (.agg #[.string ⟨#[115, 116, 97, 99, 107, 32]⟩])).run Tryz.prog M2 = .ok () M3 ∧
    (Instr.lookup 141 (.map (some W.heap.size)) (.int .i64 1) false).run Tryz.prog M3 = .ok (.agg #[.string ⟨#[118, 97, 114, 32]⟩]) M3 ∧
    (Instr.lookup 141 (.map (some W.heap.size)) (.int .i64 2) false).run Tryz.prog M3 = .ok (.agg #[.string ⟨#[97, 114, 114, 97, 121, 32]⟩]) M3 ∧
    (Instr.lookup 141 (.map (some W.heap.size)) (.int .i64 3) false).run Tryz.prog M3 = .ok (.agg #[.string ⟨#[115, 116, 97, 99, 107, 32]⟩]) M3 ∧ Below W.heap.size W M3 := by
  have h0 : (W.alloc (.map #[] 0)).heap[W.heap.size]? = some (.map #[] 0) := heap_alloc_new W _
  have b0 : Below W.heap.size W (W.alloc (.map #[] 0)) := (Below.refl _ W).alloc (Nat.le_refl _) _
  have h1 := heap_setBlock_same h0 (.map #[vEnt1] 1)
  have b1 := below_setBlock b0 h0 (Nat.le_refl _) (.map #[vEnt1] 1)
  have h2 := heap_setBlock_same h1 (.map #[vEnt1, vEnt2] 2)
  have b2 := below_setBlock b1 h1 (Nat.le_refl _) (.map #[vEnt1, vEnt2] 2)
  have h3 := heap_setBlock_same h2 (.map #[vEnt1, vEnt2, vEnt3] 3)
  have b3 := below_setBlock b2 h2 (Nat.le_refl _) (.map #[vEnt1, vEnt2, vEnt3] 3)
  exact ⟨_, _, _, run_mapUpdateI Tryz.underlying141 Tryz.underlying56 h0 1 _ rfl, run_mapUpdateI Tryz.underlying141 Tryz.underlying56 h1 2 _ rfl, run_mapUpdateI Tryz.underlying141 Tryz.underlying56 h2 3 _ rfl,
    run_lookupF Tryz.underlying141 Tryz.underlying56 h3 1 _ 0 rfl, run_lookupF Tryz.underlying141 Tryz.underlying56 h3 2 _ 1 rfl, run_lookupF Tryz.underlying141 Tryz.underlying56 h3 3 _ 2 rfl, b3⟩

set_option maxRecDepth 100000 in
set_option maxHeartbeats 8000000 in
theorem var1_any (nm : ByteArray) (sz : Int) (sc : Bool) (W : World) (hE : Env W) (hn : nm.size ≤ 30000) (h0 : -9223372036854775808 ≤ sz) (h1 : sz ≤ 9223372036854775807) (hl : (itoaB sz).size ≤ 100) :
    Calls Tryz.prog 59 #[vlV ⟨nm, 1, sz, sc⟩] W (StrPost (varB ⟨nm, 1, sz, sc⟩) W) := by
  rw [show varB ⟨nm, 1, sz, sc⟩ = (⟨#[118, 97, 114, 32]⟩ : ByteArray) ++ nm ++ ⟨#[59]⟩ by unfold varB; simp]
  unfold vlV
  dsimp only
  obtain ⟨W1, hW1⟩ : ∃ W1, W.alloc (.cells #[.string nm, .int .i64 1, .int .i64 sz, .bool sc] 58) = W1 := ⟨_, rfl⟩
  have hb1 : Below W.heap.size W W1 := by rw [← hW1]; exact (Below.refl _ W).alloc (Nat.le_refl _) _
  have hX : W1.heap[W.heap.size]? = some (.cells #[.string nm, .int .i64 1, .int .i64 sz, .bool sc] 58 (0, 0)) := by rw [← hW1]; exact heap_alloc_new _ _
  obtain ⟨p0, p1, p2, p3, _⟩ := box4 hX
  obtain ⟨M1, M2, M3, u1, u2, u3, q1, q2, q3, hM⟩ := words_laid W1
  have hs1 : W1.heap.size = W.heap.size + 1 := by rw [← hW1]; simp
  rw [hs1] at u1 u2 u3 q1 q2 q3
  have hXM := (hM.block _ (blk_lt hX)).trans hX
  obtain ⟨y0, y1, y2, y3, _⟩ := box4 hXM
  have hbM := Lib.hid (Below.next hb1 hM)
  have hit := Lib.hid (fun s : Sub M3 => itoa_any sz h0 h1 s.val (hE.below (Below.next hbM.out s.property)))
  have hlS := secT_len sc
  have hW1' := Lib.hid hW1
  have hq : (⟨(secT sc).toArray⟩ : ByteArray).size = (secT sc).length := by
    show (secT sc).toArray.size = _
    simp
  have hz : 6 + nm.size + 1 + (itoaB sz).size + (⟨(secT sc).toArray⟩ : ByteArray).size + 1 ≤ 1000000 := by omega
  have hsz : ((⟨#[118, 97, 114, 32]⟩ : ByteArray) ++ nm ++ ⟨#[32]⟩ ++ itoaB sz).size ≤ 1000000 := by
    rw [ByteArray.size_append, ByteArray.size_append, ByteArray.size_append]
    have w1 : (⟨#[118, 97, 114, 32]⟩ : ByteArray).size = 4 := rfl
    have w2 : (⟨#[32]⟩ : ByteArray).size = 1 := rfl
    omega
  have hsec := Lib.hid (fun (s : Sub M3) => secret_any ((⟨#[118, 97, 114, 32]⟩ : ByteArray) ++ nm ++ ⟨#[32]⟩ ++ itoaB sz) sc s.val (by omega))
  unfold txA itoaB at hsec
  unfold itoaB at *
  generalize (⟨(Lib.itoa sz).toArray⟩ : ByteArray) = I at hit hz hl hsec ⊢
  generalize (⟨(secT sc).toArray⟩ : ByteArray) = Z at hsec hz hq ⊢
  have hmm := @run_makeMap Tryz.prog
  have hlk := Lib.hid hs1
  clear hW1 hE h0 h1 hn hl hlS hq hsz hXM hX hs1 hM hb1
  go_enter Tryz.func59, Tryz.ntmps59
  go_wp2_with fail
  rw [hW1'.out]
  go_wp2_with fail
  rw [u1]
  go_wp2_with fail
  rw [field120]
  go_wp2
  go_ret
  exact ⟨rfl, hbM.out⟩

set_option maxRecDepth 100000 in
set_option maxHeartbeats 8000000 in
theorem var2_any (nm : ByteArray) (sz : Int) (sc : Bool) (W : World) (hE : Env W) (hn : nm.size ≤ 30000) (h0 : -9223372036854775808 ≤ sz) (h1 : sz ≤ 9223372036854775807) (hl : (itoaB sz).size ≤ 100) :
    Calls Tryz.prog 59 #[vlV ⟨nm, 2, sz, sc⟩] W (StrPost (varB ⟨nm, 2, sz, sc⟩) W) := by
  rw [show varB ⟨nm, 2, sz, sc⟩ = (⟨#[97, 114, 114, 97, 121, 32]⟩ : ByteArray) ++ nm ++ ⟨#[32]⟩ ++ itoaB sz ++ ⟨(secT sc).toArray⟩ ++ ⟨#[59]⟩ by unfold varB; simp]
  unfold vlV
  dsimp only
  obtain ⟨W1, hW1⟩ : ∃ W1, W.alloc (.cells #[.string nm, .int .i64 2, .int .i64 sz, .bool sc] 58) = W1 := ⟨_, rfl⟩
  have hb1 : Below W.heap.size W W1 := by rw [← hW1]; exact (Below.refl _ W).alloc (Nat.le_refl _) _
  have hX : W1.heap[W.heap.size]? = some (.cells #[.string nm, .int .i64 2, .int .i64 sz, .bool sc] 58 (0, 0)) := by rw [← hW1]; exact heap_alloc_new _ _
  obtain ⟨p0, p1, p2, p3, _⟩ := box4 hX
  obtain ⟨M1, M2, M3, u1, u2, u3, q1, q2, q3, hM⟩ := words_laid W1
  have hs1 : W1.heap.size = W.heap.size + 1 := by rw [← hW1]; simp
  rw [hs1] at u1 u2 u3 q1 q2 q3
  have hXM := (hM.block _ (blk_lt hX)).trans hX
  obtain ⟨y0, y1, y2, y3, _⟩ := box4 hXM
  have hbM := Lib.hid (Below.next hb1 hM)
  have hit := Lib.hid (fun s : Sub M3 => itoa_any sz h0 h1 s.val (hE.below (Below.next hbM.out s.property)))
  have hlS := secT_len sc
  have hW1' := Lib.hid hW1
  have hq : (⟨(secT sc).toArray⟩ : ByteArray).size = (secT sc).length := by
    show (secT sc).toArray.size = _
    simp
  have hz : 6 + nm.size + 1 + (itoaB sz).size + (⟨(secT sc).toArray⟩ : ByteArray).size + 1 ≤ 1000000 := by omega
  have hsz : ((⟨#[97, 114, 114, 97, 121, 32]⟩ : ByteArray) ++ nm ++ ⟨#[32]⟩ ++ itoaB sz).size ≤ 1000000 := by
    rw [ByteArray.size_append, ByteArray.size_append, ByteArray.size_append]
    have w1 : (⟨#[97, 114, 114, 97, 121, 32]⟩ : ByteArray).size = 6 := rfl
    have w2 : (⟨#[32]⟩ : ByteArray).size = 1 := rfl
    omega
  have hsec := Lib.hid (fun (s : Sub M3) => secret_any ((⟨#[97, 114, 114, 97, 121, 32]⟩ : ByteArray) ++ nm ++ ⟨#[32]⟩ ++ itoaB sz) sc s.val (by omega))
  unfold txA itoaB at hsec
  unfold itoaB at *
  generalize (⟨(Lib.itoa sz).toArray⟩ : ByteArray) = I at hit hz hl hsec ⊢
  generalize (⟨(secT sc).toArray⟩ : ByteArray) = Z at hsec hz hq ⊢
  have hmm := @run_makeMap Tryz.prog
  have hlk := Lib.hid hs1
  clear hW1 hE h0 h1 hn hl hlS hq hsz hXM hX hs1 hM hb1
  go_enter Tryz.func59, Tryz.ntmps59
  go_wp2_with fail
  rw [hW1'.out]
  go_wp2_with fail
  rw [u1]
  go_wp2_with fail
  rw [field120]
  go_wp2_with fail
  have c0 := Sub.cell y0
  have c2 := Sub.cell y2
  have c3 := Sub.cell y3
  refine wp_region_below (by kernel_rfl) (by kernel_rfl) ?_
  repeat (go_big_quiet_step ((first | (go_at_call 54; with_reducible exact Sub.call (hit.out _)) | (go_at_call 53; with_reducible exact Sub.call (hsec.out _)))))
  refine wpQuiet_nil ?_
  rintro w4 ⟨z4, hz4⟩
  have hb4 := hz4 ▸ z4.property
  have hfin := Lib.hid (Below.next hbM.out hb4)
  clear hz4 hb4 p0 p1 p2 p3 c0 c2 c3 y0 y1 y2 y3
  go_wp2
  go_ret
  exact ⟨rfl, hfin.out⟩

set_option maxRecDepth 100000 in
set_option maxHeartbeats 8000000 in
theorem var3_any (nm : ByteArray) (sz : Int) (sc : Bool) (W : World) (hE : Env W) (hn : nm.size ≤ 30000) (h0 : -9223372036854775808 ≤ sz) (h1 : sz ≤ 9223372036854775807) (hl : (itoaB sz).size ≤ 100) :
    Calls Tryz.prog 59 #[vlV ⟨nm, 3, sz, sc⟩] W (StrPost (varB ⟨nm, 3, sz, sc⟩) W) := by
  rw [show varB ⟨nm, 3, sz, sc⟩ = (⟨#[115, 116, 97, 99, 107, 32]⟩ : ByteArray) ++ nm ++ ⟨#[32]⟩ ++ itoaB sz ++ ⟨(secT sc).toArray⟩ ++ ⟨#[59]⟩ by unfold varB; simp]
  unfold vlV
  dsimp only
  obtain ⟨W1, hW1⟩ : ∃ W1, W.alloc (.cells #[.string nm, .int .i64 3, .int .i64 sz, .bool sc] 58) = W1 := ⟨_, rfl⟩
  have hb1 : Below W.heap.size W W1 := by rw [← hW1]; exact (Below.refl _ W).alloc (Nat.le_refl _) _
  have hX : W1.heap[W.heap.size]? = some (.cells #[.string nm, .int .i64 3, .int .i64 sz, .bool sc] 58 (0, 0)) := by rw [← hW1]; exact heap_alloc_new _ _
  obtain ⟨p0, p1, p2, p3, _⟩ := box4 hX
  obtain ⟨M1, M2, M3, u1, u2, u3, q1, q2, q3, hM⟩ := words_laid W1
  have hs1 : W1.heap.size = W.heap.size + 1 := by rw [← hW1]; simp
  rw [hs1] at u1 u2 u3 q1 q2 q3
  have hXM := (hM.block _ (blk_lt hX)).trans hX
  obtain ⟨y0, y1, y2, y3, _⟩ := box4 hXM
  have hbM := Lib.hid (Below.next hb1 hM)
  have hit := Lib.hid (fun s : Sub M3 => itoa_any sz h0 h1 s.val (hE.below (Below.next hbM.out s.property)))
  have hlS := secT_len sc
  have hW1' := Lib.hid hW1
  have hq : (⟨(secT sc).toArray⟩ : ByteArray).size = (secT sc).length := by
    show (secT sc).toArray.size = _
    simp
  have hz : 6 + nm.size + 1 + (itoaB sz).size + (⟨(secT sc).toArray⟩ : ByteArray).size + 1 ≤ 1000000 := by omega
  have hsz : ((⟨#[115, 116, 97, 99, 107, 32]⟩ : ByteArray) ++ nm ++ ⟨#[32]⟩ ++ itoaB sz).size ≤ 1000000 := by
    rw [ByteArray.size_append, ByteArray.size_append, ByteArray.size_append]
    have w1 : (⟨#[115, 116, 97, 99, 107, 32]⟩ : ByteArray).size = 6 := rfl
    have w2 : (⟨#[32]⟩ : ByteArray).size = 1 := rfl
    omega
  have hsec := Lib.hid (fun (s : Sub M3) => secret_any ((⟨#[115, 116, 97, 99, 107, 32]⟩ : ByteArray) ++ nm ++ ⟨#[32]⟩ ++ itoaB sz) sc s.val (by omega))
  unfold txA itoaB at hsec
  unfold itoaB at *
  generalize (⟨(Lib.itoa sz).toArray⟩ : ByteArray) = I at hit hz hl hsec ⊢
  generalize (⟨(secT sc).toArray⟩ : ByteArray) = Z at hsec hz hq ⊢
  have hmm := @run_makeMap Tryz.prog
  have hlk := Lib.hid hs1
  clear hW1 hE h0 h1 hn hl hlS hq hsz hXM hX hs1 hM hb1
  go_enter Tryz.func59, Tryz.ntmps59
  go_wp2_with fail
  rw [hW1'.out]
  go_wp2_with fail
  rw [u1]
  go_wp2_with fail
  rw [field120]
  go_wp2_with fail
  have c0 := Sub.cell y0
  have c2 := Sub.cell y2
  have c3 := Sub.cell y3
  refine wp_region_below (by kernel_rfl) (by kernel_rfl) ?_
  repeat (go_big_quiet_step ((first | (go_at_call 54; with_reducible exact Sub.call (hit.out _)) | (go_at_call 53; with_reducible exact Sub.call (hsec.out _)))))
  refine wpQuiet_nil ?_
  rintro w4 ⟨z4, hz4⟩
  have hb4 := hz4 ▸ z4.property
  have hfin := Lib.hid (Below.next hbM.out hb4)
  clear hz4 hb4 p0 p1 p2 p3 c0 c2 c3 y0 y1 y2 y3
  go_wp2
  go_ret
  exact ⟨rfl, hfin.out⟩
end Go.Proofs.YtnahgfdoiflacaaGreatDoor
