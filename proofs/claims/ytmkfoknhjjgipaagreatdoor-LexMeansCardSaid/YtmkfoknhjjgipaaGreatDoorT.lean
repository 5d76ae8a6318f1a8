/- Lists of tokens: Much, the reference's Plain, Same, the reference's Same. -/
import Derived.Test.YtmkfoknhjjgipaaGreatDoorN
import Derived.Test.YtmkfoknhjjgipaaGreatDoorS
import Derived.BigQuiet
set_option linter.unusedSimpArgs false
set_option linter.unusedVariables false
namespace Go.Proofs.YtmkfoknhjjgipaaGreatDoor
open Go.RowKit Go.Lib Go.Shelf

def sizesT (L : List Ta) : Nat := (L.map fun x => x.t.size).sum
theorem sizes_next {L : List Ta} {x : Ta} {k : Nat} (h : L[k]? = some x) : sizesT (L.take (k + 1)) = sizesT (L.take k) + x.t.size := by
  unfold sizesT
  rw [List.take_add_one, h, List.map_append, List.sum_append]
  simp
def MuchPost (n : Nat) (L : List Ta) (w : World) (e : Ending) (w' : World) : Prop := ∃ b, e = .returned (.bool b) ∧ (b = false → n + sizesT L ≤ 9000) ∧ w' = w
set_option maxRecDepth 100000 in
set_option maxHeartbeats 2000000 in
theorem much_any (A : Option Addr) (c : Nat) (L : List Ta) (w : World) (hA : TaAt w A L) (hn : L.length ≤ 9223372036854775807) :
    Calls Tryz.prog 20 #[.slice A L.length c, .int .i64 9000] w (MuchPost L.length L w) := by
  obtain ⟨n, hL⟩ : ∃ n, L.length = n := ⟨_, rfl⟩
  rw [hL] at hn ⊢
  have hL' := Lib.hid hL
  have hA' := Lib.hid hA
  clear hA hL
  go_enter Tryz.func20, Tryz.ntmps20
  go_wp2_with fail
  go_loopg [5, 6] n (fun g s5 s6 wr => ∃ k m : Nat, k + g = n ∧ s6 = .int .i64 k ∧ s5 = .int .i64 m ∧ wr = w ∧ (m ≤ 9000 → m = n + sizesT (L.take k)) ∧ m ≤ 9223372036854775807)
  case atStart => exact ⟨0, n, by omega, rfl, rfl, rfl, fun _ => by simp [sizesT], hn⟩
  case round =>
    obtain ⟨k, m, hkg, rfl, rfl, rfl, hm, hmx⟩ := hrel
    have hm' := Lib.hid hm
    clear hm
    rcases Nat.lt_or_ge 9000 m with h9 | h9
    · have e2 : ¬ (m : Int) ≤ 9000 := by omega
      have e3 : (9000 : Int) < (m : Int) := by omega
      by_cases hk : k < n
      · have e0 : (k : Int) < (n : Int) := by omega
        go_wp2
        go_ret
        exact ⟨true, rfl, fun h => (by cases h), rfl⟩
      · have e0 : ¬ (k : Int) < (n : Int) := by omega
        go_wp2
        go_ret
        exact ⟨true, rfl, fun h => (by cases h), rfl⟩
    · have e2 : (m : Int) ≤ 9000 := by omega
      have e3 : ¬ (9000 : Int) < (m : Int) := by omega
      have hm9 := hm'.out h9
      cases gk with
      | zero =>
        have e0 : ¬ (k : Int) < (n : Int) := by omega
        have hfin := Lib.hid (show n + sizesT L ≤ 9000 by
          have e : L.take k = L := List.take_of_length_le (by rw [hL'.out]; omega)
          rw [e] at hm9
          omega)
        clear hm9
        go_wp2
        go_ret
        exact ⟨false, rfl, fun _ => hfin.out, rfl⟩
      | succ g =>
        have e0 : (k : Int) < (n : Int) := by omega
        have hn9 : n ≤ 9000 := by omega
        obtain ⟨blk, off, x, rfl, hx, v1, v2, v3, v4, v5⟩ := hA'.out.at_ (k := k) (by rw [hL'.out]; omega)
        obtain ⟨xk, xt, xu, xl, xc⟩ := x
        dsimp only at v1 v2 v3 v4 v5
        have hnx := Lib.hid (sizes_next hx)
        obtain ⟨z, hz⟩ : ∃ z, xt.size = z := ⟨_, rfl⟩
        have hz' := Lib.hid hz
        have hm9' := Lib.hid hm9
        clear hx hm9 hz
        go_wp2
        go_roundg g
        case measure => omega
        case rel =>
          have e5 := hnx.out
          try dsimp only at e5
          rw [hz'.out] at e5
          have e6 := hm9'.out
          refine ⟨k + 1, m + min z 9001, by omega, by go_num, ?_, rfl, fun h => by omega, by omega⟩
          rw [hz'.out]
          go_num

theorem joinTail_snoc (sep : List UInt8) (xs : List (List UInt8)) (y : List UInt8) : Lib.joinTail sep (xs ++ [y]) = Lib.joinTail sep xs ++ sep ++ y := by simp [Lib.joinTail]
theorem join_snoc (sep : List UInt8) (xs : List (List UInt8)) (y : List UInt8) (h : 0 < xs.length) : Lib.join (xs ++ [y]) sep = Lib.join xs sep ++ sep ++ y := by
  cases xs with
  | nil => exact absurd h (Nat.lt_irrefl 0)
  | cons x r => rw [List.cons_append, Lib.join_cons, Lib.join_cons, joinTail_snoc]; simp
/-- the bytes of tokens' plain text -/
def plainF (L : List Ta) : List UInt8 := Lib.join (L.map fun x => x.t.data.toList) [32]
theorem plainF_text (L : List Ta) : (⟨(plainF L).toArray⟩ : ByteArray) = plainT (L.map Ta.t) := by
  unfold plainF plainT
  rw [List.map_map]
  rfl
theorem plainF_zero {L : List Ta} {x : Ta} (h : L[0]? = some x) : plainF (L.take 1) = x.t.data.toList := by
  rw [List.take_add_one, h]
  exact Lib.join_one _ _
theorem plainF_next {L : List Ta} {x : Ta} {k : Nat} (h : L[k]? = some x) (hk : 0 < k) : plainF (L.take (k + 1)) = plainF (L.take k) ++ [32] ++ x.t.data.toList := by
  have hl := (List.getElem?_eq_some_iff.1 h).1
  rw [List.take_add_one, h]
  unfold plainF
  rw [List.map_append]
  exact join_snoc _ _ _ (by rw [List.length_map, List.length_take]; omega)
set_option maxRecDepth 100000 in
set_option maxHeartbeats 4000000 in
theorem refPlain_any (A : Option Addr) (c : Nat) (L : List Ta) (w : World) (hA : TaAt w A L) (hsz : L.length + sizesT L ≤ 100000) :
    Calls Tryz.prog 22 #[.slice A L.length c] w (StrPost (plainT (L.map Ta.t)) w) := by
  obtain ⟨n, hL⟩ : ∃ n, L.length = n := ⟨_, rfl⟩
  rw [hL] at hsz ⊢
  have hL' := Lib.hid hL
  have hA' := Lib.hid hA
  have hsz' := Lib.hid hsz
  have hn : n ≤ 100000 := by omega
  clear hA hL hsz
  go_enter Tryz.func22, Tryz.ntmps22
  go_wp2_with fail
  go_loopg [3, 4] n (fun g s3 s4 wr => ∃ k N : Nat, k + g = n ∧ s4 = .int .i64 k ∧ N ≤ k + sizesT (L.take k) ∧ OwnC wr w.heap.size s3 N (plainF (L.take k)) ∧ Below w.heap.size w wr)
  case atStart => exact ⟨0, 0, by omega, rfl, by omega, ⟨rfl, .inl ⟨rfl, rfl⟩⟩, Below.refl _ _⟩
  case round =>
    obtain ⟨k, N, hkg, rfl, hN, ho, hb⟩ := hrel
    have ho := Lib.hid ho
    have hb := Lib.hid hb
    have hN' := Lib.hid hN
    clear hN
    cases gk with
    | zero =>
      have e0 : ¬ ((k : Int) < (n : Int)) := by omega
      have htk : L.take k = L := List.take_of_length_le (by rw [hL'.out]; omega)
      have hcv2 := ownC_conv_all ho.out
      rw [htk, plainF_text] at hcv2
      clear htk
      go_wp2
      go_ret
      exact ⟨rfl, hb.out⟩
    | succ g =>
      have e0 : (k : Int) < (n : Int) := by omega
      obtain ⟨blk, off, x, rfl, hx, v1, v2, v3, v4, v5⟩ := hA'.out.at_ (k := k) (by rw [hL'.out]; omega)
      have hx' := Lib.hid hx
      have hlt := cell_some_lt v2
      have hnx := sizes_next hx
      have hle : sizesT (L.take (k + 1)) ≤ sizesT L := by
        have e : sizesT (L.take (k + 1)) + sizesT (L.drop (k + 1)) = sizesT L := by
          unfold sizesT
          rw [← List.sum_append, ← List.map_append, List.take_append_drop]
        omega
      obtain ⟨xk, xt, xu, xl, xc⟩ := x
      dsimp only at v1 v2 v3 v4 v5 hnx
      have hnx' := Lib.hid hnx
      have hNx : Hid (N + 1 + xt.size ≤ 1000000000) := Lib.hid (by
        have := hN'.out
        have := hsz'.out
        omega)
      have hkp := Lib.hid fun (W : World) (h : Below w.heap.size w W) => (h.cell (p := ⟨blk, off + k * 5 + 1, none⟩) hlt).trans v2
      clear hx hle hnx v1 v2 v3 v4 v5
      have v2 := hkp.out wr hb.out
      by_cases h0 : k = 0
      · subst h0
        have e1 : ¬ (0 : Int) < ((0 : Nat) : Int) := by omega
        have hz0 := Lib.hid (show plainF (L.take 0) = [] from rfl)
        simp only [Nat.zero_mul, Nat.add_zero] at v2
        go_wp2_with (at_builtin; refine wpList_append_C_string rfl _ _ rfl w.heap.size N _ _ rfl ho.out xt rfl (by have := hNx.out; omega) hb.out.size ?_; intro v4 w4 hown4 hg4; have hb4 := Lib.hid (hb.out.grown hg4 hb.out.size (fun g' e => (ho.out.lt g' e).1)); have hown4 := Lib.hid hown4; clear hg4)
        go_wp2
        go_roundg g
        case measure => omega
        case rel =>
          refine ⟨0 + 1, N + xt.size, by omega, by go_num, ?_, ?_, hb4.out⟩
          · have e5 := hnx'.out; have := hN'.out; omega
          · have e6 := plainF_zero hx'.out
            have e7 := hown4.out
            rw [hz0.out, List.nil_append] at e7
            rw [e6]
            exact e7
      · have e1 : (0 : Int) < ((k : Nat) : Int) := by omega
        go_wp2_with (first | (at_builtin; refine wpList_append_C_byte rfl _ _ rfl w.heap.size N _ _ rfl (ho.out.kept ((Below.refl _ _).alloc (Nat.le_refl _) _)) _ 32 rfl (new_cell _ _ _) (by have := hNx.out; omega) (hb.out.alloc hb.out.size _).size ?_; intro v4 w4 ho4 hg4; have hb4 := (hb.out.alloc hb.out.size _).grown hg4 (hb.out.alloc hb.out.size _).size (fun g' e => (ho.out.lt g' e).1); have v2 := hkp.out _ hb4; have hb := Lib.hid hb4; have ho := Lib.hid ho4; clear ho4 hg4 hb4) | (at_builtin; refine wpList_append_C_string rfl _ _ rfl w.heap.size (N + 1) _ _ rfl ho.out xt rfl (by have := hNx.out; omega) hb.out.size ?_; intro v5 w5 ho5 hg5; have hb5 := Lib.hid (hb.out.grown hg5 hb.out.size (fun g' e => (ho.out.lt g' e).1)); have ho5' := Lib.hid ho5; clear ho5 hg5))
        go_wp2
        go_roundg g
        case measure => omega
        case rel =>
          refine ⟨k + 1, N + 1 + xt.size, by omega, by go_num, ?_, ?_, hb5.out⟩
          · have e5 := hnx'.out; have := hN'.out; omega
          · have e6 := plainF_next hx'.out (by omega)
            rw [e6]
            exact ho5'.out

theorem below_two (w : World) (a b : Obj) : Below w.heap.size w ((w.alloc a).alloc b) := ((Below.refl _ w).alloc (Nat.le_refl _) _).alloc (by simp) _
def taV (x : Ta) : Value := .agg #[.int .i64 x.k, .string x.t, .int .u64 x.u, .int .i64 x.l, .int .i64 x.c]
def keyT (x : Ta) : Int × ByteArray × Nat := (x.k, x.t, x.u)
def sameB (x y : Ta) : Bool := decide (x.k = y.k) && (decide (x.t = y.t) && decide (x.u = y.u))
theorem sameB_key (x y : Ta) : sameB x y = decide (keyT x = keyT y) := by
  unfold sameB keyT
  rw [Bool.eq_iff_iff]
  simp
theorem bytes_ne {x y : ByteArray} (h : x ≠ y) : (x.toList == y.toList) = false := by
  rw [beq_eq_false_iff_ne]
  intro e
  rw [ByteArray.toList_eq, ByteArray.toList_eq] at e
  exact h (ext_bytes e)
theorem ret_bool {a b : Bool} (h : a = b) : Ending.returned (.bool a) = .returned (.bool b) := by rw [h]
theorem below_drewN {B : Nat} {a w : World} (h : Below B a w) (n : Nat) : Below B a (w.drewN n) := ⟨h.os, h.tape, h.output, h.size, h.block⟩
theorem list_ne_at {α : Type} {X Y : List α} {k : Nat} {x y : α} (hx : X[k]? = some x) (hy : Y[k]? = some y) (h : x ≠ y) : X ≠ Y := by
  rintro rfl
  rw [hx] at hy
  cases hy
  exact h rfl
theorem list_eq_all {α : Type} {X Y : List α} {n : Nat} (hX : X.length = n) (hY : Y.length = n) (h : ∀ i, i < n → X[i]? = Y[i]?) : X = Y := by
  apply List.ext_getElem?
  intro i
  by_cases hi : i < n
  · exact h i hi
  · rw [List.getElem?_eq_none (by omega), List.getElem?_eq_none (by omega)]
set_option maxRecDepth 100000 in
set_option maxHeartbeats 2000000 in
theorem same1_any (x y : Ta) (w : World) : Calls Tryz.prog 48 #[taV x, taV y] w (BoolPost (sameB x y) w) := by
  obtain ⟨xk, xt, xu, xl, xc⟩ := x
  obtain ⟨yk, yt, yu, yl, yc⟩ := y
  unfold taV sameB BoolPost
  dsimp only
  have hb0 := Lib.hid (below_two w (.cells #[.int .i64 xk, .string xt, .int .u64 xu, .int .i64 xl, .int .i64 xc] 48) (.cells #[.int .i64 yk, .string yt, .int .u64 yu, .int .i64 yl, .int .i64 yc] 48))
  by_cases h1 : xk = yk
  · subst h1
    by_cases h2 : xt = yt
    · subst h2
      by_cases h3 : xu = yu
      · subst h3
        go_enter Tryz.func48, Tryz.ntmps48
        go_wp2
        go_ret
        exact ⟨by simp, hb0.out⟩
      · have h3' := Lib.hid h3
        have e3 : ((xu : Int) == (yu : Int)) = false := by simp; omega
        go_enter Tryz.func48, Tryz.ntmps48
        go_wp2
        go_ret
        exact ⟨by simp [h3'.out], hb0.out⟩
    · have h2' := Lib.hid h2
      have e2 := bytes_ne h2
      go_enter Tryz.func48, Tryz.ntmps48
      go_wp2
      go_ret
      exact ⟨by simp [h2'.out], hb0.out⟩
  · have h1' := Lib.hid h1
    have e1 : ((xk : Int) == (yk : Int)) = false := by simpa using h1
    go_enter Tryz.func48, Tryz.ntmps48
    go_wp2
    go_ret
    exact ⟨by simp [h1'.out], hb0.out⟩
/-- what two lists have in common -/
def sameL (L M : List Ta) : Bool := decide (L.map keyT = M.map keyT)
theorem key_at {L : List Ta} {k : Nat} {x : Ta} (h : L[k]? = some x) : (L.map keyT)[k]? = some (keyT x) := by rw [List.getElem?_map, h]; rfl
set_option maxRecDepth 100000 in
set_option maxHeartbeats 2000000 in
theorem equalT_any (A A' : Option Addr) (n c n' c' : Nat) (L M : List Ta) (w : World) (hL : L.length = n) (hM : M.length = n') (ha : TaAt w A L) (hb : TaAt w A' M) (hn : n ≤ 4000000) (hn' : n' ≤ 4000000) :
    Calls Tryz.prog 47 #[.slice A n c, .slice A' n' c', .func (.func 48) #[] #[]] w (BoolPost (sameL L M) w) := by
  have hL' := Lib.hid hL
  have hM' := Lib.hid hM
  have ha' := Lib.hid ha
  have hb' := Lib.hid hb
  clear hL hM ha hb
  by_cases hnn : n = n'
  · subst hnn
    go_enter Tryz.func47, Tryz.ntmps47
    go_wp2_with fail
    go_loopg [17] n (fun g s4 wr => ∃ k : Nat, k + g = n ∧ s4 = .int .i64 k ∧ (∀ i, i < k → (L.map keyT)[i]? = (M.map keyT)[i]?) ∧ Below w.heap.size w wr)
    case atStart => exact ⟨0, by omega, rfl, fun i h => absurd h (by omega), Below.refl _ _⟩
    case round =>
      obtain ⟨k, hkg, rfl, hall, hb⟩ := hrel
      have hall' := Lib.hid hall
      have hbr := Lib.hid hb
      clear hall hb
      cases gk with
      | zero =>
        have e0 : ¬ ((k : Int) < (n : Int)) := by omega
        have hfin := Lib.hid (show L.map keyT = M.map keyT from list_eq_all (n := n) (by rw [List.length_map, hL'.out]) (by rw [List.length_map, hM'.out]) fun i hi => hall'.out i (by omega))
        go_wp2
        go_ret
        exact ⟨ret_bool (by simp [sameL, hfin.out]), hbr.out⟩
      | succ g =>
        have e1 : (k : Int) < (n : Int) := by omega
        obtain ⟨b1, o1, x, rfl, hx, x1, x2, x3, x4, x5⟩ := (ha'.out.below hbr.out).at_ (k := k) (by rw [hL'.out]; omega)
        have hkp := Lib.hid fun (W : World) (h : Below w.heap.size w W) => (hb'.out.below h)
        obtain ⟨b2, o2, y, rfl, hy, y1, y2, y3, y4, y5⟩ := (hb'.out.below ((hbr.out.alloc hbr.out.size (.cells #[.int .i64 x.k, .string x.t, .int .u64 x.u, .int .i64 x.l, .int .i64 x.c] 48)))).at_ (k := k) (by rw [hM'.out]; omega)
        have hx' := Lib.hid hx
        have hy' := Lib.hid hy
        have hk := Lib.hid fun W => same1_any x y W
        obtain ⟨t, ht⟩ : ∃ t, sameB x y = t := ⟨_, rfl⟩
        rw [ht] at hk
        have ht : Hid (decide (keyT x = keyT y) = t) := Lib.hid (by rw [← sameB_key, ht])
        have hsz := hbr.out.size
        obtain ⟨xk, xt, xu, xl, xc⟩ := x
        obtain ⟨yk, yt, yu, yl, yc⟩ := y
        unfold taV at hk
        dsimp only at x1 x2 x3 x4 x5 y1 y2 y3 y4 y5 hk
        clear hx hy
        go_wp2_with fail
        refine (hk.out _).mono ?_
        rintro e w3 ⟨rfl, hb3⟩
        have hb3 := Lib.hid (Below.next ((hbr.out.alloc hbr.out.size _).alloc (by simp; omega) _) hb3)
        cases t
        · have hfin := Lib.hid (show L.map keyT ≠ M.map keyT from list_ne_at (key_at hx'.out) (key_at hy'.out) (of_decide_eq_false ht.out))
          go_wp2
          go_ret
          exact ⟨ret_bool (by simp [sameL, hfin.out]), hb3.out⟩
        · have he := Lib.hid (of_decide_eq_true ht.out)
          go_wp2
          go_roundg g
          case measure => omega
          case rel =>
            refine ⟨k + 1, by omega, by go_num, fun i hi => ?_, hb3.out⟩
            rcases Nat.lt_or_ge i k with h | h
            · exact hall'.out i h
            · obtain rfl : i = k := by omega
              rw [key_at hx'.out, key_at hy'.out, he.out]
  · have hd : ((n : Int) != (n' : Int)) = true := by simp; omega
    have hfin := Lib.hid (show L.map keyT ≠ M.map keyT from fun e => hnn (by rw [← hL'.out, ← hM'.out, ← List.length_map (f := keyT), e, List.length_map]))
    clear hnn
    go_enter Tryz.func47, Tryz.ntmps47
    go_wp2
    go_ret
    exact ⟨ret_bool (by simp [sameL, hfin.out]), Below.refl _ _⟩
set_option maxRecDepth 100000 in
set_option maxHeartbeats 2000000 in
theorem same_any (A A' : Option Addr) (n c n' c' : Nat) (L M : List Ta) (w : World) (hL : L.length = n) (hM : M.length = n') (ha : TaAt w A L) (hb : TaAt w A' M) (hn : n ≤ 4000000) (hn' : n' ≤ 4000000) :
    Calls Tryz.prog 23 #[.slice A n c, .slice A' n' c'] w (BoolPost (sameL L M) w) := by
  have hk := Lib.hid (equalT_any A A' n c n' c' L M w hL hM ha hb hn hn')
  generalize sameL L M = t at hk ⊢
  clear hL hM ha hb
  go_enter Tryz.func23, Tryz.ntmps23
  go_wp2_with fail
  refine hk.out.mono ?_
  rintro e w1 ⟨rfl, hb1⟩
  have hb1 := Lib.hid hb1
  go_wp2
  go_ret
  exact ⟨rfl, hb1.out⟩
set_option maxRecDepth 100000 in
set_option maxHeartbeats 4000000 in
theorem refSame_any (A A' : Option Addr) (n c n' c' : Nat) (L M : List Ta) (w : World) (hL : L.length = n) (hM : M.length = n') (ha : TaAt w A L) (hb : TaAt w A' M) (hn : n ≤ 4000000) (hn' : n' ≤ 4000000) :
    Calls Tryz.prog 24 #[.slice A n c, .slice A' n' c'] w (BoolPost (sameL L M) w) := by
  have hL' := Lib.hid hL
  have hM' := Lib.hid hM
  have ha' := Lib.hid ha
  have hb' := Lib.hid hb
  clear hL hM ha hb
  by_cases hnn : n = n'
  · subst hnn
    go_enter Tryz.func24, Tryz.ntmps24
    go_wp2_with fail
    go_loopg [5] n (fun g s4 wr => ∃ k : Nat, k + g = n ∧ s4 = .int .i64 k ∧ (∀ i, i < k → (L.map keyT)[i]? = (M.map keyT)[i]?) ∧ Below w.heap.size w wr)
    case atStart => exact ⟨0, by omega, rfl, fun i h => absurd h (by omega), Below.refl _ _⟩
    case round =>
      obtain ⟨k, hkg, rfl, hall, hb⟩ := hrel
      have hall' := Lib.hid hall
      have hbr := Lib.hid hb
      clear hall hb
      cases gk with
      | zero =>
        have e0 : ¬ ((k : Int) < (n : Int)) := by omega
        have hfin := Lib.hid (show L.map keyT = M.map keyT from list_eq_all (n := n) (by rw [List.length_map, hL'.out]) (by rw [List.length_map, hM'.out]) fun i hi => hall'.out i (by omega))
        go_wp2
        go_ret
        exact ⟨ret_bool (by simp [sameL, hfin.out]), hbr.out⟩
      | succ g =>
        have e1 : (k : Int) < (n : Int) := by omega
        obtain ⟨b1, o1, x, rfl, hx, x1, x2, x3, x4, x5⟩ := (ha'.out.below hbr.out).at_ (k := k) (by rw [hL'.out]; omega)
        obtain ⟨b2, o2, y, rfl, hy, y1, y2, y3, y4, y5⟩ := (hb'.out.below hbr.out).at_ (k := k) (by rw [hM'.out]; omega)
        have hx' := Lib.hid (key_at hx)
        have hy' := Lib.hid (key_at hy)
        obtain ⟨xk, xt, xu, xl, xc⟩ := x
        obtain ⟨yk, yt, yu, yl, yc⟩ := y
        dsimp only at x1 x2 x3 x4 x5 y1 y2 y3 y4 y5
        clear hx hy
        by_cases hall : xk = yk ∧ xt = yt ∧ xu = yu
        · obtain ⟨rfl, rfl, rfl⟩ := hall
          have d1 : (xk != xk) = false := by simp
          have d2 : (xt.toList != xt.toList) = false := by simp
          have d3 : ((xu : Int) != (xu : Int)) = false := by simp
          go_wp2
          go_quiet (fail)
          go_wp2
          go_roundg g
          case measure => omega
          case rel =>
            refine ⟨k + 1, by omega, by go_num, fun i hi => ?_, below_drewN hbr.out _⟩
            rcases Nat.lt_or_ge i k with h | h
            · exact hall'.out i h
            · obtain rfl : i = k := by omega
              rw [hx'.out, hy'.out]
              rfl
        · have hfin := Lib.hid (show L.map keyT ≠ M.map keyT from list_ne_at hx'.out hy'.out (by intro e; unfold keyT at e; simp only [Prod.mk.injEq] at e; exact hall e))
          by_cases h1 : xk = yk
          · subst h1
            have d1 : (xk != xk) = false := by simp
            by_cases h2 : xt = yt
            · subst h2
              have d2 : (xt.toList != xt.toList) = false := by simp
              have h3 : ¬ xu = yu := fun h => hall ⟨rfl, rfl, h⟩
              have d3 : ((xu : Int) != (yu : Int)) = true := by simp; omega
              clear hall
              go_wp2
              go_quiet (fail)
              go_wp2
              go_ret
              exact ⟨ret_bool (by simp [sameL, hfin.out]), below_drewN hbr.out _⟩
            · have d2b := bytes_ne h2
              have d2 : (xt.toList != yt.toList) = true := by rw [bne, d2b]; rfl
              have d2c : ¬ xt.toList = yt.toList := by simpa using d2b
              clear hall h2
              go_wp2
              go_quiet (fail)
              go_wp2
              go_ret
              exact ⟨ret_bool (by simp [sameL, hfin.out]), below_drewN hbr.out _⟩
          · have d1 : (xk != yk) = true := by simpa using h1
            clear hall h1
            go_wp2
            go_quiet (fail)
            go_wp2
            go_ret
            exact ⟨ret_bool (by simp [sameL, hfin.out]), below_drewN hbr.out _⟩
  · have hd : ((n : Int) != (n' : Int)) = true := by simp; omega
    have hfin := Lib.hid (show L.map keyT ≠ M.map keyT from fun e => hnn (by rw [← hL'.out, ← hM'.out, ← List.length_map (f := keyT), e, List.length_map]))
    clear hnn
    go_enter Tryz.func24, Tryz.ntmps24
    go_wp2
    go_ret
    exact ⟨ret_bool (by simp [sameL, hfin.out]), Below.refl _ _⟩
end Go.Proofs.YtmkfoknhjjgipaaGreatDoor
