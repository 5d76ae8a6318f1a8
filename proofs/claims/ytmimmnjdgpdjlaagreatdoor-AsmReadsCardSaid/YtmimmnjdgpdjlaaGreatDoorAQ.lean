/- The reference's Where and May. -/
import Derived.Test.YtmimmnjdgpdjlaaGreatDoorAP
set_option linter.unusedSimpArgs false
set_option linter.unusedVariables false
namespace Go.Proofs.YtmimmnjdgpdjlaaGreatDoor
open Go.RowKit Go.Lib Go.Shelf

def whI (n : Int) (L : List In) : Int := match whereL n L with | some k => (k : Int) | none => -1
theorem where_hit {n : Int} : ∀ {L : List In} {k : Nat} {i : In}, L[k]? = some i → i.op = 19 → i.lb = n → (∀ (j : Nat) (x : In), j < k → L[j]? = some x → ¬ (x.op = 19 ∧ x.lb = n)) → whereL n L = some k
  | [], k, i, h, _, _, _ => by simp at h
  | y :: L, 0, i, h, h1, h2, _ => by
    obtain rfl : y = i := by simpa using h
    rw [whereL, if_pos ⟨h1, h2⟩]
  | y :: L, k + 1, i, h, h1, h2, hno => by
    have ih := where_hit (L := L) (k := k) (by simpa using h) h1 h2 fun j x hj hx => hno (j + 1) x (by omega) (by simpa using hx)
    rw [whereL, if_neg (hno 0 y (by omega) rfl), ih]
    rfl
theorem where_end {n : Int} : ∀ {L : List In}, (∀ (j : Nat) (x : In), L[j]? = some x → ¬ (x.op = 19 ∧ x.lb = n)) → whereL n L = none
  | [], _ => rfl
  | y :: L, hno => by
    have ih := where_end (L := L) fun j x hx => hno (j + 1) x (by simpa using hx)
    rw [whereL, if_neg (hno 0 y rfl), ih]
    rfl
set_option maxRecDepth 100000 in
set_option maxHeartbeats 8000000 in
theorem where62_any (L : List In) (A : Option Addr) (c : Nat) (lab : Int) (w : World) (hL : InsAt w L A) (hlen : L.length ≤ 2000000) :
    Calls Tryz.prog 62 #[.slice A L.length c, .int .i64 lab] w fun e w' => e = .returned (.int .i64 (whI lab L)) ∧ w = w' := by
  obtain ⟨n, hnn⟩ : ∃ n, L.length = n := ⟨_, rfl⟩
  rw [hnn] at hlen ⊢
  have hn' := Lib.hid hnn
  have hL := Lib.hid hL
  have hhit := Lib.hid (fun (k : Nat) (i : In) (h : L[k]? = some i) (h1 : i.op = 19) (h2 : i.lb = lab) (hno : ∀ (j : Nat) (x : In), j < k → L[j]? = some x → ¬ (x.op = 19 ∧ x.lb = lab)) => (show (k : Int) = whI lab L by unfold whI; rw [where_hit h h1 h2 hno]))
  have hend := Lib.hid (fun (hno : ∀ (j : Nat) (x : In), L[j]? = some x → ¬ (x.op = 19 ∧ x.lb = lab)) => (show (-1 : Int) = whI lab L by unfold whI; rw [where_end hno]))
  obtain ⟨R, hR⟩ : ∃ R, whI lab L = R := ⟨_, rfl⟩
  rw [hR] at hhit hend ⊢
  clear hnn hR
  go_enter Tryz.func62, Tryz.ntmps62
  go_wp2_with fail
  go_loopg [5] n (fun g s5 wr => ∃ k : Nat, k + g = n ∧ s5 = .int .i64 k ∧ w = wr ∧ ∀ (j : Nat) (x : In), j < k → L[j]? = some x → ¬ (x.op = 19 ∧ x.lb = lab))
  case atStart => exact ⟨0, by omega, rfl, rfl, fun j x hj => absurd hj (by omega)⟩
  case round =>
    obtain ⟨k, hkg, rfl, hw, hno⟩ := hrel
    subst hw
    have hno := Lib.hid hno
    cases gk with
    | zero =>
      have e0 : ¬ ((k : Int) < (n : Int)) := by omega
      have hfin := Lib.hid (hend.out fun j x hx => hno.out j x (by have := (List.getElem?_eq_some_iff.1 hx).1; rw [hn'.out] at this; omega) hx)
      go_wp2
      go_ret
      exact ⟨congrArg (fun z => Ending.returned (Value.int .i64 z)) hfin.out, rfl⟩
    | succ g =>
      have e0 : (k : Int) < (n : Int) := by omega
      obtain ⟨blk, off, i, rfl, hx, hcx⟩ := hL.out.at_ (i := k) (by rw [hn'.out]; omega)
      obtain ⟨v0, v1, v2, v3, v4, v5, v6, v7, v8, v9, v10, v11, v12⟩ := row_at (Below.refl _ w) hcx
      have hst := Lib.hid (fun (h : ¬ (i.op = 19 ∧ i.lb = lab)) (j : Nat) (x : In) (hj : j < k + 1) (hxj : L[j]? = some x) => (show ¬ (x.op = 19 ∧ x.lb = lab) from by
        rcases Nat.lt_or_ge j k with h1 | h1
        · exact hno.out j x h1 hxj
        · obtain rfl : j = k := by omega
          rw [hx] at hxj
          obtain rfl := Option.some.inj hxj
          exact h))
      have hh := Lib.hid (fun h1 h2 => hhit.out k i hx h1 h2 hno.out)
      clear hx hcx
      by_cases e19 : i.op = 19
      · have e19' : (i.op == 19) = true := by simp [e19]
        by_cases elb : i.lb = lab
        · have elb' : (i.lb == lab) = true := by simp [elb]
          have hfin := Lib.hid (hh.out e19 elb)
          clear e19 elb
          go_wp2
          go_ret
          exact ⟨congrArg (fun z => Ending.returned (Value.int .i64 z)) hfin.out, rfl⟩
        · have elb' : (i.lb == lab) = false := by simp [elb]
          have hfin := Lib.hid (hst.out fun h => elb h.2)
          clear e19 elb
          go_wp2
          go_roundg g
          case measure => omega
          case rel => exact ⟨k + 1, by omega, by go_num, rfl, hfin.out⟩
      · have e19' : (i.op == 19) = false := by simp [e19]
        have hfin := Lib.hid (hst.out fun h => e19 h.1)
        clear e19
        go_wp2
        go_roundg g
        case measure => omega
        case rel => exact ⟨k + 1, by omega, by go_num, rfl, hfin.out⟩
/-- what the reference's May asks of an instruction -/
def okAt (L : List In) (k : Nat) (i : In) : Prop := mayB i = true ∧ (i.op = 19 → whereL i.lb L = some k) ∧ ((i.op = 17 ∨ i.op = 18) → whereL i.lb L ≠ none)
theorem okAt_of {L : List In} (h : mayAll L = true) {k : Nat} {i : In} (hx : L[k]? = some i) : okAt L k i := by
  obtain ⟨h1, h2, h3⟩ := mayAll_parts h
  obtain ⟨h4, h5⟩ := h3 i (List.mem_of_getElem? hx)
  refine ⟨h4, fun e => where_at h2 hx e, fun e hn => ?_⟩
  unfold needB at h5
  have hd : (decide (i.op = 17) || decide (i.op = 18)) = true := by simpa using e
  rw [hd] at h5
  exact where_none.1 hn (by simpa using h5)
theorem may_of_ok {L : List In} (hl : L.length ≤ 1048576) (h : ∀ (k : Nat) (i : In), L[k]? = some i → okAt L k i) : mayAll L = true := by
  refine mayAll_yes hl (nodup_where fun k i hx h19 => (h k i hx).2.1 h19) fun i hi => ?_
  obtain ⟨k, hx⟩ := List.getElem?_of_mem hi
  refine ⟨(h k i hx).1, ?_⟩
  unfold needB
  by_cases e : i.op = 17 ∨ i.op = 18
  · have h1 := (h k i hx).2.2 e
    have h2 : i.lb ∈ labsL L := by
      by_cases hm : i.lb ∈ labsL L
      · exact hm
      · exact absurd (where_none.2 hm) h1
    simp [h2]
  · have hd : (decide (i.op = 17) || decide (i.op = 18)) = false := by simpa using e
    rw [hd]
    rfl
set_option maxRecDepth 100000 in
set_option maxHeartbeats 8000000 in
theorem rmay28_any (L : List In) (A : Option Addr) (c : Nat) (w : World) (hL : InsAt w L A) (hF : ∀ i ∈ L, Fit i) (hlen : L.length ≤ 2000000) :
    Calls Tryz.prog 28 #[.slice A L.length c] w (BoolPost (mayAll L) w) := by
  obtain ⟨n, hnn⟩ : ∃ n, L.length = n := ⟨_, rfl⟩
  have hwh := fun (A : Option Addr) (c : Nat) (lab : Int) W (h : InsAt W L A) => where62_any L A c lab W h hlen
  have hbig := Lib.hid (fun h : 1048576 < L.length => mayAll_long h)
  have hok := Lib.hid (fun k i (hx : L[k]? = some i) (h : ¬ okAt L k i) => (show mayAll L = false by
    cases hm : mayAll L with
    | false => rfl
    | true => exact absurd (okAt_of hm hx) h))
  have hyes := Lib.hid (fun (h1 : L.length ≤ 1048576) (h : ∀ (k : Nat) (i : In), L[k]? = some i → okAt L k i) => may_of_ok h1 h)
  obtain ⟨mv, hmv⟩ : ∃ mv, mayAll L = mv := ⟨_, rfl⟩
  rw [hmv] at hbig hok hyes ⊢
  rw [hnn] at hlen hwh hbig hyes ⊢
  have hn' := Lib.hid hnn
  have hL := Lib.hid hL
  have hF := Lib.hid hF
  have hwh := Lib.hid hwh
  clear hnn hmv
  by_cases hb0 : 1048576 < n
  · have e0 : (1048576 : Int) < (n : Int) := by omega
    have hfin := Lib.hid (hbig.out hb0)
    go_enter Tryz.func28, Tryz.ntmps28
    go_wp2
    go_ret
    exact ⟨ret_bool hfin.out.symm, Below.refl _ _⟩
  have e00 : ¬ (1048576 : Int) < (n : Int) := by omega
  have hle := Lib.hid (show n ≤ 1048576 by omega)
  clear hb0
  go_enter Tryz.func28, Tryz.ntmps28
  go_wp2_with fail
  clear e00
  go_loopg [3] n (fun g s3 wr => ∃ k : Nat, k + g = n ∧ s3 = .int .i64 k ∧ Below w.heap.size w wr ∧ ∀ (j : Nat) (x : In), j < k → L[j]? = some x → okAt L j x)
  case atStart => exact ⟨0, by omega, rfl, Below.refl _ _, fun j x hj => absurd hj (by omega)⟩
  case round =>
    obtain ⟨k, hkg, rfl, hb, hall⟩ := hrel
    have hb := Lib.hid hb
    have hall := Lib.hid hall
    cases gk with
    | zero =>
      have e0 : ¬ ((k : Int) < (n : Int)) := by omega
      have hfin := Lib.hid (hyes.out hle.out fun j x hx => hall.out j x (by have := (List.getElem?_eq_some_iff.1 hx).1; rw [hn'.out] at this; omega) hx)
      go_wp2
      go_ret
      exact ⟨ret_bool hfin.out.symm, hb.out⟩
    | succ g =>
      have e0 : (k : Int) < (n : Int) := by omega
      obtain ⟨blk, off, i, rfl, hx, hcx⟩ := hL.out.at_ (i := k) (by rw [hn'.out]; omega)
      have hrow := Lib.hid (fun W (h : Below w.heap.size w W) => row_at h hcx)
      have hmo := fun W => rmayOne_any i (hF.out i (List.mem_of_getElem? hx)) W
      have hbad := Lib.hid (hok.out k i hx)
      have hst := Lib.hid (fun (h : okAt L k i) (j : Nat) (x : In) (hj : j < k + 1) (hxj : L[j]? = some x) => (show okAt L j x from by
        rcases Nat.lt_or_ge j k with h1 | h1
        · exact hall.out j x h1 hxj
        · obtain rfl : j = k := by omega
          rw [hx] at hxj
          obtain rfl := Option.some.inj hxj
          exact h))
      unfold BoolPost inV inC at hmo
      obtain ⟨mb, hmb⟩ : ∃ mb, mayB i = mb := ⟨_, rfl⟩
      rw [hmb] at hmo
      have hmb := Lib.hid hmb
      have hmo := Lib.hid hmo
      have hLk := Lib.hid (fun W (h : Below w.heap.size w W) => hL.out.keep h)
      have hwl := Lib.hid (fun W (h : Below w.heap.size w W) => hwh.out _ c i.lb W (hLk.out W h))
      clear hx hcx
      obtain ⟨v0, v1, v2, v3, v4, v5, v6, v7, v8, v9, v10, v11, v12⟩ := hrow.out _ hb.out
      go_wp2_with fail
      refine (hmo.out _).mono ?_
      rintro e w2 ⟨rfl, hb2⟩
      have hb := Lib.hid (Below.next hb.out hb2)
      clear hb2 v0 v1 v2 v3 v4 v5 v6 v7 v8 v9 v10 v11 v12
      cases mb with
      | false =>
        have hfin := Lib.hid (hbad.out fun h => by have h1 := h.1; rw [hmb.out] at h1; cases h1)
        go_wp2
        go_ret
        exact ⟨ret_bool hfin.out.symm, hb.out⟩
      | true =>
        obtain ⟨v0, v1, v2, v3, v4, v5, v6, v7, v8, v9, v10, v11, v12⟩ := hrow.out _ hb.out
        by_cases e19 : i.op = 19
        · have e19' : (i.op == 19) = true := by simp [e19]
          have e17' : (i.op == 17) = false := by simp [e19]
          have e18' : (i.op == 18) = false := by simp [e19]
          have e1 : i.op ≠ 17 := by omega
          have e2 : i.op ≠ 18 := by omega
          have hok19 := Lib.hid (fun (h : whereL i.lb L = some k) => (show okAt L k i from ⟨hmb.out, fun _ => h, fun h => absurd h (by omega)⟩))
          have hno19 := Lib.hid (fun (h : whereL i.lb L ≠ some k) => (show ¬ okAt L k i from fun h2 => h (h2.2.1 e19)))
          clear e19 e1 e2
          by_cases hw : whereL i.lb L = some k
          · have hwi : (whI i.lb L != (k : Int)) = false := by unfold whI; rw [hw]; simp
            have hfin := Lib.hid (hst.out (hok19.out hw))
            clear hw
            generalize whI i.lb L = z at hwl hwi
            go_wp2_with fail
            refine (hwl.out _ hb.out).mono ?_
            rintro e w3 ⟨rfl, rfl⟩
            go_wp2
            go_roundg g
            case measure => omega
            case rel => exact ⟨k + 1, by omega, by go_num, hb.out, hfin.out⟩
          · have hwi : (whI i.lb L != (k : Int)) = true := by
              unfold whI
              cases hq : whereL i.lb L with
              | none => first | (simp; done) | (simp; omega)
              | some k' =>
                have : k' ≠ k := fun e => hw (by rw [hq, e])
                first | (simp; done) | (simp; omega) | simp [this]
            have hfin := Lib.hid (hbad.out (hno19.out hw))
            clear hw
            generalize whI i.lb L = z at hwl hwi
            go_wp2_with fail
            refine (hwl.out _ hb.out).mono ?_
            rintro e w3 ⟨rfl, rfl⟩
            go_wp2
            go_ret
            exact ⟨ret_bool hfin.out.symm, hb.out⟩
        by_cases e17 : i.op = 17
        · have e19' : (i.op == 19) = false := by simp [e17]
          have e17' : (i.op == 17) = true := by simp [e17]
          have e18' : (i.op == 18) = false := by simp [e17]
          have hokj := Lib.hid (fun (h : whereL i.lb L ≠ none) => (show okAt L k i from ⟨hmb.out, fun h => absurd h (by omega), fun _ => h⟩))
          have hnoj := Lib.hid (fun (h : whereL i.lb L = none) => (show ¬ okAt L k i from fun h2 => h2.2.2 (by omega) h))
          clear e17 e19
          cases hq : whereL i.lb L with
          | none =>
            have hwi : whI i.lb L = -1 := by unfold whI; rw [hq]
            have hfin := Lib.hid (hbad.out (hnoj.out hq))
            clear hq
            rw [hwi] at hwl
            clear hwi
            go_wp2_with fail
            refine (hwl.out _ hb.out).mono ?_
            rintro e w3 ⟨rfl, rfl⟩
            go_wp2
            go_ret
            exact ⟨ret_bool hfin.out.symm, hb.out⟩
          | some k' =>
            have hwi : whI i.lb L = (k' : Int) := by unfold whI; rw [hq]
            have hlt : ¬ (k' : Int) < 0 := by omega
            have hfin := Lib.hid (hst.out (hokj.out (by rw [hq]; simp)))
            clear hq
            rw [hwi] at hwl
            clear hwi
            go_wp2_with fail
            refine (hwl.out _ hb.out).mono ?_
            rintro e w3 ⟨rfl, rfl⟩
            go_wp2
            go_roundg g
            case measure => omega
            case rel => exact ⟨k + 1, by omega, by go_num, hb.out, hfin.out⟩
        by_cases e18 : i.op = 18
        · have e19' : (i.op == 19) = false := by simp [e18]
          have e18' : (i.op == 18) = true := by simp [e18]
          have e17' : (i.op == 17) = false := by simp [e18]
          have hokj := Lib.hid (fun (h : whereL i.lb L ≠ none) => (show okAt L k i from ⟨hmb.out, fun h => absurd h (by omega), fun _ => h⟩))
          have hnoj := Lib.hid (fun (h : whereL i.lb L = none) => (show ¬ okAt L k i from fun h2 => h2.2.2 (by omega) h))
          clear e18 e19 e17
          cases hq : whereL i.lb L with
          | none =>
            have hwi : whI i.lb L = -1 := by unfold whI; rw [hq]
            have hfin := Lib.hid (hbad.out (hnoj.out hq))
            clear hq
            rw [hwi] at hwl
            clear hwi
            go_wp2_with fail
            refine (hwl.out _ hb.out).mono ?_
            rintro e w3 ⟨rfl, rfl⟩
            go_wp2
            go_ret
            exact ⟨ret_bool hfin.out.symm, hb.out⟩
          | some k' =>
            have hwi : whI i.lb L = (k' : Int) := by unfold whI; rw [hq]
            have hlt : ¬ (k' : Int) < 0 := by omega
            have hfin := Lib.hid (hst.out (hokj.out (by rw [hq]; simp)))
            clear hq
            rw [hwi] at hwl
            clear hwi
            go_wp2_with fail
            refine (hwl.out _ hb.out).mono ?_
            rintro e w3 ⟨rfl, rfl⟩
            go_wp2
            go_roundg g
            case measure => omega
            case rel => exact ⟨k + 1, by omega, by go_num, hb.out, hfin.out⟩
        have e19' : (i.op == 19) = false := by simp [e19]
        have e17' : (i.op == 17) = false := by simp [e17]
        have e18' : (i.op == 18) = false := by simp [e18]
        have hfin := Lib.hid (hst.out ⟨hmb.out, fun h => absurd h e19, fun h => absurd h (by omega)⟩)
        clear e19 e17 e18
        go_wp2
        go_roundg g
        case measure => omega
        case rel => exact ⟨k + 1, by omega, by go_num, hb.out, hfin.out⟩
end Go.Proofs.YtmimmnjdgpdjlaaGreatDoor
