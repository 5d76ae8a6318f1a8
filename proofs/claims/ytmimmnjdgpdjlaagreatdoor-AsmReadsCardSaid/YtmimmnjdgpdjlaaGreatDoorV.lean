/- An address' text: the program's and the reference's. -/
import Derived.Test.YtmimmnjdgpdjlaaGreatDoorH6
import Derived.Test.YtmimmnjdgpdjlaaGreatDoorI
import Derived.Test.YtmimmnjdgpdjlaaGreatDoorL3
set_option linter.unusedSimpArgs false
set_option linter.unusedVariables false
namespace Go.Proofs.YtmimmnjdgpdjlaaGreatDoor
open Go.RowKit Go.Lib Go.Shelf

theorem mayB_addr (ba ix : Int) (hb hi : Bool) (dp : Int) : mayB ⟨3, 0, 0, 0, 0, 0, 0, ba, ix, hb, hi, dp, 0⟩ = addrB ba ix hb hi dp := by
  rw [mayB_ref]
  generalize addrB ba ix hb hi dp = ad
  have h : rq8 (has (maskP 3) 8) (has (maskP 3) 128) ad ba ix hb hi dp 0 = !ad := by
    unfold rq8
    rw [show has (maskP 3) 8 = true from rfl, show has (maskP 3) 128 = false from rfl]
    cases ad <;> simp [noN]
  rw [h]
  cases ad <;> rfl
def addrS (ba ix : Int) (hb hi : Bool) (dp : Int) : List UInt8 := if addrB ba ix hb hi dp then addrT ba ix hb hi dp else []
theorem fmtI (n : Int) (h0 : -9223372036854775808 ≤ n) (h1 : n ≤ 9223372036854775807) (w : World) (hE : Env w) : Calls Tryz.prog 45 #[.int .i64 n, .int .i64 10] w (StrPost (bt (Lib.itoa n)) w) :=
  (show Calls Tryz.prog 45 #[.int .i64 n, .int .i64 10] w fun e w' => e = .returned (.string (bt (Lib.itoa n))) ∧ ∃ k os, w' = Go.Sort.grow (w.drewN k) os from Tryz.strconv_FormatInt_10 n h0 h1 w hE.tab).mono fun e w' ⟨he, k, os, hw⟩ => ⟨he, by rw [hw]; exact below_grown⟩
theorem regT_len (r : Int) : (bt (regT r)).size ≤ 11 := by rw [bt_size]; unfold regT; have := regW_le r; simp; omega
theorem ret_str {a b : ByteArray} (h : a.data.toList = b.data.toList) : Ending.returned (.string a) = .returned (.string b) := by rw [ext_bytes h]
set_option maxRecDepth 100000 in
set_option maxHeartbeats 8000000 in
theorem addr22_any (ba ix : Int) (hb hi : Bool) (dp : Int) (h0 : -9223372036854775808 ≤ dp) (h1 : dp ≤ 9223372036854775807) (w : World) (hE : Env w) : Calls Tryz.prog 22 #[adV ba ix hb hi dp] w (StrPost (bt (addrS ba ix hb hi dp)) w) := by
  obtain ⟨W1, hW1⟩ : ∃ W1, w.alloc (.cells #[.int .i64 ba, .int .i64 ix, .bool hb, .bool hi, .int .i64 dp] 30) = W1 := ⟨_, rfl⟩
  have hb1 : Below w.heap.size w W1 := by rw [← hW1]; exact below_new w _
  have hx1 := Lib.hid (show W1.heap[w.heap.size]? = some (.cells #[.int .i64 ba, .int .i64 ix, .bool hb, .bool hi, .int .i64 dp] 30 (0, 0)) from by rw [← hW1]; exact heap_alloc_new _ _)
  have hm := mayOne_any ⟨3, 0, 0, 0, 0, 0, 0, ba, ix, hb, hi, dp, 0⟩ ⟨by dsimp only; omega, h0, h1⟩ W1
  rw [mayB_addr] at hm
  unfold BoolPost inV inC at hm
  unfold addrS adV
  have hf := Lib.hid (fun W hE => fmtI dp h0 h1 W hE)
  have hE1 := Lib.hid (hE.below hb1)
  have hsz : (bt (Lib.itoa dp)).size ≤ 30 := by rw [bt_size]; have := itoa_len dp h0 h1; omega
  have hW1' := Lib.hid hW1
  have hb1' := Lib.hid hb1
  obtain ⟨s, hs⟩ : ∃ s, bt (Lib.itoa dp) = s := ⟨_, rfl⟩
  unfold StrPost at hf
  rw [hs] at hf hsz
  have hs' := Lib.hid hs
  obtain ⟨ad, had⟩ : ∃ ad, addrB ba ix hb hi dp = ad := ⟨_, rfl⟩
  rw [had] at hm ⊢
  obtain ⟨g0, g1, g2, g3, g4⟩ := box5 hx1.out
  have hm' := Lib.hid hm
  clear hm hW1 hb1 hs h0 h1 hE
  cases ad with
  | false =>
    clear had
    go_enter Tryz.func22, Tryz.ntmps22
    go_wp2_with fail
    rw [hW1'.out]
    refine hm'.out.mono ?_
    rintro e w2 ⟨rfl, hb2⟩
    have hfin := Lib.hid (Below.next hb1'.out hb2)
    clear hb2 g0 g1 g2 g3 g4
    go_wp2
    go_ret
    exact ⟨rfl, hfin.out⟩
  | true =>
    obtain ⟨p1, p2, p3, p4, p5, p6⟩ := addr_parts had
    have hr1 := Lib.hid (fun (W : World) (hE : Env W) => reg46_any ba (by omega) W hE)
    have hr2 := Lib.hid (fun (W : World) (hE : Env W) => reg46_any ix (by omega) W hE)
    have l1 := regT_len ba
    have l2 := regT_len ix
    rw [if_pos rfl]
    unfold addrT
    obtain ⟨x1, hx1''⟩ : ∃ s, bt (regT ba) = s := ⟨_, rfl⟩
    obtain ⟨x2, hx2''⟩ : ∃ s, bt (regT ix) = s := ⟨_, rfl⟩
    unfold StrPost at hr1 hr2
    rw [hx1''] at hr1 l1
    rw [hx2''] at hr2 l2
    have hX1 := Lib.hid (show x1.data.toList = regT ba from by rw [← hx1'']; rfl)
    have hX2 := Lib.hid (show x2.data.toList = regT ix from by rw [← hx2'']; rfl)
    have hS0 := Lib.hid (show s.data.toList = Lib.itoa dp from by rw [← hs'.out]; rfl)
    clear hx1'' hx2'' had p1 p2 p3 p4 p5 p6
    have hd : (dp == 0) = true ∧ (if dp = 0 then ([] : List UInt8) else Lib.itoa dp) = [] ∨ (dp == 0) = false ∧ (if dp = 0 then ([] : List UInt8) else Lib.itoa dp) = Lib.itoa dp := by
      by_cases h : dp = 0
      · exact .inl ⟨by simpa using h, if_pos h⟩
      · exact .inr ⟨by simpa using h, if_neg h⟩
    rcases hd with ⟨hd1, hd2⟩ | ⟨hd1, hd2⟩ <;> rw [hd2] <;> clear hd2 <;> cases hb <;> cases hi
    all_goals (
      go_enter Tryz.func22, Tryz.ntmps22
      go_wp2_with fail
      rw [hW1'.out]
      refine hm'.out.mono ?_
      rintro e w2 ⟨rfl, hb2⟩
      have hx2 := Lib.hid ((hb2.block _ (blk_lt hx1.out)).trans hx1.out)
      have hE2 := Lib.hid (hE1.out.below hb2)
      have hb := Lib.hid (Below.next hb1'.out hb2)
      clear hb2 g0 g1 g2 g3 g4
      obtain ⟨g0, g1, g2, g3, g4⟩ := box5 hx2.out
      go_wp2_with fail
      refine (hf.out _ hE2.out).mono ?_
      rintro e w3 ⟨rfl, hb3⟩
      have hx2 := Lib.hid ((hb3.block _ (blk_lt hx2.out)).trans hx2.out)
      have hE2 := Lib.hid (hE2.out.below hb3)
      have hb := Lib.hid (Below.next hb.out hb3)
      clear hb3 g0 g1 g2 g3 g4
      obtain ⟨g0, g1, g2, g3, g4⟩ := box5 hx2.out
      go_wp2_with ((go_at_call 46; first
        | (with_reducible refine (hr1.out _ hE2.out).mono ?_)
        | (with_reducible refine (hr2.out _ hE2.out).mono ?_)); rintro e w4 ⟨rfl, hb4⟩; have hx2 := Lib.hid ((hb4.block _ (blk_lt hx2.out)).trans hx2.out); have hE2 := Lib.hid (hE2.out.below hb4); have hb := Lib.hid (Below.next hb.out hb4); clear hb4 g0 g1 g2 g3 g4; obtain ⟨g0, g1, g2, g3, g4⟩ := box5 hx2.out)
      go_ret
      exact ⟨ret_str (by simp [bt, hX1.out, hX2.out, hS0.out]), hb.out⟩)
set_option maxRecDepth 100000 in
set_option maxHeartbeats 8000000 in
theorem raddr23_any (ba ix : Int) (hb hi : Bool) (dp : Int) (h0 : -9223372036854775808 ≤ dp) (h1 : dp ≤ 9223372036854775807) (w : World) (hE : Env w) : Calls Tryz.prog 23 #[adV ba ix hb hi dp] w (StrPost (bt (addrS ba ix hb hi dp)) w) := by
  obtain ⟨W1, hW1⟩ : ∃ W1, w.alloc (.cells #[.int .i64 ba, .int .i64 ix, .bool hb, .bool hi, .int .i64 dp] 30) = W1 := ⟨_, rfl⟩
  have hb1 : Below w.heap.size w W1 := by rw [← hW1]; exact below_new w _
  have hx1 := Lib.hid (show W1.heap[w.heap.size]? = some (.cells #[.int .i64 ba, .int .i64 ix, .bool hb, .bool hi, .int .i64 dp] 30 (0, 0)) from by rw [← hW1]; exact heap_alloc_new _ _)
  have hm := rmayOne_any ⟨3, 0, 0, 0, 0, 0, 0, ba, ix, hb, hi, dp, 0⟩ ⟨by dsimp only; omega, h0, h1⟩ W1
  rw [mayB_addr] at hm
  unfold BoolPost inV inC at hm
  unfold addrS adV
  have hf := Lib.hid (fun W hE => fmtI dp h0 h1 W hE)
  have hE1 := Lib.hid (hE.below hb1)
  have hsz : (bt (Lib.itoa dp)).size ≤ 30 := by rw [bt_size]; have := itoa_len dp h0 h1; omega
  have hW1' := Lib.hid hW1
  have hb1' := Lib.hid hb1
  obtain ⟨s, hs⟩ : ∃ s, bt (Lib.itoa dp) = s := ⟨_, rfl⟩
  unfold StrPost at hf
  rw [hs] at hf hsz
  have hs' := Lib.hid hs
  obtain ⟨ad, had⟩ : ∃ ad, addrB ba ix hb hi dp = ad := ⟨_, rfl⟩
  rw [had] at hm ⊢
  obtain ⟨g0, g1, g2, g3, g4⟩ := box5 hx1.out
  have hm' := Lib.hid hm
  clear hm hW1 hb1 hs h0 h1 hE
  cases ad with
  | false =>
    clear had
    go_enter Tryz.func23, Tryz.ntmps23
    go_wp2_with fail
    rw [hW1'.out]
    refine hm'.out.mono ?_
    rintro e w2 ⟨rfl, hb2⟩
    have hfin := Lib.hid (Below.next hb1'.out hb2)
    clear hb2 g0 g1 g2 g3 g4
    go_wp2
    go_ret
    exact ⟨rfl, hfin.out⟩
  | true =>
    obtain ⟨p1, p2, p3, p4, p5, p6⟩ := addr_parts had
    have hr1 := Lib.hid (fun (W : World) (hE : Env W) => rreg47_any ba (by omega) W)
    have hr2 := Lib.hid (fun (W : World) (hE : Env W) => rreg47_any ix (by omega) W)
    have l1 := regT_len ba
    have l2 := regT_len ix
    rw [if_pos rfl]
    unfold addrT
    obtain ⟨x1, hx1''⟩ : ∃ s, bt (regT ba) = s := ⟨_, rfl⟩
    obtain ⟨x2, hx2''⟩ : ∃ s, bt (regT ix) = s := ⟨_, rfl⟩
    unfold StrPost at hr1 hr2
    rw [hx1''] at hr1 l1
    rw [hx2''] at hr2 l2
    have hX1 := Lib.hid (show x1.data.toList = regT ba from by rw [← hx1'']; rfl)
    have hX2 := Lib.hid (show x2.data.toList = regT ix from by rw [← hx2'']; rfl)
    have hS0 := Lib.hid (show s.data.toList = Lib.itoa dp from by rw [← hs'.out]; rfl)
    clear hx1'' hx2'' had p1 p2 p3 p4 p5 p6
    have hd : (dp == 0) = true ∧ (if dp = 0 then ([] : List UInt8) else Lib.itoa dp) = [] ∨ (dp == 0) = false ∧ (if dp = 0 then ([] : List UInt8) else Lib.itoa dp) = Lib.itoa dp := by
      by_cases h : dp = 0
      · exact .inl ⟨by simpa using h, if_pos h⟩
      · exact .inr ⟨by simpa using h, if_neg h⟩
    rcases hd with ⟨hd1, hd2⟩ | ⟨hd1, hd2⟩ <;> rw [hd2] <;> clear hd2 <;> cases hb <;> cases hi
    all_goals (
      go_enter Tryz.func23, Tryz.ntmps23
      go_wp2_with fail
      rw [hW1'.out]
      refine hm'.out.mono ?_
      rintro e w2 ⟨rfl, hb2⟩
      have hx2 := Lib.hid ((hb2.block _ (blk_lt hx1.out)).trans hx1.out)
      have hE2 := Lib.hid (hE1.out.below hb2)
      have hb := Lib.hid (Below.next hb1'.out hb2)
      clear hb2 g0 g1 g2 g3 g4
      obtain ⟨g0, g1, g2, g3, g4⟩ := box5 hx2.out
      go_wp2_with fail
      refine (hf.out _ hE2.out).mono ?_
      rintro e w3 ⟨rfl, hb3⟩
      have hx2 := Lib.hid ((hb3.block _ (blk_lt hx2.out)).trans hx2.out)
      have hE2 := Lib.hid (hE2.out.below hb3)
      have hb := Lib.hid (Below.next hb.out hb3)
      clear hb3 g0 g1 g2 g3 g4
      obtain ⟨g0, g1, g2, g3, g4⟩ := box5 hx2.out
      go_wp2_with ((go_at_call 47; first
        | (with_reducible refine (hr1.out _ hE2.out).mono ?_)
        | (with_reducible refine (hr2.out _ hE2.out).mono ?_)); rintro e w4 ⟨rfl, hb4⟩; have hx2 := Lib.hid ((hb4.block _ (blk_lt hx2.out)).trans hx2.out); have hE2 := Lib.hid (hE2.out.below hb4); have hb := Lib.hid (Below.next hb.out hb4); clear hb4 g0 g1 g2 g3 g4; obtain ⟨g0, g1, g2, g3, g4⟩ := box5 hx2.out)
      go_ret
      exact ⟨ret_str (by simp [bt, hX1.out, hX2.out, hS0.out]), hb.out⟩)
end Go.Proofs.YtmimmnjdgpdjlaaGreatDoor
