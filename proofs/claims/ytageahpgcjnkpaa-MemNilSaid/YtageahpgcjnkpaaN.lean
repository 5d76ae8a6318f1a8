/- The law's known rows hold. -/
import Derived.Test.YtageahpgcjnkpaaK2
set_option linter.unusedSimpArgs false
set_option linter.unusedVariables false
namespace Go.Proofs.Ytageahpgcjnkpaa
open Go.RowKit

theorem region_lit (nm : ByteArray) (a s : Int) (w : World) : Calls Try.prog 36 #[.string nm, .int .i64 a, .int .i64 s] w fun e w' =>
    e = .returned (.agg #[.string nm, .int .i64 a, .int .i64 s, .bool false]) ∧ Below w.heap.size w w' := region_any nm a s w
theorem regs_lit1 (w : World) (r : Reg) (hw : r.Wf) : RegsAt (w.alloc (.cells #[.string r.name, .int .i64 r.addr, .int .i64 r.size, .bool r.sec] 67)) (w.alloc (.cells #[.string r.name, .int .i64 r.addr, .int .i64 r.size, .bool r.sec] 67)).heap.size (some ⟨w.heap.size, 0, none⟩) 1 [r] := by
  refine ⟨rfl, by simpa using hw, fun _ => ⟨w.heap.size, 0, rfl, by simp, fun i r' h => ?_⟩⟩
  have h0 : i < 1 := (List.getElem?_eq_some_iff.1 h).1
  obtain rfl : i = 0 := by omega
  cases h
  have hh := heap_alloc_new w (.cells #[.string r.name, .int .i64 r.addr, .int .i64 r.size, .bool r.sec] 67)
  exact ⟨by rw [blk_cell hh]; rfl, by rw [blk_cell hh]; rfl, by rw [blk_cell hh]; rfl, by rw [blk_cell hh]; rfl⟩
theorem regs_lit2 (w : World) (r s : Reg) (hr : r.Wf) (hs : s.Wf) : RegsAt (w.alloc (.cells #[.string r.name, .int .i64 r.addr, .int .i64 r.size, .bool r.sec, .string s.name, .int .i64 s.addr, .int .i64 s.size, .bool s.sec] 67)) (w.alloc (.cells #[.string r.name, .int .i64 r.addr, .int .i64 r.size, .bool r.sec, .string s.name, .int .i64 s.addr, .int .i64 s.size, .bool s.sec] 67)).heap.size (some ⟨w.heap.size, 0, none⟩) 2 [r, s] := by
  refine ⟨rfl, by simp [hr, hs], fun _ => ⟨w.heap.size, 0, rfl, by simp, fun i r' h => ?_⟩⟩
  have h0 : i < 2 := (List.getElem?_eq_some_iff.1 h).1
  have hh := heap_alloc_new w (.cells #[.string r.name, .int .i64 r.addr, .int .i64 r.size, .bool r.sec, .string s.name, .int .i64 s.addr, .int .i64 s.size, .bool s.sec] 67)
  have h1 : i = 0 ∨ i = 1 := by omega
  rcases h1 with rfl | rfl
  · cases h
    exact ⟨by rw [blk_cell hh]; rfl, by rw [blk_cell hh]; rfl, by rw [blk_cell hh]; rfl, by rw [blk_cell hh]; rfl⟩
  · cases h
    exact ⟨by rw [blk_cell hh]; rfl, by rw [blk_cell hh]; rfl, by rw [blk_cell hh]; rfl, by rw [blk_cell hh]; rfl⟩

def kKey : Reg := ⟨⟨#[107, 101, 121]⟩, 0, 2, false⟩
def kOut : Reg := ⟨⟨#[111, 117, 116]⟩, 64, 1, false⟩
def kA : Reg := ⟨⟨#[97]⟩, 0, 1, false⟩
def kB : Reg := ⟨⟨#[98]⟩, 0, 1, false⟩
def kC : Reg := ⟨⟨#[97]⟩, 4, 1, false⟩
theorem may_1 : mayL [kKey, kOut] = true := by decide +kernel
theorem may_2 : mayL [kA, kB] = false := by decide +kernel
theorem may_3 : mayL [kC] = false := by decide +kernel
def kF : Nat → Int := put8 (fun _ => 0) 8 1
theorem k_1 : askI [kKey, kOut] 8 8 = 0 := by decide +kernel
theorem k_2 : askI [kKey, kOut] 8 1 = 0 := by decide +kernel
theorem k_3 : loadB [kKey, kOut] kF 8 = 1 := by decide +kernel
theorem k_4 : askI [kKey, kOut] 4 8 = 2 := by decide +kernel
theorem k_5 : askI [kKey, kOut] 16 8 = 14 := by decide +kernel
theorem k_6 : askI [kKey, kOut] 65528 8 = 0 := by decide +kernel
theorem k_7 : loadI [kKey, kOut] kF 65528 = 0 := by decide +kernel
theorem k_8 : askI [kKey, kOut] 65536 8 = 14 := by decide +kernel
theorem k_9 : placeI [kKey, kOut] 9 = (0, 9) := by decide +kernel
theorem k_10 : placeI [kKey, kOut] 49153 = (-1, 1) := by decide +kernel
theorem k_11 : placeI [kKey, kOut] 20 = (-2, 0) := by decide +kernel
theorem k_12 : addrI [kKey, kOut] ⟨#[111, 117, 116]⟩ 0 = some 64 := by decide +kernel
theorem k_13 : addrI [kKey, kOut] ⟨#[111, 117, 116]⟩ 1 = none := by decide +kernel
theorem k_14 : storeF [kKey, kOut] (fun _ => 0) 8 1 = kF := by unfold storeF; rw [if_pos k_1]; rfl
def Yes (w : World) (e : Ending) (w' : World) : Prop := e = .returned (.bool true) ∧ Below w.heap.size w w'
theorem wf_lit (nm : ByteArray) (a s : Int) (b : Bool) (h1 : nm.size ≤ 100) (h2 : -100000 ≤ a ∧ a ≤ 100000) (h3 : -100000 ≤ s ∧ s ≤ 100000) : Reg.Wf ⟨nm, a, s, b⟩ := ⟨⟨by show -9223372036854775808 ≤ a; omega, by show a ≤ 9223372036854775807; omega⟩, ⟨by show -9223372036854775808 ≤ s; omega, by show s ≤ 9223372036854775807; omega⟩, by show nm.size ≤ 9223372036854775807; omega⟩
theorem kKey_wf : kKey.Wf := wf_lit _ _ _ _ (by decide) (by decide) (by decide)
theorem kOut_wf : kOut.Wf := wf_lit _ _ _ _ (by decide) (by decide) (by decide)
theorem kA_wf : kA.Wf := wf_lit _ _ _ _ (by decide) (by decide) (by decide)
theorem kB_wf : kB.Wf := wf_lit _ _ _ _ (by decide) (by decide) (by decide)
theorem kC_wf : kC.Wf := wf_lit _ _ _ _ (by decide) (by decide) (by decide)
theorem new_key (w : World) : Calls Try.prog 14 #[.slice (some ⟨w.heap.size, 0, none⟩) 2 2] (w.alloc (.cells #[.string ⟨#[107, 101, 121]⟩, .int .i64 0, .int .i64 2, .bool false, .string ⟨#[111, 117, 116]⟩, .int .i64 64, .int .i64 1, .bool false] 67))
    (NewPost [kKey, kOut] 2 (w.alloc (.cells #[.string ⟨#[107, 101, 121]⟩, .int .i64 0, .int .i64 2, .bool false, .string ⟨#[111, 117, 116]⟩, .int .i64 64, .int .i64 1, .bool false] 67))) :=
  new_yes _ 2 2 [kKey, kOut] _ (regs_lit2 w kKey kOut kKey_wf kOut_wf) (by omega) (by omega) may_1
theorem new_ab (w : World) : Calls Try.prog 14 #[.slice (some ⟨w.heap.size, 0, none⟩) 2 2] (w.alloc (.cells #[.string ⟨#[97]⟩, .int .i64 0, .int .i64 1, .bool false, .string ⟨#[98]⟩, .int .i64 0, .int .i64 1, .bool false] 67))
    fun e w' => e = .returned (.tuple #[.pointer none, .int .i64 2]) ∧ Below (w.alloc (.cells #[.string ⟨#[97]⟩, .int .i64 0, .int .i64 1, .bool false, .string ⟨#[98]⟩, .int .i64 0, .int .i64 1, .bool false] 67)).heap.size (w.alloc (.cells #[.string ⟨#[97]⟩, .int .i64 0, .int .i64 1, .bool false, .string ⟨#[98]⟩, .int .i64 0, .int .i64 1, .bool false] 67)) w' :=
  new_no _ 2 2 [kA, kB] _ (regs_lit2 w kA kB kA_wf kB_wf) (by omega) (by omega) may_2
theorem new_c (w : World) : Calls Try.prog 14 #[.slice (some ⟨w.heap.size, 0, none⟩) 1 1] (w.alloc (.cells #[.string ⟨#[97]⟩, .int .i64 4, .int .i64 1, .bool false] 67))
    fun e w' => e = .returned (.tuple #[.pointer none, .int .i64 2]) ∧ Below (w.alloc (.cells #[.string ⟨#[97]⟩, .int .i64 4, .int .i64 1, .bool false] 67)).heap.size (w.alloc (.cells #[.string ⟨#[97]⟩, .int .i64 4, .int .i64 1, .bool false] 67)) w' :=
  new_no _ 1 1 [kC] _ (regs_lit1 w kC kC_wf) (by omega) (by omega) may_3

theorem kmem : ∀ r ∈ [kKey, kOut], mayB r = true := mayL_mem may_1

section
variable {w : World} {p q : Nat} {A : Option Addr} {cap : Nat}
theorem st_8 (h : Mem_ w p q A 2 cap [kKey, kOut] (fun _ => 0)) : Calls Try.prog 20 #[.pointer (some ⟨p, 0, none⟩), .int .u64 8, .int .u64 1] w (StorePost q kF 0 w) := by
  have := store_any 8 1 w h kmem (by omega) (by omega) (by omega) (by omega)
  rw [k_14, k_1] at this
  exact this
theorem lb_8 (h : Mem_ w p q A 2 cap [kKey, kOut] kF) : Calls Try.prog 21 #[.pointer (some ⟨p, 0, none⟩), .int .u64 8] w (LoadPost .u8 1 0 w) := by
  have := loadByte_any 8 w h kmem (by omega) (by omega)
  rw [k_3, k_2] at this
  exact this
theorem ld_4 (h : Mem_ w p q A 2 cap [kKey, kOut] kF) : Calls Try.prog 19 #[.pointer (some ⟨p, 0, none⟩), .int .u64 4] w (LoadPost .u64 0 2 w) := by
  have := load_any 4 w h kmem (by omega) (by omega)
  have e : loadI [kKey, kOut] kF 4 = 0 := by unfold loadI; rw [k_4]; rfl
  rw [e, k_4] at this
  exact this
theorem ld_16 (h : Mem_ w p q A 2 cap [kKey, kOut] kF) : Calls Try.prog 19 #[.pointer (some ⟨p, 0, none⟩), .int .u64 16] w (LoadPost .u64 0 14 w) := by
  have := load_any 16 w h kmem (by omega) (by omega)
  have e : loadI [kKey, kOut] kF 16 = 0 := by unfold loadI; rw [k_5]; rfl
  rw [e, k_5] at this
  exact this
theorem ld_65528 (h : Mem_ w p q A 2 cap [kKey, kOut] kF) : Calls Try.prog 19 #[.pointer (some ⟨p, 0, none⟩), .int .u64 65528] w (LoadPost .u64 0 0 w) := by
  have := load_any 65528 w h kmem (by omega) (by omega)
  rw [k_7, k_6] at this
  exact this
theorem ld_65536 (h : Mem_ w p q A 2 cap [kKey, kOut] kF) : Calls Try.prog 19 #[.pointer (some ⟨p, 0, none⟩), .int .u64 65536] w (LoadPost .u64 0 14 w) := by
  have := load_any 65536 w h kmem (by omega) (by omega)
  have e : loadI [kKey, kOut] kF 65536 = 0 := by unfold loadI; rw [k_8]; rfl
  rw [e, k_8] at this
  exact this
theorem pl_9 (h : Mem_ w p q A 2 cap [kKey, kOut] kF) : Calls Try.prog 41 #[.pointer (some ⟨p, 0, none⟩), .int .u64 9] w (Two 0 9 w) := by
  have := place_any 9 w h kmem (by omega) (by omega)
  rw [k_9] at this
  exact this
theorem pl_49153 (h : Mem_ w p q A 2 cap [kKey, kOut] kF) : Calls Try.prog 41 #[.pointer (some ⟨p, 0, none⟩), .int .u64 49153] w (Two (-1) 1 w) := by
  have := place_any 49153 w h kmem (by omega) (by omega)
  rw [k_10] at this
  exact this
theorem pl_20 (h : Mem_ w p q A 2 cap [kKey, kOut] kF) : Calls Try.prog 41 #[.pointer (some ⟨p, 0, none⟩), .int .u64 20] w (Two (-2) 0 w) := by
  have := place_any 20 w h kmem (by omega) (by omega)
  rw [k_11] at this
  exact this
theorem ad_0 (h : Mem_ w p q A 2 cap [kKey, kOut] kF) (hc : 2 ≤ cap) : Calls Try.prog 16 #[.pointer (some ⟨p, 0, none⟩), .string ⟨#[111, 117, 116]⟩, .int .i64 0] w fun e w' => e = .returned (.tuple #[.int .u64 64, .bool true]) ∧ Below w.heap.size w w' := by
  have := address_any ⟨#[111, 117, 116]⟩ 0 w h hc kmem
  rw [k_12] at this
  exact this
theorem ad_1 (h : Mem_ w p q A 2 cap [kKey, kOut] kF) (hc : 2 ≤ cap) : Calls Try.prog 16 #[.pointer (some ⟨p, 0, none⟩), .string ⟨#[111, 117, 116]⟩, .int .i64 1] w fun e w' => e = .returned (.tuple #[.int .u64 0, .bool false]) ∧ Below w.heap.size w w' := by
  have := address_any ⟨#[111, 117, 116]⟩ 1 w h hc kmem
  rw [k_13] at this
  exact this
end

set_option maxRecDepth 100000 in
set_option maxHeartbeats 4000000 in
theorem known_any (w : World) : Calls Try.prog 13 #[] w (Yes w) := by
  go_enter Try.func13, Try.ntmps13
  go_wp2_with fail
  refine (region_lit _ _ _ _).mono ?_
  rintro e w1 ⟨rfl, b1⟩
  go_wp2_with fail
  refine (region_lit _ _ _ _).mono ?_
  rintro e w2 ⟨rfl, b2⟩
  have b2' := Lib.hid (Below.next b1 b2)
  clear b1 b2
  go_wp2_with fail
  refine (new_key _).mono ?_
  rintro e w3 ⟨p, q, A, cap, rfl, hM, hc, hcm, hp, hq, b3⟩
  have b3' := Lib.hid (Below.after b2'.out b3)
  have hq0 := Nat.le_trans (Nat.le_trans b2'.out.size (by simp)) hq
  have hM' := Lib.hid hM
  clear b3 hM hp hq
  go_wp2_with (first | (go_at_call 15; refine (num_any _ _).mono ?_; rintro e w' ⟨rfl, rfl⟩))
  refine (st_8 hM'.out).mono ?_
  rintro e w4 ⟨rfl, hq4, hg4⟩
  have hM4 := Lib.hid (hM'.out.turn hg4 hq4 (by unfold kF; exact putN_byte hM'.out.hf _ _ _))
  have b4 := Lib.hid (b3'.out.grown hg4 b3'.out.size (fun k e => by cases e; exact hq0))
  clear hq4 hg4 hM' b3'
  go_wp2_with fail
  refine (lb_8 hM4.out).mono ?_
  rintro e w5 ⟨rfl, c5⟩
  have hM5 := Lib.hid (hM4.out.below c5)
  have b5 := Lib.hid (Below.next b4.out c5)
  clear c5 hM4 b4
  go_wp2_with fail
  refine (ld_4 hM5.out).mono ?_
  rintro e w6 ⟨rfl, c6⟩
  have hM6 := Lib.hid (hM5.out.below c6)
  have b6 := Lib.hid (Below.next b5.out c6)
  clear c6 hM5 b5
  go_wp2_with fail
  refine (ld_16 hM6.out).mono ?_
  rintro e w7 ⟨rfl, c7⟩
  have hM7 := Lib.hid (hM6.out.below c7)
  have b7 := Lib.hid (Below.next b6.out c7)
  clear c7 hM6 b6
  go_wp2_with fail
  refine (ld_65528 hM7.out).mono ?_
  rintro e w8 ⟨rfl, c8⟩
  have hM8 := Lib.hid (hM7.out.below c8)
  have b8 := Lib.hid (Below.next b7.out c8)
  clear c8 hM7 b7
  go_wp2_with fail
  refine (ld_65536 hM8.out).mono ?_
  rintro e w9 ⟨rfl, c9⟩
  have hM9 := Lib.hid (hM8.out.below c9)
  have b9 := Lib.hid (Below.next b8.out c9)
  clear c9 hM8 b8
  go_wp2_with fail
  refine (pl_9 hM9.out).mono ?_
  rintro e w10 ⟨rfl, c10⟩
  have hM10 := Lib.hid (hM9.out.below c10)
  have b10 := Lib.hid (Below.next b9.out c10)
  clear c10 hM9 b9
  go_wp2_with fail
  refine (pl_49153 hM10.out).mono ?_
  rintro e w11 ⟨rfl, c11⟩
  have hM11 := Lib.hid (hM10.out.below c11)
  have b11 := Lib.hid (Below.next b10.out c11)
  clear c11 hM10 b10
  go_wp2_with fail
  refine (pl_20 hM11.out).mono ?_
  rintro e w12 ⟨rfl, c12⟩
  have hM12 := Lib.hid (hM11.out.below c12)
  have b12 := Lib.hid (Below.next b11.out c12)
  clear c12 hM11 b11
  go_wp2_with fail
  refine (ad_0 hM12.out hc).mono ?_
  rintro e w13 ⟨rfl, c13⟩
  have hM13 := Lib.hid (hM12.out.below c13)
  have b13 := Lib.hid (Below.next b12.out c13)
  clear c13 hM12 b12
  go_wp2_with fail
  refine (ad_1 hM13.out hc).mono ?_
  rintro e w14 ⟨rfl, c14⟩
  have hM14 := Lib.hid (hM13.out.below c14)
  have b14 := Lib.hid (Below.next b13.out c14)
  clear c14 hM13 b13
  go_wp2_with fail
  refine (region_lit _ _ _ _).mono ?_
  rintro e w20 ⟨rfl, c20⟩
  have b20 := Lib.hid (Below.next b14.out c20)
  go_wp2_with fail
  refine (region_lit _ _ _ _).mono ?_
  rintro e w21 ⟨rfl, c21⟩
  have b21 := Lib.hid (Below.next b20.out c21)
  clear c20 c21
  go_wp2_with fail
  refine (new_ab _).mono ?_
  rintro e w22 ⟨rfl, c22⟩
  have b22 := Lib.hid (Below.after b21.out c22)
  clear c22
  go_wp2_with fail
  refine (region_lit _ _ _ _).mono ?_
  rintro e w23 ⟨rfl, c23⟩
  have b23 := Lib.hid (Below.next b22.out c23)
  clear c23
  go_wp2_with fail
  refine (new_c _).mono ?_
  rintro e w24 ⟨rfl, c24⟩
  have b24 := Lib.hid (Below.after b23.out c24)
  clear c24
  go_wp2_with (first | (go_at_call 15; refine (num_any _ _).mono ?_; rintro e w' ⟨rfl, rfl⟩))
  go_ret
  exact ⟨rfl, b24.out⟩
end Go.Proofs.Ytageahpgcjnkpaa
