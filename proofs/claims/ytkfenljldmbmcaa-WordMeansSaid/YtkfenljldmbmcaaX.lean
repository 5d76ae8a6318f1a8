/- The functions of the language's operations. -/
import Derived.Test.YtkfenljldmbmcaaV
import Derived.Test.YtkfenljldmbmcaaP0
import Derived.Test.YtkfenljldmbmcaaN
set_option linter.unusedSimpArgs false
set_option linter.unusedVariables false
namespace Go.Proofs.Ytkfenljldmbmcaa
open Go.RowKit Go.MapKept

def one (b : Bool) : Int := if b then 1 else 0
/-- an operation of two words -/
def evalTwo (op x y : Int) : Int :=
  if op = 6 then IntKind.u64.wrap (x + y) else if op = 7 then IntKind.u64.wrap (x - y) else if op = 8 then IntKind.u64.wrap (x * y)
  else if op = 9 then bits .and .u64 x y else if op = 10 then bits .or .u64 x y else if op = 11 then bits .xor .u64 x y
  else if op = 12 then IntKind.u64.wrap (x * 2 ^ (y % 64).toNat) else if op = 13 then x / 2 ^ (y % 64).toNat else if op = 14 then IntKind.u64.wrap (wrap64 x / 2 ^ (y % 64).toNat)
  else if op = 15 then rotl 64 (y % 64).toNat x else if op = 16 then rotl 64 ((64 - (y % 64).toNat) % 64) x
  else if op = 17 then one (x == y) else if op = 18 then one (x != y) else if op = 19 then one (decide (x < y)) else one (decide (x ≤ y))

section
variable (x y : Int) (w : World)
set_option maxHeartbeats 400000 in
theorem f57 : Calls Try.prog 57 #[.int .u64 x, .int .u64 y] w fun e w' => e = .returned (.int .u64 (IntKind.u64.wrap (x + y))) ∧ w = w' := by
  go_enter Try.func57, Try.ntmps57
  go_wp2
  go_ret
  exact ⟨rfl, rfl⟩
set_option maxHeartbeats 400000 in
theorem f58 : Calls Try.prog 58 #[.int .u64 x, .int .u64 y] w fun e w' => e = .returned (.int .u64 (IntKind.u64.wrap (x - y))) ∧ w = w' := by
  go_enter Try.func58, Try.ntmps58
  go_wp2
  go_ret
  exact ⟨rfl, rfl⟩
set_option maxHeartbeats 400000 in
theorem f59 : Calls Try.prog 59 #[.int .u64 x, .int .u64 y] w fun e w' => e = .returned (.int .u64 (IntKind.u64.wrap (x * y))) ∧ w = w' := by
  go_enter Try.func59, Try.ntmps59
  go_wp2
  go_ret
  exact ⟨rfl, rfl⟩
set_option maxHeartbeats 400000 in
theorem f60 : Calls Try.prog 60 #[.int .u64 x, .int .u64 y] w fun e w' => e = .returned (.int .u64 (bits .and .u64 x y)) ∧ w = w' := by
  go_enter Try.func60, Try.ntmps60
  go_wp2
  go_ret
  exact ⟨rfl, rfl⟩
set_option maxHeartbeats 400000 in
theorem f61 : Calls Try.prog 61 #[.int .u64 x, .int .u64 y] w fun e w' => e = .returned (.int .u64 (bits .or .u64 x y)) ∧ w = w' := by
  go_enter Try.func61, Try.ntmps61
  go_wp2
  go_ret
  exact ⟨rfl, rfl⟩
set_option maxHeartbeats 400000 in
theorem f62 : Calls Try.prog 62 #[.int .u64 x, .int .u64 y] w fun e w' => e = .returned (.int .u64 (bits .xor .u64 x y)) ∧ w = w' := by
  go_enter Try.func62, Try.ntmps62
  go_wp2
  go_ret
  exact ⟨rfl, rfl⟩
theorem lt63 (hy : U64 y) : ∃ k : Nat, k < 64 ∧ bits BinOp.and IntKind.u64 y 63 = (k : Int) ∧ (y % 64).toNat = k := by
  refine ⟨(y % 64).toNat, by omega, ?_, rfl⟩
  rw [and63_u64 y hy]; omega
set_option maxHeartbeats 400000 in
theorem f63 (hy : U64 y) : Calls Try.prog 63 #[.int .u64 x, .int .u64 y] w fun e w' => e = .returned (.int .u64 (IntKind.u64.wrap (x * 2 ^ (y % 64).toNat))) ∧ w = w' := by
  obtain ⟨k, hk, h1, h2⟩ := lt63 y hy
  rw [h2]
  clear h2
  go_enter Try.func63, Try.ntmps63
  go_wp2
  go_ret
  exact ⟨rfl, rfl⟩
set_option maxHeartbeats 400000 in
theorem f64 (hy : U64 y) : Calls Try.prog 64 #[.int .u64 x, .int .u64 y] w fun e w' => e = .returned (.int .u64 (x / 2 ^ (y % 64).toNat)) ∧ w = w' := by
  obtain ⟨k, hk, h1, h2⟩ := lt63 y hy
  rw [h2]
  clear h2
  go_enter Try.func64, Try.ntmps64
  go_wp2
  go_ret
  exact ⟨rfl, rfl⟩
set_option maxHeartbeats 400000 in
theorem f65 (hy : U64 y) : Calls Try.prog 65 #[.int .u64 x, .int .u64 y] w fun e w' => e = .returned (.int .u64 (IntKind.u64.wrap (wrap64 x / 2 ^ (y % 64).toNat))) ∧ w = w' := by
  obtain ⟨k, hk, h1, h2⟩ := lt63 y hy
  rw [h2]
  clear h2
  go_enter Try.func65, Try.ntmps65
  go_wp2
  go_ret
  exact ⟨rfl, rfl⟩
set_option maxHeartbeats 400000 in
theorem f69 : Calls Try.prog 69 #[.int .u64 x, .int .u64 y] w fun e w' => e = .returned (.bool (x == y)) ∧ w = w' := by
  go_enter Try.func69, Try.ntmps69
  go_wp2
  go_ret
  exact ⟨rfl, rfl⟩
set_option maxHeartbeats 400000 in
theorem f70 : Calls Try.prog 70 #[.int .u64 x, .int .u64 y] w fun e w' => e = .returned (.bool (x != y)) ∧ w = w' := by
  go_enter Try.func70, Try.ntmps70
  go_wp2
  go_ret
  exact ⟨rfl, rfl⟩
set_option maxHeartbeats 400000 in
theorem f71 : Calls Try.prog 71 #[.int .u64 x, .int .u64 y] w fun e w' => e = .returned (.bool (decide (x < y))) ∧ w = w' := by
  go_enter Try.func71, Try.ntmps71
  go_wp2
  go_ret
  exact ⟨rfl, rfl⟩
set_option maxHeartbeats 400000 in
theorem f72 : Calls Try.prog 72 #[.int .u64 x, .int .u64 y] w fun e w' => e = .returned (.bool (decide (x ≤ y))) ∧ w = w' := by
  go_enter Try.func72, Try.ntmps72
  go_wp2
  go_ret
  exact ⟨rfl, rfl⟩
theorem rot64 (hx : U64 x) (j : Nat) (hj : j < 64) : bits BinOp.or IntKind.u64 (IntKind.u64.wrap (x * 2 ^ j)) (x / 2 ^ (64 - j)) = rotl 64 j x := by
  have h := rot_or (wd := 64) (A := x) MayW_64 hx.1 (by have := hx.2; simpa using this) j (64 - j) (by simpa using hj) (by simp)
  have hu : U64 (bits BinOp.or IntKind.u64 (IntKind.u64.wrap (x * 2 ^ j)) (x / 2 ^ (64 - j))) :=
    bits_or_u (wrap_u _) (by have := Int.ediv_le_self (2 ^ (64 - j)) hx.1; have := sh_bd x hx.1 (64 - j); have := hx.2; exact ⟨by omega, by omega⟩)
  have e : lowI 64 (bits BinOp.or IntKind.u64 (IntKind.u64.wrap (x * 2 ^ j)) (x / 2 ^ (64 - j))) = bits BinOp.or IntKind.u64 (IntKind.u64.wrap (x * 2 ^ j)) (x / 2 ^ (64 - j)) := by
    obtain ⟨h0, h1⟩ := hu
    unfold lowI
    exact Int.emod_eq_of_lt h0 (by simpa using h1)
  rw [e] at h
  exact h
set_option maxHeartbeats 400000 in
theorem f67 (k : Int) (hx : U64 x) (j : Nat) (hj : j < 64) (hjk : k % 64 = (j : Int)) : Calls Try.prog 67 #[.int .u64 x, .int .i64 k] w fun e w' => e = .returned (.int .u64 (rotl 64 j x)) ∧ w = w' := by
  have hm : bits BinOp.and IntKind.u64 (IntKind.u64.wrap k) 63 = (j : Int) := by
    rw [and63_u64 _ (wrap_u k), IntKind.wrap_u64]; omega
  obtain ⟨q, hq, hq2⟩ : ∃ q : Nat, (64 : Int) - (j : Int) = (q : Int) ∧ q = 64 - j := ⟨64 - j, by omega, rfl⟩
  have hq0 : q ≤ 64 := by omega
  have hr := rot64 x hx j hj
  rw [← hq2] at hr
  have hr' := Lib.hid hr
  clear hr hq2 hjk
  go_enter Try.func67, Try.ntmps67
  go_wp2
  go_ret
  exact ⟨ret_u64 hr'.out, rfl⟩
set_option maxHeartbeats 400000 in
theorem f66 (hx : U64 x) (hy : U64 y) : Calls Try.prog 66 #[.int .u64 x, .int .u64 y] w fun e w' => e = .returned (.int .u64 (rotl 64 (y % 64).toNat x)) ∧ w = w' := by
  obtain ⟨k, hk, h1, h2⟩ := lt63 y hy
  rw [h2]
  clear h2
  go_enter Try.func66, Try.ntmps66
  go_wp2_with fail
  refine (f67 _ _ _ hx k hk (by omega)).mono ?_
  rintro e w' ⟨rfl, rfl⟩
  go_wp2_with fail
  go_ret
  exact ⟨rfl, rfl⟩
set_option maxHeartbeats 400000 in
theorem f68 (hx : U64 x) (hy : U64 y) : Calls Try.prog 68 #[.int .u64 x, .int .u64 y] w fun e w' => e = .returned (.int .u64 (rotl 64 ((64 - (y % 64).toNat) % 64) x)) ∧ w = w' := by
  obtain ⟨k, hk, h1, h2⟩ := lt63 y hy
  rw [h2]
  clear h2
  go_enter Try.func68, Try.ntmps68
  go_wp2_with fail
  refine (f67 _ _ _ hx ((64 - k) % 64) (by omega) (by omega)).mono ?_
  rintro e w' ⟨rfl, rfl⟩
  go_wp2_with fail
  go_ret
  exact ⟨rfl, rfl⟩

/-- what a function of two words does, where S holds of the world -/
def TwoSaid (f : Nat) (cs : Array Value) (S : World → Prop) (g : Int → Int → Int) : Prop :=
  ∀ (x y : Int) (w : World), U64 x → U64 y → S w → Calls Try.prog f (#[.int .u64 x, .int .u64 y] ++ cs) w fun e w' => e = .returned (.int .u64 (g x y)) ∧ w = w'
set_option maxHeartbeats 1000000 in
theorem f52 (f : Nat) (cs : Array Value) (S : World → Prop) (g : Int → Int → Int) (hS : ∀ w n, S w → S (w.drewN n)) (hT : TwoSaid f cs S g) (hent : ∀ (args : Array Value) (w2 : World), (callFunc f args).run Try.prog w2 = .ok (.enter f args) w2)
    (blk off n cap p : Nat) (hn : 2 ≤ n) (hx : U64 x) (hy : U64 y) (h0 : w.cell? ⟨blk, off, none⟩ = some (.int .u64 x)) (h1 : w.cell? ⟨blk, off + 1, none⟩ = some (.int .u64 y)) (hp : HasCell w p (.func (.func f) #[] cs)) (hs : S w) :
    Calls Try.prog 52 #[.slice (some ⟨blk, off, none⟩) n cap, .pointer (some ⟨p, 0, none⟩)] w fun e w' => e = .returned (.int .u64 (g x y)) ∧ ∃ m, w' = w.drewN m := by
  have hc := HasCell.at hp
  clear hp
  go_enter Try.func52, Try.ntmps52
  go_wp2_with fail
  refine wp_region_quiet_lit (by kernel_rfl) (by kernel_rfl) ?_
  repeat (go_big_quiet_step (fail))
  go_big_quiet_want; go_simp
  refine ⟨_, fun a => Calls.quiet_of_same ((hT x y _ hx hy (hS w a hs)).mono fun _ _ ⟨he, hw⟩ => ⟨he, hw.symm⟩), ?_⟩
  go_big_quiet_on
  repeat (go_big_quiet_step (fail))
  refine wpQuiet_nil ?_
  intro _ hw'
  obtain ⟨nq, hw''⟩ := hw'
  subst hw''
  go_wp2_with fail
  go_ret
  exact ⟨rfl, nq, rfl⟩

/-- 'is' of a test -/
def TestSaid (f : Nat) (g : Int → Int → Bool) : Prop := ∀ (x y : Int) (w : World), Calls Try.prog f #[.int .u64 x, .int .u64 y] w fun e w' => e = .returned (.bool (g x y)) ∧ w = w'
set_option maxHeartbeats 1000000 in
theorem f54 (f q : Nat) (g : Int → Int → Bool) (hT : TestSaid f g) (hent : ∀ (args : Array Value) (w2 : World), (callFunc f args).run Try.prog w2 = .ok (.enter f args) w2) :
    TwoSaid 54 #[.pointer (some ⟨q, 0, none⟩)] (fun w => HasCell w q (.func (.func f) #[] #[])) (fun x y => one (g x y)) := by
  intro x y w _ _ hp
  have hc := HasCell.at hp
  clear hp
  have hT' := Lib.hid hT
  clear hT
  cases hg : g x y
  all_goals
    have hg' := Lib.hid hg
    clear hg
    show Calls Try.prog 54 #[.int .u64 x, .int .u64 y, .pointer (some ⟨q, 0, none⟩)] w _
    go_enter Try.func54, Try.ntmps54
    go_wp2_with fail
    refine (hT'.out x y _).mono ?_
    rw [hg'.out]
    rintro e w' ⟨rfl, rfl⟩
    go_wp2_with fail
    go_ret
    exact ⟨by rw [hg'.out]; rfl, rfl⟩

set_option maxHeartbeats 400000 in
theorem f55 (blk off n cap : Nat) (hn : 1 ≤ n) (hx : U64 x) (h0 : w.cell? ⟨blk, off, none⟩ = some (.int .u64 x)) :
    Calls Try.prog 55 #[.slice (some ⟨blk, off, none⟩) n cap] w fun e w' => e = .returned (.int .u64 (18446744073709551615 - x)) ∧ w = w' := by
  have hm := xor_max x hx
  go_enter Try.func55, Try.ntmps55
  go_wp2
  go_ret
  exact ⟨rfl, rfl⟩
set_option maxHeartbeats 400000 in
theorem f56 (blk off n cap : Nat) (hn : 1 ≤ n) (h0 : w.cell? ⟨blk, off, none⟩ = some (.int .u64 x)) :
    Calls Try.prog 56 #[.slice (some ⟨blk, off, none⟩) n cap] w fun e w' => e = .returned (.int .u64 (IntKind.u64.wrap (-x))) ∧ w = w' := by
  go_enter Try.func56, Try.ntmps56
  go_wp2
  go_ret
  exact ⟨rfl, rfl⟩
set_option maxHeartbeats 400000 in
theorem f73 (z : Int) (blk off n cap : Nat) (hn : 3 ≤ n) (h0 : w.cell? ⟨blk, off, none⟩ = some (.int .u64 x)) (h1 : w.cell? ⟨blk, off + 1, none⟩ = some (.int .u64 y)) (h2 : w.cell? ⟨blk, off + 2, none⟩ = some (.int .u64 z)) :
    Calls Try.prog 73 #[.slice (some ⟨blk, off, none⟩) n cap] w fun e w' => e = .returned (.int .u64 (if x ≠ 0 then y else z)) ∧ w = w' := by
  by_cases hx : x = 0
  · subst hx
    go_enter Try.func73, Try.ntmps73
    go_wp2
    go_ret
    exact ⟨rfl, rfl⟩
  · have hb : (x != 0) = true := by simpa using hx
    go_enter Try.func73, Try.ntmps73
    go_wp2
    go_ret
    exact ⟨rfl, rfl⟩
theorem ent55 (args : Array Value) (w2 : World) : (callFunc 55 args).run Try.prog w2 = .ok (.enter 55 args) w2 := by kernel_rfl
theorem ent56 (args : Array Value) (w2 : World) : (callFunc 56 args).run Try.prog w2 = .ok (.enter 56 args) w2 := by kernel_rfl
theorem ent73 (args : Array Value) (w2 : World) : (callFunc 73 args).run Try.prog w2 = .ok (.enter 73 args) w2 := by kernel_rfl
theorem ent52 (args : Array Value) (w2 : World) : (callFunc 52 args).run Try.prog w2 = .ok (.enter 52 args) w2 := by kernel_rfl
theorem ent54 (args : Array Value) (w2 : World) : (callFunc 54 args).run Try.prog w2 = .ok (.enter 54 args) w2 := by kernel_rfl
theorem ent57 (args : Array Value) (w2 : World) : (callFunc 57 args).run Try.prog w2 = .ok (.enter 57 args) w2 := by kernel_rfl
theorem ent58 (args : Array Value) (w2 : World) : (callFunc 58 args).run Try.prog w2 = .ok (.enter 58 args) w2 := by kernel_rfl
theorem ent59 (args : Array Value) (w2 : World) : (callFunc 59 args).run Try.prog w2 = .ok (.enter 59 args) w2 := by kernel_rfl
theorem ent60 (args : Array Value) (w2 : World) : (callFunc 60 args).run Try.prog w2 = .ok (.enter 60 args) w2 := by kernel_rfl
theorem ent61 (args : Array Value) (w2 : World) : (callFunc 61 args).run Try.prog w2 = .ok (.enter 61 args) w2 := by kernel_rfl
theorem ent62 (args : Array Value) (w2 : World) : (callFunc 62 args).run Try.prog w2 = .ok (.enter 62 args) w2 := by kernel_rfl
theorem ent63 (args : Array Value) (w2 : World) : (callFunc 63 args).run Try.prog w2 = .ok (.enter 63 args) w2 := by kernel_rfl
theorem ent64 (args : Array Value) (w2 : World) : (callFunc 64 args).run Try.prog w2 = .ok (.enter 64 args) w2 := by kernel_rfl
theorem ent65 (args : Array Value) (w2 : World) : (callFunc 65 args).run Try.prog w2 = .ok (.enter 65 args) w2 := by kernel_rfl
theorem ent66 (args : Array Value) (w2 : World) : (callFunc 66 args).run Try.prog w2 = .ok (.enter 66 args) w2 := by kernel_rfl
theorem ent68 (args : Array Value) (w2 : World) : (callFunc 68 args).run Try.prog w2 = .ok (.enter 68 args) w2 := by kernel_rfl
theorem ent69 (args : Array Value) (w2 : World) : (callFunc 69 args).run Try.prog w2 = .ok (.enter 69 args) w2 := by kernel_rfl
theorem ent70 (args : Array Value) (w2 : World) : (callFunc 70 args).run Try.prog w2 = .ok (.enter 70 args) w2 := by kernel_rfl
theorem ent71 (args : Array Value) (w2 : World) : (callFunc 71 args).run Try.prog w2 = .ok (.enter 71 args) w2 := by kernel_rfl
theorem ent72 (args : Array Value) (w2 : World) : (callFunc 72 args).run Try.prog w2 = .ok (.enter 72 args) w2 := by kernel_rfl
end

end Go.Proofs.Ytkfenljldmbmcaa
