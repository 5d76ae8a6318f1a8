/- errors.Is at a number of error. -/
import Derived.Test.YtmkfoknhjjgipaaGreatDoorK
import Derived.Lib.IfaceEq
set_option linter.unusedSimpArgs false
set_option linter.unusedVariables false
namespace Go.Proofs.YtmkfoknhjjgipaaGreatDoor
open Go.RowKit Go.Lib Go.Shelf Go.Extern.Stop Go.Stop Go.Extern

theorem isTypeOf (v : Value) (w : World) : (Extern.ReflectliteType.typeOf #[.iface 24 v]).run Tryz.prog w = .ok (.iface 127 (.agg #[.pointer (some ⟨10, 24, none⟩)])) w := by kernel_rfl
def cmpF : Array Value → Sem Value := Extern.ReflectliteType.method fun t => do Rtype.noPackHeld "Comparable" t; pure (.bool (← typeInfo t).comparable)
theorem isComparable (w : World) : (cmpF #[.agg #[.pointer (some ⟨10, 24, none⟩)]]).run Tryz.prog w = .ok (.bool true) w := by kernel_rfl
theorem isMethodComparable (v : Value) (w : World) : (Go.method 310 127 v "Comparable").run Tryz.prog w = .ok (132, v) w := by kernel_rfl
theorem isComp : (Tryz.prog.info? 24).map (·.comparable) = some true := by kernel_rfl
theorem noIsE (v : Value) (xT : TypeId) (w : World) : (Instr.typeAssert (.iface 24 v) xT 129 true).run Tryz.prog w = .ok (.tuple #[.nilIface, .bool false]) w := run_typeAssert_lacksB Tryz.underlying129 (by kernel_rfl) (by kernel_rfl) v xT w
theorem noUnwrapE (v : Value) (xT : TypeId) (w : World) : (Instr.typeAssert (.iface 24 v) xT 132 true).run Tryz.prog w = .ok (.tuple #[.nilIface, .bool false]) w := run_typeAssert_lacksB Tryz.underlying132 (by kernel_rfl) (by kernel_rfl) v xT w
theorem noUnwrapsE (v : Value) (xT : TypeId) (w : World) : (Instr.typeAssert (.iface 24 v) xT 134 true).run Tryz.prog w = .ok (.tuple #[.nilIface, .bool false]) w := run_typeAssert_lacksB Tryz.underlying134 (by kernel_rfl) (by kernel_rfl) v xT w
theorem noIsW (v : Value) (xT : TypeId) (w : World) : (Instr.typeAssert (.iface 66 v) xT 129 true).run Tryz.prog w = .ok (.tuple #[.nilIface, .bool false]) w := run_typeAssert_lacksB Tryz.underlying129 (by kernel_rfl) (by kernel_rfl) v xT w
theorem hasUnwrapW (v : Value) (xT : TypeId) (w : World) : (Instr.typeAssert (.iface 66 v) xT 132 true).run Tryz.prog w = .ok (.tuple #[.iface 66 v, .bool true]) w := run_typeAssert_hasB Tryz.underlying132 (by kernel_rfl) v xT w
theorem methodUnwrap (v : Value) (w : World) : (Go.method 310 66 v "Unwrap").run Tryz.prog w = .ok (122, v) w := by kernel_rfl
theorem isIf56 : ∃ ms, Tryz.prog.underlying 56 = some (.interface ms) := ⟨_, Tryz.underlying56⟩
set_option maxRecDepth 100000 in
set_option maxHeartbeats 2000000 in
theorem is_nil (w : World) : Calls Tryz.prog 41 #[.nilIface, .iface 24 (.int .i64 3)] w fun e w' => e = .returned (.bool false) ∧ w' = w := by
  have hn := run_eql_iface_nil_left (P := Tryz.prog) w 24 (.int .i64 3) Tryz.underlying56
  go_enter Tryz.func41, Tryz.ntmps41
  go_wp2
  go_ret
  exact ⟨rfl, rfl⟩
set_option maxRecDepth 100000 in
set_option maxHeartbeats 2000000 in
theorem is_same (w : World) : Calls Tryz.prog 41 #[.iface 24 (.int .i64 3), .iface 24 (.int .i64 3)] w fun e w' => e = .returned (.bool true) ∧ w' = w := by
  have h8 := @run_callFunc_extern Tryz.prog 59 _ Extern.ReflectliteType.typeOf Tryz.func59 (by kernel_rfl) (by kernel_rfl) (by kernel_rfl) (by kernel_rfl)
  have h32 := @run_callFunc_extern Tryz.prog 132 _ cmpF Tryz.func132 (by kernel_rfl) (by kernel_rfl) (by kernel_rfl) (by kernel_rfl)
  have tT := isTypeOf
  have cT := isComparable
  have mR := isMethodComparable
  have heq := run_eql_iface_int (P := Tryz.prog) w (t := 56) (tx := 24) (k := .i64) 3 3 Tryz.underlying56 isComp Tryz.underlying24
  have e33 : ((3 : Int) == 3) = true := rfl
  rw [e33] at heq
  go_enter Tryz.func41, Tryz.ntmps41
  go_wp2
  refine wp_loop_rounds 1 ?_
  rw [rounds_succ]
  go_wp2
  go_ret
  exact ⟨rfl, rfl⟩
set_option maxRecDepth 100000 in
set_option maxHeartbeats 4000000 in
theorem is_fault (p : Nat) (er : Int) (a : Nat) (w : World) (hF : FaultAt w p er a) (her : er ≠ 3) : Calls Tryz.prog 41 #[.iface 66 (.pointer (some ⟨p, 0, none⟩)), .iface 24 (.int .i64 3)] w fun e w' => e = .returned (.bool false) ∧ w' = w := by
  have h8 := @run_callFunc_extern Tryz.prog 59 _ Extern.ReflectliteType.typeOf Tryz.func59 (by kernel_rfl) (by kernel_rfl) (by kernel_rfl) (by kernel_rfl)
  have h32 := @run_callFunc_extern Tryz.prog 132 _ cmpF Tryz.func132 (by kernel_rfl) (by kernel_rfl) (by kernel_rfl) (by kernel_rfl)
  have tT := isTypeOf
  have cT := isComparable
  have mR := isMethodComparable
  have nE := noIsE
  have uE := noUnwrapE
  have vE := noUnwrapsE
  have nW := noIsW
  have uW := hasUnwrapW
  have mU := methodUnwrap
  have hty := run_eql_iface_types (P := Tryz.prog) 66 24 (.pointer (some ⟨p, 0, none⟩)) (.int .i64 3) Tryz.underlying56 (by decide) w
  have heq := run_eql_iface_int (P := Tryz.prog) w (t := 56) (tx := 24) (k := .i64) er 3 Tryz.underlying56 isComp Tryz.underlying24
  have e33 : (er == 3) = false := by simpa using her
  rw [e33] at heq
  have c0 : w.cell? ⟨p, 0, none⟩ = some (.int .i64 er) := by rw [blk_cell hF]; rfl
  clear hF
  go_enter Tryz.func41, Tryz.ntmps41
  go_wp2
  refine wp_loop_rounds 2 ?_
  rw [rounds_succ]
  go_wp2
  rw [rounds_succ]
  go_wp2
  go_ret
  exact ⟨rfl, rfl⟩
end Go.Proofs.YtmkfoknhjjgipaaGreatDoor
