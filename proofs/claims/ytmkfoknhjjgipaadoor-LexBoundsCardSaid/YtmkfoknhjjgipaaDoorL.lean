/- errors.Is at a number of error. -/
import Derived.Test.YtmkfoknhjjgipaaDoorK
import Derived.Lib.IfaceEq
set_option linter.unusedSimpArgs false
set_option linter.unusedVariables false
namespace Go.Proofs.YtmkfoknhjjgipaaDoor
open Go.RowKit Go.Lib Go.Shelf Go.Extern.Stop Go.Stop Go.Extern

theorem isTypeOf (v : Value) (w : World) : (Extern.ReflectliteType.typeOf #[.iface 28 v]).run Tryd.prog w = .ok (.iface 89 (.agg #[.pointer (some ⟨10, 28, none⟩)])) w := by kernel_rfl
def cmpF : Array Value → Sem Value := Extern.ReflectliteType.method fun t => do Rtype.noPackHeld "Comparable" t; pure (.bool (← typeInfo t).comparable)
theorem isComparable (w : World) : (cmpF #[.agg #[.pointer (some ⟨10, 28, none⟩)]]).run Tryd.prog w = .ok (.bool true) w := by kernel_rfl
theorem isMethodComparable (v : Value) (w : World) : (Go.method 292 89 v "Comparable").run Tryd.prog w = .ok (105, v) w := by kernel_rfl
theorem isComp : (Tryd.prog.info? 28).map (·.comparable) = some true := by kernel_rfl
theorem noIsE (v : Value) (xT : TypeId) (w : World) : (Instr.typeAssert (.iface 28 v) xT 91 true).run Tryd.prog w = .ok (.tuple #[.nilIface, .bool false]) w := run_typeAssert_lacksB Tryd.underlying91 (by kernel_rfl) (by kernel_rfl) v xT w
theorem noUnwrapE (v : Value) (xT : TypeId) (w : World) : (Instr.typeAssert (.iface 28 v) xT 94 true).run Tryd.prog w = .ok (.tuple #[.nilIface, .bool false]) w := run_typeAssert_lacksB Tryd.underlying94 (by kernel_rfl) (by kernel_rfl) v xT w
theorem noUnwrapsE (v : Value) (xT : TypeId) (w : World) : (Instr.typeAssert (.iface 28 v) xT 96 true).run Tryd.prog w = .ok (.tuple #[.nilIface, .bool false]) w := run_typeAssert_lacksB Tryd.underlying96 (by kernel_rfl) (by kernel_rfl) v xT w
theorem noIsW (v : Value) (xT : TypeId) (w : World) : (Instr.typeAssert (.iface 51 v) xT 91 true).run Tryd.prog w = .ok (.tuple #[.nilIface, .bool false]) w := run_typeAssert_lacksB Tryd.underlying91 (by kernel_rfl) (by kernel_rfl) v xT w
theorem hasUnwrapW (v : Value) (xT : TypeId) (w : World) : (Instr.typeAssert (.iface 51 v) xT 94 true).run Tryd.prog w = .ok (.tuple #[.iface 51 v, .bool true]) w := run_typeAssert_hasB Tryd.underlying94 (by kernel_rfl) v xT w
theorem methodUnwrap (v : Value) (w : World) : (Go.method 292 51 v "Unwrap").run Tryd.prog w = .ok (99, v) w := by kernel_rfl
theorem isIf56 : ∃ ms, Tryd.prog.underlying 48 = some (.interface ms) := ⟨_, Tryd.underlying48⟩
set_option maxRecDepth 100000 in
set_option maxHeartbeats 2000000 in
theorem is_nil (w : World) : Calls Tryd.prog 17 #[.nilIface, .iface 28 (.int .i64 3)] w fun e w' => e = .returned (.bool false) ∧ w' = w := by
  have hn := run_eql_iface_nil_left (P := Tryd.prog) w 28 (.int .i64 3) Tryd.underlying48
  go_enter Tryd.func17, Tryd.ntmps17
  go_wp2
  go_ret
  exact ⟨rfl, rfl⟩
set_option maxRecDepth 100000 in
set_option maxHeartbeats 2000000 in
theorem is_same (w : World) : Calls Tryd.prog 17 #[.iface 28 (.int .i64 3), .iface 28 (.int .i64 3)] w fun e w' => e = .returned (.bool true) ∧ w' = w := by
  have h8 := @run_callFunc_extern Tryd.prog 29 _ Extern.ReflectliteType.typeOf Tryd.func29 (by kernel_rfl) (by kernel_rfl) (by kernel_rfl) (by kernel_rfl)
  have h32 := @run_callFunc_extern Tryd.prog 105 _ cmpF Tryd.func105 (by kernel_rfl) (by kernel_rfl) (by kernel_rfl) (by kernel_rfl)
  have tT := isTypeOf
  have cT := isComparable
  have mR := isMethodComparable
  have heq := run_eql_iface_int (P := Tryd.prog) w (t := 48) (tx := 28) (k := .i64) 3 3 Tryd.underlying48 isComp Tryd.underlying28
  have e33 : ((3 : Int) == 3) = true := rfl
  rw [e33] at heq
  go_enter Tryd.func17, Tryd.ntmps17
  go_wp2
  refine wp_loop_rounds 1 ?_
  rw [rounds_succ]
  go_wp2
  go_ret
  exact ⟨rfl, rfl⟩
set_option maxRecDepth 100000 in
set_option maxHeartbeats 4000000 in
theorem is_fault (p : Nat) (er : Int) (a : Nat) (w : World) (hF : FaultAt w p er a) (her : er ≠ 3) : Calls Tryd.prog 17 #[.iface 51 (.pointer (some ⟨p, 0, none⟩)), .iface 28 (.int .i64 3)] w fun e w' => e = .returned (.bool false) ∧ w' = w := by
  have h8 := @run_callFunc_extern Tryd.prog 29 _ Extern.ReflectliteType.typeOf Tryd.func29 (by kernel_rfl) (by kernel_rfl) (by kernel_rfl) (by kernel_rfl)
  have h32 := @run_callFunc_extern Tryd.prog 105 _ cmpF Tryd.func105 (by kernel_rfl) (by kernel_rfl) (by kernel_rfl) (by kernel_rfl)
  have tT := isTypeOf
  have cT := isComparable
  have mR := isMethodComparable
  have nE := noIsE
  have uE := noUnwrapE
  have vE := noUnwrapsE
  have nW := noIsW
  have uW := hasUnwrapW
  have mU := methodUnwrap
  have hty := run_eql_iface_types (P := Tryd.prog) 51 28 (.pointer (some ⟨p, 0, none⟩)) (.int .i64 3) Tryd.underlying48 (by decide) w
  have heq := run_eql_iface_int (P := Tryd.prog) w (t := 48) (tx := 28) (k := .i64) er 3 Tryd.underlying48 isComp Tryd.underlying28
  have e33 : (er == 3) = false := by simpa using her
  rw [e33] at heq
  have c0 : w.cell? ⟨p, 0, none⟩ = some (.int .i64 er) := by rw [blk_cell hF]; rfl
  clear hF
  go_enter Tryd.func17, Tryd.ntmps17
  go_wp2
  refine wp_loop_rounds 2 ?_
  rw [rounds_succ]
  go_wp2
  rw [rounds_succ]
  go_wp2
  go_ret
  exact ⟨rfl, rfl⟩
end Go.Proofs.YtmkfoknhjjgipaaDoor
