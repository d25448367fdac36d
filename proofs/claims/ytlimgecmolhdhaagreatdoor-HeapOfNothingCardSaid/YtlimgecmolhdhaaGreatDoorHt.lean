/- Type assertions on things; which method is called. -/
import Derived.Test.YtlimgecmolhdhaaGreatDoorFr
set_option linter.unusedVariables false
set_option linter.unusedSimpArgs false
namespace Go.Proofs.YtlimgecmolhdhaaGreatDoor
open Go.RowKit

theorem ta_obj_obj (mm pr : Value) (wh : Int) (W : World) : (Instr.typeAssert (.iface 96 (.agg #[mm, .int .i64 wh, pr])) 79 96 true).run Tryz.prog W = .ok (.tuple #[.agg #[mm, .int .i64 wh, pr], .bool true]) W := by kernel_rfl
theorem ta_arr_obj (q : Option Addr) (W : World) : (Instr.typeAssert (.iface 86 (.pointer q)) 79 96 true).run Tryz.prog W = .ok (.tuple #[.agg #[.pointer none, .int .i64 0, .nilIface], .bool false]) W := by kernel_rfl
theorem ta_nil_obj (W : World) : (Instr.typeAssert .nilIface 79 96 true).run Tryz.prog W = .ok (.tuple #[.agg #[.pointer none, .int .i64 0, .nilIface], .bool false]) W := by kernel_rfl
theorem ta_obj_arr (mm pr : Value) (wh : Int) (W : World) : (Instr.typeAssert (.iface 96 (.agg #[mm, .int .i64 wh, pr])) 79 86 true).run Tryz.prog W = .ok (.tuple #[.pointer none, .bool false]) W := by kernel_rfl
theorem ta_arr_arr (q : Option Addr) (W : World) : (Instr.typeAssert (.iface 86 (.pointer q)) 79 86 true).run Tryz.prog W = .ok (.tuple #[.pointer q, .bool true]) W := by kernel_rfl
theorem ta_nil_arr (W : World) : (Instr.typeAssert .nilIface 79 86 true).run Tryz.prog W = .ok (.tuple #[.pointer none, .bool false]) W := by kernel_rfl
theorem meth_kind_obj (mm pr : Value) (wh : Int) (W : World) : (method 277 96 (.agg #[mm, .int .i64 wh, pr]) "shuck/heap.kind").run Tryz.prog W = .ok (123, .agg #[mm, .int .i64 wh, pr]) W := by kernel_rfl
theorem meth_kind_arr (q : Option Addr) (W : World) : (method 277 86 (.pointer q) "shuck/heap.kind").run Tryz.prog W = .ok (120, .pointer q) W := by kernel_rfl
theorem meth_behind_obj (mm pr : Value) (wh : Int) (W : World) : (method 277 96 (.agg #[mm, .int .i64 wh, pr]) "shuck/heap.behind").run Tryz.prog W = .ok (122, .agg #[mm, .int .i64 wh, pr]) W := by kernel_rfl
theorem meth_behind_arr (q : Option Addr) (W : World) : (method 277 86 (.pointer q) "shuck/heap.behind").run Tryz.prog W = .ok (119, .pointer q) W := by kernel_rfl
theorem meth_own_obj (mm : Option Addr) (pr : Value) (wh : Int) (W : World) : (method 277 96 (.agg #[.pointer mm, .int .i64 wh, pr]) "shuck/heap.own").run Tryz.prog W = .ok (44, .pointer mm) W := by kernel_rfl
theorem meth_own_arr (q : Option Addr) (W : World) : (method 277 86 (.pointer q) "shuck/heap.own").run Tryz.prog W = .ok (121, .pointer q) W := by kernel_rfl
end Go.Proofs.YtlimgecmolhdhaaGreatDoor
