/- Type assertions on things; which method is called. -/
import Derived.Test.YtlimgecmolhdhaaDoorFr
set_option linter.unusedVariables false
set_option linter.unusedSimpArgs false
namespace Go.Proofs.YtlimgecmolhdhaaDoor
open Go.RowKit

theorem ta_obj_obj (mm pr : Value) (wh : Int) (W : World) : (Instr.typeAssert (.iface 63 (.agg #[mm, .int .i64 wh, pr])) 56 63 true).run Tryd.prog W = .ok (.tuple #[.agg #[mm, .int .i64 wh, pr], .bool true]) W := by kernel_rfl
theorem ta_arr_obj (q : Option Addr) (W : World) : (Instr.typeAssert (.iface 51 (.pointer q)) 56 63 true).run Tryd.prog W = .ok (.tuple #[.agg #[.pointer none, .int .i64 0, .nilIface], .bool false]) W := by kernel_rfl
theorem ta_nil_obj (W : World) : (Instr.typeAssert .nilIface 56 63 true).run Tryd.prog W = .ok (.tuple #[.agg #[.pointer none, .int .i64 0, .nilIface], .bool false]) W := by kernel_rfl
theorem ta_obj_arr (mm pr : Value) (wh : Int) (W : World) : (Instr.typeAssert (.iface 63 (.agg #[mm, .int .i64 wh, pr])) 56 51 true).run Tryd.prog W = .ok (.tuple #[.pointer none, .bool false]) W := by kernel_rfl
theorem ta_arr_arr (q : Option Addr) (W : World) : (Instr.typeAssert (.iface 51 (.pointer q)) 56 51 true).run Tryd.prog W = .ok (.tuple #[.pointer q, .bool true]) W := by kernel_rfl
theorem ta_nil_arr (W : World) : (Instr.typeAssert .nilIface 56 51 true).run Tryd.prog W = .ok (.tuple #[.pointer none, .bool false]) W := by kernel_rfl
theorem meth_kind_obj (mm pr : Value) (wh : Int) (W : World) : (method 242 63 (.agg #[mm, .int .i64 wh, pr]) "shuck/heap.kind").run Tryd.prog W = .ok (87, .agg #[mm, .int .i64 wh, pr]) W := by kernel_rfl
theorem meth_kind_arr (q : Option Addr) (W : World) : (method 242 51 (.pointer q) "shuck/heap.kind").run Tryd.prog W = .ok (84, .pointer q) W := by kernel_rfl
theorem meth_behind_obj (mm pr : Value) (wh : Int) (W : World) : (method 242 63 (.agg #[mm, .int .i64 wh, pr]) "shuck/heap.behind").run Tryd.prog W = .ok (86, .agg #[mm, .int .i64 wh, pr]) W := by kernel_rfl
theorem meth_behind_arr (q : Option Addr) (W : World) : (method 242 51 (.pointer q) "shuck/heap.behind").run Tryd.prog W = .ok (83, .pointer q) W := by kernel_rfl
theorem meth_own_obj (mm : Option Addr) (pr : Value) (wh : Int) (W : World) : (method 242 63 (.agg #[.pointer mm, .int .i64 wh, pr]) "shuck/heap.own").run Tryd.prog W = .ok (20, .pointer mm) W := by kernel_rfl
theorem meth_own_arr (q : Option Addr) (W : World) : (method 242 51 (.pointer q) "shuck/heap.own").run Tryd.prog W = .ok (85, .pointer q) W := by kernel_rfl
end Go.Proofs.YtlimgecmolhdhaaDoor
