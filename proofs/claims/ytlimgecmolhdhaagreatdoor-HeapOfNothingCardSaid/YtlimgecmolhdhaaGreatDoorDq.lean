/- A step, in both: Len and Kind, Typeof, Show. -/
import Derived.Test.YtlimgecmolhdhaaGreatDoorDo
set_option linter.unusedVariables false
set_option linter.unusedSimpArgs false
namespace Go.Proofs.YtlimgecmolhdhaaGreatDoor
open Go.RowKit

set_option maxRecDepth 100000 in
set_option maxHeartbeats 4000000 in
theorem does_typeof (w : World) (h : Value) (R : Nat) (sn sm vk vn : Int) (vs : ByteArray) (uk un : Int) (us : ByteArray) (xk xn : Int) (xs key : ByteArray) (rt : ByteArray)
    (hA : Says w nowhere anyW 18 #[h, .agg #[.int .i64 vk, .int .i64 vn, .string vs]] (.string rt))
    (hB : Says w nowhere anyW 34 #[rp R, .agg #[.int .i64 vk, .int .i64 vn, .string vs]] (.string rt)) :
    Says w nowhere anyW 10 #[h, rp R, .agg #[.int .i64 9, .int .i64 sn, .int .i64 sm, .int .i64 vk, .int .i64 vn, .string vs, .int .i64 uk, .int .i64 un, .string us, .int .i64 xk, .int .i64 xn, .string xs, .string key]] (.bool true) := by
  intro W hW _
  have HW := Lib.hid hW; clear hW
  have hA' : ∀ W', Old W W' → Calls Tryz.prog 18 #[h, .agg #[.int .i64 vk, .int .i64 vn, .string vs]] W' fun e w' => e = .returned (.string rt) ∧ Old W' w' := fun W' h' => hA W' (HW.out.old h') trivial
  have HA := Lib.hid hA'; clear hA hA'
  have hB' : ∀ W', Old W W' → Calls Tryz.prog 34 #[rp R, .agg #[.int .i64 vk, .int .i64 vn, .string vs]] W' fun e w' => e = .returned (.string rt) ∧ Old W' w' := fun W' h' => hB W' (HW.out.old h') trivial
  have HB := Lib.hid hB'; clear hB hB'
  go_enter Tryz.func10, Tryz.ntmps10
  go_upto_region 29 with fail
  have hs1 := heapNew W (.cells #[.int .i64 9, .int .i64 sn, .int .i64 sm, .int .i64 vk, .int .i64 vn, .string vs, .int .i64 uk, .int .i64 un, .string us, .int .i64 xk, .int .i64 xn, .string xs, .string key] 36)
  have hF1 := (Fr.refl (fun _ => False) W).alloc (.cells #[.int .i64 9, .int .i64 sn, .int .i64 sm, .int .i64 vk, .int .i64 vn, .string vs, .int .i64 uk, .int .i64 un, .string us, .int .i64 xk, .int .i64 xn, .string xs, .string key] 36)
  obtain ⟨c0, c1, c2, c3, c4, c5, c6, c7, c8, c9, c10, c11, c12⟩ := StepAt.cells hs1
  have HS1 := Lib.hid hs1; clear hs1
  go_region_with (first | (go_at_call 18; ((with_reducible refine (HA.out _ ?_).mono ?_)); (exact hF1.drew); rintro e w1 ⟨rfl, hO1⟩; have hF2 := hF1.drew.old hO1; clear c0 c1 c2 c3 c4 c5 c6 c7 c8 c9 c10 c11 c12; obtain ⟨c0, c1, c2, c3, c4, c5, c6, c7, c8, c9, c10, c11, c12⟩ := StepAt.cells (hO1.at (heapDrew HS1.out) (fun f => f))) | (go_at_call 34; ((with_reducible refine (HB.out _ ?_).mono ?_)); (exact hF2); rintro e w2 ⟨rfl, hO2⟩; have hF3 := hF2.old hO2))
  all_goals (go_wp2; go_ret; exact ⟨by first | rfl | (simp; done) | (with_unfolding_all rfl), hF3⟩)

set_option maxRecDepth 100000 in
set_option maxHeartbeats 4000000 in
theorem does_show (w : World) (h : Value) (R : Nat) (sn sm vk vn : Int) (vs : ByteArray) (uk un : Int) (us : ByteArray) (xk xn : Int) (xs key : ByteArray) (rt : ByteArray) (sk : Int) (h1 : (sk == 1) = false) (h2 : (sk == 2) = false) (h3 : (sk == 3) = false) (h4 : (sk == 4) = false) (h5 : (sk == 5) = false) (h6 : (sk == 6) = false) (h7 : (sk == 7) = false) (h8 : (sk == 8) = false) (h9 : (sk == 9) = false)
    (hA : Says w nowhere anyW 12 #[h, .agg #[.int .i64 vk, .int .i64 vn, .string vs]] (.string rt))
    (hB : Says w nowhere anyW 13 #[rp R, .agg #[.int .i64 vk, .int .i64 vn, .string vs]] (.string rt)) :
    Says w nowhere anyW 10 #[h, rp R, .agg #[.int .i64 sk, .int .i64 sn, .int .i64 sm, .int .i64 vk, .int .i64 vn, .string vs, .int .i64 uk, .int .i64 un, .string us, .int .i64 xk, .int .i64 xn, .string xs, .string key]] (.bool true) := by
  intro W hW _
  have HW := Lib.hid hW; clear hW
  have hA' : ∀ W', Old W W' → Calls Tryz.prog 12 #[h, .agg #[.int .i64 vk, .int .i64 vn, .string vs]] W' fun e w' => e = .returned (.string rt) ∧ Old W' w' := fun W' h' => hA W' (HW.out.old h') trivial
  have HA := Lib.hid hA'; clear hA hA'
  have hB' : ∀ W', Old W W' → Calls Tryz.prog 13 #[rp R, .agg #[.int .i64 vk, .int .i64 vn, .string vs]] W' fun e w' => e = .returned (.string rt) ∧ Old W' w' := fun W' h' => hB W' (HW.out.old h') trivial
  have HB := Lib.hid hB'; clear hB hB'
  go_enter Tryz.func10, Tryz.ntmps10
  go_upto_region 30 with fail
  have hs1 := heapNew W (.cells #[.int .i64 sk, .int .i64 sn, .int .i64 sm, .int .i64 vk, .int .i64 vn, .string vs, .int .i64 uk, .int .i64 un, .string us, .int .i64 xk, .int .i64 xn, .string xs, .string key] 36)
  have hF1 := (Fr.refl (fun _ => False) W).alloc (.cells #[.int .i64 sk, .int .i64 sn, .int .i64 sm, .int .i64 vk, .int .i64 vn, .string vs, .int .i64 uk, .int .i64 un, .string us, .int .i64 xk, .int .i64 xn, .string xs, .string key] 36)
  obtain ⟨c0, c1, c2, c3, c4, c5, c6, c7, c8, c9, c10, c11, c12⟩ := StepAt.cells hs1
  have HS1 := Lib.hid hs1; clear hs1
  go_region_with (first | (go_at_call 12; ((with_reducible refine (HA.out _ ?_).mono ?_)); (exact hF1.drew); rintro e w1 ⟨rfl, hO1⟩; have hF2 := hF1.drew.old hO1; clear c0 c1 c2 c3 c4 c5 c6 c7 c8 c9 c10 c11 c12; obtain ⟨c0, c1, c2, c3, c4, c5, c6, c7, c8, c9, c10, c11, c12⟩ := StepAt.cells (hO1.at (heapDrew HS1.out) (fun f => f))) | (go_at_call 13; ((with_reducible refine (HB.out _ ?_).mono ?_)); (exact hF2); rintro e w2 ⟨rfl, hO2⟩; have hF3 := hF2.old hO2))
  all_goals (go_wp2; go_ret; exact ⟨by first | rfl | (simp; done) | (with_unfolding_all rfl), hF3⟩)

end Go.Proofs.YtlimgecmolhdhaaGreatDoor
