/- A step, in both: At, Set, Put, Has. -/
import Derived.Test.YtlimgecmolhdhaaGreatDoorDo
set_option linter.unusedVariables false
set_option linter.unusedSimpArgs false
namespace Go.Proofs.YtlimgecmolhdhaaGreatDoor
open Go.RowKit

set_option maxRecDepth 100000 in
set_option maxHeartbeats 4000000 in
theorem does_at (w : World) (h : Value) (R : Nat) (sn sm vk vn : Int) (vs : ByteArray) (uk un : Int) (us : ByteArray) (xk xn : Int) (xs key : ByteArray) (rk rn : Int) (rs rt : ByteArray) (rf : Int)
    (hA : Says w nowhere anyW 28 #[h, .agg #[.int .i64 vk, .int .i64 vn, .string vs], .agg #[.int .i64 uk, .int .i64 un, .string us]] (.tuple #[.agg #[.int .i64 rk, .int .i64 rn, .string rs], .string rt, .int .i64 rf]))
    (hB : Says w nowhere anyW 29 #[rp R, .agg #[.int .i64 vk, .int .i64 vn, .string vs], .agg #[.int .i64 uk, .int .i64 un, .string us]] (.agg #[.int .i64 rk, .int .i64 rn, .string rs, .string rt, .int .i64 rf])) :
    Says w nowhere anyW 10 #[h, rp R, .agg #[.int .i64 5, .int .i64 sn, .int .i64 sm, .int .i64 vk, .int .i64 vn, .string vs, .int .i64 uk, .int .i64 un, .string us, .int .i64 xk, .int .i64 xn, .string xs, .string key]] (.bool true) := by
  intro W hW _
  have HW := Lib.hid hW; clear hW
  have hA' : ∀ W', Old W W' → Calls Tryz.prog 28 #[h, .agg #[.int .i64 vk, .int .i64 vn, .string vs], .agg #[.int .i64 uk, .int .i64 un, .string us]] W' fun e w' => e = .returned (.tuple #[.agg #[.int .i64 rk, .int .i64 rn, .string rs], .string rt, .int .i64 rf]) ∧ Old W' w' := fun W' h' => hA W' (HW.out.old h') trivial
  have HA := Lib.hid hA'; clear hA hA'
  have hB' : ∀ W', Old W W' → Calls Tryz.prog 29 #[rp R, .agg #[.int .i64 vk, .int .i64 vn, .string vs], .agg #[.int .i64 uk, .int .i64 un, .string us]] W' fun e w' => e = .returned (.agg #[.int .i64 rk, .int .i64 rn, .string rs, .string rt, .int .i64 rf]) ∧ Old W' w' := fun W' h' => hB W' (HW.out.old h') trivial
  have HB := Lib.hid hB'; clear hB hB'
  go_enter Tryz.func10, Tryz.ntmps10
  go_wp2_with (go_at_call 28; ((with_reducible refine (HA.out _ ?_).mono ?_)); (exact (Fr.refl _ _).alloc _); rintro e w1 ⟨rfl, hO1⟩; have hs1 := hO1.at (heapNew W (.cells #[.int .i64 5, .int .i64 sn, .int .i64 sm, .int .i64 vk, .int .i64 vn, .string vs, .int .i64 uk, .int .i64 un, .string us, .int .i64 xk, .int .i64 xn, .string xs, .string key] 36)) (fun f => f); have hF1 := ((Fr.refl (fun _ => False) W).alloc (.cells #[.int .i64 5, .int .i64 sn, .int .i64 sm, .int .i64 vk, .int .i64 vn, .string vs, .int .i64 uk, .int .i64 un, .string us, .int .i64 xk, .int .i64 xn, .string xs, .string key] 36)).old hO1; obtain ⟨c0, c1, c2, c3, c4, c5, c6, c7, c8, c9, c10, c11, c12⟩ := StepAt.cells hs1; have hlS := ltOf hs1; have HS1 := Lib.hid hs1; clear hs1; have hv1 := heapNew w1 (.cells #[.int .i64 rk, .int .i64 rn, .string rs] 34); have HV1 := Lib.hid hv1; clear hv1; have hF2 := hF1.alloc (.cells #[.int .i64 rk, .int .i64 rn, .string rs] 34))
  go_region_with (first | (go_at_call 29; ((with_reducible refine (HB.out _ ?_).mono ?_)); (exact hF2.drew); rintro e w2 ⟨rfl, hO2⟩; obtain ⟨d0, d1, d2, _, _, _⟩ := cells3 (hO2.at (heapDrew HV1.out) (fun f => f)); have hF3 := hF2.drew.old hO2) | (go_at_call 23; refine (same_yes _ _ _ _ _ _).mono ?_; rintro e w3 ⟨rfl, hO3⟩; have hF4 := hF3.old hO3))
  all_goals (go_wp2; go_ret; exact ⟨rfl, hF4⟩)

set_option maxRecDepth 100000 in
set_option maxHeartbeats 4000000 in
theorem does_set (w : World) (h : Value) (R : Nat) (sn sm vk vn : Int) (vs : ByteArray) (uk un : Int) (us : ByteArray) (xk xn : Int) (xs key : ByteArray) (rt : ByteArray) (rf : Int)
    (hA : Says w nowhere anyW 20 #[h, .agg #[.int .i64 vk, .int .i64 vn, .string vs], .string key, .agg #[.int .i64 uk, .int .i64 un, .string us]] (.tuple #[.string rt, .int .i64 rf]))
    (hB : Says w nowhere anyW 25 #[rp R, .agg #[.int .i64 vk, .int .i64 vn, .string vs], .string key, .agg #[.int .i64 uk, .int .i64 un, .string us]] (.agg #[.int .i64 0, .int .i64 0, .string ⟨#[]⟩, .string rt, .int .i64 rf])) :
    Says w nowhere anyW 10 #[h, rp R, .agg #[.int .i64 3, .int .i64 sn, .int .i64 sm, .int .i64 vk, .int .i64 vn, .string vs, .int .i64 uk, .int .i64 un, .string us, .int .i64 xk, .int .i64 xn, .string xs, .string key]] (.bool true) := by
  intro W hW _
  have HW := Lib.hid hW; clear hW
  have hA' : ∀ W', Old W W' → Calls Tryz.prog 20 #[h, .agg #[.int .i64 vk, .int .i64 vn, .string vs], .string key, .agg #[.int .i64 uk, .int .i64 un, .string us]] W' fun e w' => e = .returned (.tuple #[.string rt, .int .i64 rf]) ∧ Old W' w' := fun W' h' => hA W' (HW.out.old h') trivial
  have HA := Lib.hid hA'; clear hA hA'
  have hB' : ∀ W', Old W W' → Calls Tryz.prog 25 #[rp R, .agg #[.int .i64 vk, .int .i64 vn, .string vs], .string key, .agg #[.int .i64 uk, .int .i64 un, .string us]] W' fun e w' => e = .returned (.agg #[.int .i64 0, .int .i64 0, .string ⟨#[]⟩, .string rt, .int .i64 rf]) ∧ Old W' w' := fun W' h' => hB W' (HW.out.old h') trivial
  have HB := Lib.hid hB'; clear hB hB'
  go_enter Tryz.func10, Tryz.ntmps10
  go_wp2_with (first | (go_at_call 20; ((with_reducible refine (HA.out _ ?_).mono ?_)); (exact (Fr.refl _ _).alloc _); rintro e w1 ⟨rfl, hO1⟩; have hs1 := hO1.at (heapNew W (.cells #[.int .i64 3, .int .i64 sn, .int .i64 sm, .int .i64 vk, .int .i64 vn, .string vs, .int .i64 uk, .int .i64 un, .string us, .int .i64 xk, .int .i64 xn, .string xs, .string key] 36)) (fun f => f); have hF1 := ((Fr.refl (fun _ => False) W).alloc (.cells #[.int .i64 3, .int .i64 sn, .int .i64 sm, .int .i64 vk, .int .i64 vn, .string vs, .int .i64 uk, .int .i64 un, .string us, .int .i64 xk, .int .i64 xn, .string xs, .string key] 36)).old hO1; obtain ⟨c0, c1, c2, c3, c4, c5, c6, c7, c8, c9, c10, c11, c12⟩ := StepAt.cells hs1; have hlS := ltOf hs1; have HS1 := Lib.hid hs1; clear hs1) | (go_at_call 25; ((with_reducible refine (HB.out _ ?_).mono ?_)); (exact hF1); rintro e w2 ⟨rfl, hO2⟩; have hF2 := hF1.old hO2) | (go_at_call 23; refine (same_yes _ _ _ _ _ _).mono ?_; rintro e w3 ⟨rfl, hO3⟩; have hF3 := hF2.old hO3))
  go_ret
  exact ⟨rfl, hF3⟩

set_option maxRecDepth 100000 in
set_option maxHeartbeats 4000000 in
theorem does_put (w : World) (h : Value) (R : Nat) (sn sm vk vn : Int) (vs : ByteArray) (uk un : Int) (us : ByteArray) (xk xn : Int) (xs key : ByteArray) (rt : ByteArray) (rf : Int)
    (hA : Says w nowhere anyW 30 #[h, .agg #[.int .i64 vk, .int .i64 vn, .string vs], .agg #[.int .i64 uk, .int .i64 un, .string us], .agg #[.int .i64 xk, .int .i64 xn, .string xs]] (.tuple #[.string rt, .int .i64 rf]))
    (hB : Says w nowhere anyW 31 #[rp R, .agg #[.int .i64 vk, .int .i64 vn, .string vs], .agg #[.int .i64 uk, .int .i64 un, .string us], .agg #[.int .i64 xk, .int .i64 xn, .string xs]] (.agg #[.int .i64 0, .int .i64 0, .string ⟨#[]⟩, .string rt, .int .i64 rf])) :
    Says w nowhere anyW 10 #[h, rp R, .agg #[.int .i64 6, .int .i64 sn, .int .i64 sm, .int .i64 vk, .int .i64 vn, .string vs, .int .i64 uk, .int .i64 un, .string us, .int .i64 xk, .int .i64 xn, .string xs, .string key]] (.bool true) := by
  intro W hW _
  have HW := Lib.hid hW; clear hW
  have hA' : ∀ W', Old W W' → Calls Tryz.prog 30 #[h, .agg #[.int .i64 vk, .int .i64 vn, .string vs], .agg #[.int .i64 uk, .int .i64 un, .string us], .agg #[.int .i64 xk, .int .i64 xn, .string xs]] W' fun e w' => e = .returned (.tuple #[.string rt, .int .i64 rf]) ∧ Old W' w' := fun W' h' => hA W' (HW.out.old h') trivial
  have HA := Lib.hid hA'; clear hA hA'
  have hB' : ∀ W', Old W W' → Calls Tryz.prog 31 #[rp R, .agg #[.int .i64 vk, .int .i64 vn, .string vs], .agg #[.int .i64 uk, .int .i64 un, .string us], .agg #[.int .i64 xk, .int .i64 xn, .string xs]] W' fun e w' => e = .returned (.agg #[.int .i64 0, .int .i64 0, .string ⟨#[]⟩, .string rt, .int .i64 rf]) ∧ Old W' w' := fun W' h' => hB W' (HW.out.old h') trivial
  have HB := Lib.hid hB'; clear hB hB'
  go_enter Tryz.func10, Tryz.ntmps10
  go_wp2_with (first | (go_at_call 30; ((with_reducible refine (HA.out _ ?_).mono ?_)); (exact (Fr.refl _ _).alloc _); rintro e w1 ⟨rfl, hO1⟩; have hs1 := hO1.at (heapNew W (.cells #[.int .i64 6, .int .i64 sn, .int .i64 sm, .int .i64 vk, .int .i64 vn, .string vs, .int .i64 uk, .int .i64 un, .string us, .int .i64 xk, .int .i64 xn, .string xs, .string key] 36)) (fun f => f); have hF1 := ((Fr.refl (fun _ => False) W).alloc (.cells #[.int .i64 6, .int .i64 sn, .int .i64 sm, .int .i64 vk, .int .i64 vn, .string vs, .int .i64 uk, .int .i64 un, .string us, .int .i64 xk, .int .i64 xn, .string xs, .string key] 36)).old hO1; obtain ⟨c0, c1, c2, c3, c4, c5, c6, c7, c8, c9, c10, c11, c12⟩ := StepAt.cells hs1; have hlS := ltOf hs1; have HS1 := Lib.hid hs1; clear hs1) | (go_at_call 31; ((with_reducible refine (HB.out _ ?_).mono ?_)); (exact hF1); rintro e w2 ⟨rfl, hO2⟩; have hF2 := hF1.old hO2) | (go_at_call 23; refine (same_yes _ _ _ _ _ _).mono ?_; rintro e w3 ⟨rfl, hO3⟩; have hF3 := hF2.old hO3))
  go_ret
  exact ⟨rfl, hF3⟩

set_option maxRecDepth 100000 in
set_option maxHeartbeats 4000000 in
theorem does_has_true (w : World) (h : Value) (R : Nat) (sn sm vk vn : Int) (vs : ByteArray) (uk un : Int) (us : ByteArray) (xk xn : Int) (xs key : ByteArray) (rt : ByteArray) (rf : Int)
    (hA : Says w nowhere anyW 26 #[h, .agg #[.int .i64 vk, .int .i64 vn, .string vs], .string key] (.tuple #[.bool true, .string rt, .int .i64 rf]))
    (hB : Says w nowhere anyW 27 #[rp R, .agg #[.int .i64 vk, .int .i64 vn, .string vs], .string key] (.tuple #[.bool true, .agg #[.int .i64 0, .int .i64 0, .string ⟨#[]⟩, .string rt, .int .i64 rf]])) :
    Says w nowhere anyW 10 #[h, rp R, .agg #[.int .i64 4, .int .i64 sn, .int .i64 sm, .int .i64 vk, .int .i64 vn, .string vs, .int .i64 uk, .int .i64 un, .string us, .int .i64 xk, .int .i64 xn, .string xs, .string key]] (.bool true) := by
  intro W hW _
  have HW := Lib.hid hW; clear hW
  have hA' : ∀ W', Old W W' → Calls Tryz.prog 26 #[h, .agg #[.int .i64 vk, .int .i64 vn, .string vs], .string key] W' fun e w' => e = .returned (.tuple #[.bool true, .string rt, .int .i64 rf]) ∧ Old W' w' := fun W' h' => hA W' (HW.out.old h') trivial
  have HA := Lib.hid hA'; clear hA hA'
  have hB' : ∀ W', Old W W' → Calls Tryz.prog 27 #[rp R, .agg #[.int .i64 vk, .int .i64 vn, .string vs], .string key] W' fun e w' => e = .returned (.tuple #[.bool true, .agg #[.int .i64 0, .int .i64 0, .string ⟨#[]⟩, .string rt, .int .i64 rf]]) ∧ Old W' w' := fun W' h' => hB W' (HW.out.old h') trivial
  have HB := Lib.hid hB'; clear hB hB'
  go_enter Tryz.func10, Tryz.ntmps10
  go_wp2_with (first | (go_at_call 26; ((with_reducible refine (HA.out _ ?_).mono ?_)); (exact (Fr.refl _ _).alloc _); rintro e w1 ⟨rfl, hO1⟩; have hs1 := hO1.at (heapNew W (.cells #[.int .i64 4, .int .i64 sn, .int .i64 sm, .int .i64 vk, .int .i64 vn, .string vs, .int .i64 uk, .int .i64 un, .string us, .int .i64 xk, .int .i64 xn, .string xs, .string key] 36)) (fun f => f); have hF1 := ((Fr.refl (fun _ => False) W).alloc (.cells #[.int .i64 4, .int .i64 sn, .int .i64 sm, .int .i64 vk, .int .i64 vn, .string vs, .int .i64 uk, .int .i64 un, .string us, .int .i64 xk, .int .i64 xn, .string xs, .string key] 36)).old hO1; obtain ⟨c0, c1, c2, c3, c4, c5, c6, c7, c8, c9, c10, c11, c12⟩ := StepAt.cells hs1; have hlS := ltOf hs1; have HS1 := Lib.hid hs1; clear hs1) | (go_at_call 27; ((with_reducible refine (HB.out _ ?_).mono ?_)); (exact hF1); rintro e w2 ⟨rfl, hO2⟩; have hF2 := (hF1.old hO2).alloc (.cells #[.int .i64 0, .int .i64 0, .string ⟨#[]⟩, .string rt, .int .i64 rf] 56)) | (go_at_call 23; refine (same_yes _ _ _ _ _ _).mono ?_; rintro e w3 ⟨rfl, hO3⟩; have hF3 := hF2.old hO3))
  go_ret
  exact ⟨rfl, hF3⟩

set_option maxRecDepth 100000 in
set_option maxHeartbeats 4000000 in
theorem does_has_false (w : World) (h : Value) (R : Nat) (sn sm vk vn : Int) (vs : ByteArray) (uk un : Int) (us : ByteArray) (xk xn : Int) (xs key : ByteArray) (rt : ByteArray) (rf : Int)
    (hA : Says w nowhere anyW 26 #[h, .agg #[.int .i64 vk, .int .i64 vn, .string vs], .string key] (.tuple #[.bool false, .string rt, .int .i64 rf]))
    (hB : Says w nowhere anyW 27 #[rp R, .agg #[.int .i64 vk, .int .i64 vn, .string vs], .string key] (.tuple #[.bool false, .agg #[.int .i64 0, .int .i64 0, .string ⟨#[]⟩, .string rt, .int .i64 rf]])) :
    Says w nowhere anyW 10 #[h, rp R, .agg #[.int .i64 4, .int .i64 sn, .int .i64 sm, .int .i64 vk, .int .i64 vn, .string vs, .int .i64 uk, .int .i64 un, .string us, .int .i64 xk, .int .i64 xn, .string xs, .string key]] (.bool true) := by
  intro W hW _
  have HW := Lib.hid hW; clear hW
  have hA' : ∀ W', Old W W' → Calls Tryz.prog 26 #[h, .agg #[.int .i64 vk, .int .i64 vn, .string vs], .string key] W' fun e w' => e = .returned (.tuple #[.bool false, .string rt, .int .i64 rf]) ∧ Old W' w' := fun W' h' => hA W' (HW.out.old h') trivial
  have HA := Lib.hid hA'; clear hA hA'
  have hB' : ∀ W', Old W W' → Calls Tryz.prog 27 #[rp R, .agg #[.int .i64 vk, .int .i64 vn, .string vs], .string key] W' fun e w' => e = .returned (.tuple #[.bool false, .agg #[.int .i64 0, .int .i64 0, .string ⟨#[]⟩, .string rt, .int .i64 rf]]) ∧ Old W' w' := fun W' h' => hB W' (HW.out.old h') trivial
  have HB := Lib.hid hB'; clear hB hB'
  go_enter Tryz.func10, Tryz.ntmps10
  go_wp2_with (first | (go_at_call 26; ((with_reducible refine (HA.out _ ?_).mono ?_)); (exact (Fr.refl _ _).alloc _); rintro e w1 ⟨rfl, hO1⟩; have hs1 := hO1.at (heapNew W (.cells #[.int .i64 4, .int .i64 sn, .int .i64 sm, .int .i64 vk, .int .i64 vn, .string vs, .int .i64 uk, .int .i64 un, .string us, .int .i64 xk, .int .i64 xn, .string xs, .string key] 36)) (fun f => f); have hF1 := ((Fr.refl (fun _ => False) W).alloc (.cells #[.int .i64 4, .int .i64 sn, .int .i64 sm, .int .i64 vk, .int .i64 vn, .string vs, .int .i64 uk, .int .i64 un, .string us, .int .i64 xk, .int .i64 xn, .string xs, .string key] 36)).old hO1; obtain ⟨c0, c1, c2, c3, c4, c5, c6, c7, c8, c9, c10, c11, c12⟩ := StepAt.cells hs1; have hlS := ltOf hs1; have HS1 := Lib.hid hs1; clear hs1) | (go_at_call 27; ((with_reducible refine (HB.out _ ?_).mono ?_)); (exact hF1); rintro e w2 ⟨rfl, hO2⟩; have hF2 := (hF1.old hO2).alloc (.cells #[.int .i64 0, .int .i64 0, .string ⟨#[]⟩, .string rt, .int .i64 rf] 56)) | (go_at_call 23; refine (same_yes _ _ _ _ _ _).mono ?_; rintro e w3 ⟨rfl, hO3⟩; have hF3 := hF2.old hO3))
  go_ret
  exact ⟨rfl, hF3⟩
end Go.Proofs.YtlimgecmolhdhaaGreatDoor
