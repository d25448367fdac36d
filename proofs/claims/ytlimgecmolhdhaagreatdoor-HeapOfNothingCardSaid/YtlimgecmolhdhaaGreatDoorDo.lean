/- A step, in both: the same answers make it true. -/
import Derived.Test.YtlimgecmolhdhaaGreatDoorPa
import Derived.Test.YtlimgecmolhdhaaGreatDoorRa
set_option linter.unusedVariables false
set_option linter.unusedSimpArgs false
namespace Go.Proofs.YtlimgecmolhdhaaGreatDoor
open Go.RowKit

set_option maxRecDepth 100000 in
set_option maxHeartbeats 1000000 in
theorem same_yes (vk vn : Int) (vs t : ByteArray) (f : Int) (w : World) :
    Calls Tryz.prog 23 #[.agg #[.int .i64 vk, .int .i64 vn, .string vs], .string t, .int .i64 f, .agg #[.int .i64 vk, .int .i64 vn, .string vs, .string t, .int .i64 f]] w fun e w' => e = .returned (.bool true) ∧ Old w w' := by
  go_enter Tryz.func23, Tryz.ntmps23
  go_wp2
  go_ret
  exact ⟨rfl, ((Fr.refl _ _).alloc _).alloc _⟩

/-- The step's block and what its cells hold. -/
abbrev StepAt (w : World) (b : Nat) (sk sn sm vk vn : Int) (vs : ByteArray) (uk un : Int) (us : ByteArray) (xk xn : Int) (xs key : ByteArray) : Prop := w.heap[b]? = some (.cells #[.int .i64 sk, .int .i64 sn, .int .i64 sm, .int .i64 vk, .int .i64 vn, .string vs, .int .i64 uk, .int .i64 un, .string us, .int .i64 xk, .int .i64 xn, .string xs, .string key] 36 (0, 0))
theorem StepAt.cells {w : World} {b : Nat} {sk sn sm vk vn : Int} {vs : ByteArray} {uk un : Int} {us : ByteArray} {xk xn : Int} {xs key : ByteArray} (h : StepAt w b sk sn sm vk vn vs uk un us xk xn xs key) :
    w.cell? ⟨b, 0, none⟩ = some (.int .i64 sk) ∧ w.cell? ⟨b, 1, none⟩ = some (.int .i64 sn) ∧ w.cell? ⟨b, 2, none⟩ = some (.int .i64 sm) ∧ w.cell? ⟨b, 3, none⟩ = some (.int .i64 vk) ∧ w.cell? ⟨b, 4, none⟩ = some (.int .i64 vn) ∧ w.cell? ⟨b, 5, none⟩ = some (.string vs) ∧
    w.cell? ⟨b, 6, none⟩ = some (.int .i64 uk) ∧ w.cell? ⟨b, 7, none⟩ = some (.int .i64 un) ∧ w.cell? ⟨b, 8, none⟩ = some (.string us) ∧ w.cell? ⟨b, 9, none⟩ = some (.int .i64 xk) ∧ w.cell? ⟨b, 10, none⟩ = some (.int .i64 xn) ∧ w.cell? ⟨b, 11, none⟩ = some (.string xs) ∧ w.cell? ⟨b, 12, none⟩ = some (.string key) :=
  ⟨cellOf h 0 _ rfl, cellOf h 1 _ rfl, cellOf h 2 _ rfl, cellOf h 3 _ rfl, cellOf h 4 _ rfl, cellOf h 5 _ rfl, cellOf h 6 _ rfl, cellOf h 7 _ rfl, cellOf h 8 _ rfl, cellOf h 9 _ rfl, cellOf h 10 _ rfl, cellOf h 11 _ rfl, cellOf h 12 _ rfl⟩

set_option maxRecDepth 100000 in
set_option maxHeartbeats 4000000 in
theorem does_make (w : World) (h : Value) (R : Nat) (sn sm vk vn : Int) (vs : ByteArray) (uk un : Int) (us : ByteArray) (xk xn : Int) (xs key : ByteArray) (rn rf : Int)
    (hA : Says w nowhere anyW 19 #[h, .int .i64 sn, .int .i64 sm] (.tuple #[.int .i64 rn, .int .i64 rf]))
    (hB : Says w nowhere anyW 21 #[rp R, .int .i64 sn, .int .i64 sm] (.tuple #[.int .i64 rn, .int .i64 rf])) :
    Says w nowhere anyW 10 #[h, rp R, .agg #[.int .i64 1, .int .i64 sn, .int .i64 sm, .int .i64 vk, .int .i64 vn, .string vs, .int .i64 uk, .int .i64 un, .string us, .int .i64 xk, .int .i64 xn, .string xs, .string key]] (.bool true) := by
  intro W hW _
  have HW := Lib.hid hW; clear hW
  have hA' : ∀ W', Old W W' → Calls Tryz.prog 19 #[h, .int .i64 sn, .int .i64 sm] W' fun e w' => e = .returned (.tuple #[.int .i64 rn, .int .i64 rf]) ∧ Old W' w' := fun W' h' => hA W' (HW.out.old h') trivial
  have HA := Lib.hid hA'; clear hA hA'
  have hB' : ∀ W', Old W W' → Calls Tryz.prog 21 #[rp R, .int .i64 sn, .int .i64 sm] W' fun e w' => e = .returned (.tuple #[.int .i64 rn, .int .i64 rf]) ∧ Old W' w' := fun W' h' => hB W' (HW.out.old h') trivial
  have HB := Lib.hid hB'; clear hB hB'
  go_enter Tryz.func10, Tryz.ntmps10
  go_wp2_with (first | (go_at_call 19; ((with_reducible refine (HA.out _ ?_).mono ?_)); (exact (Fr.refl _ _).alloc _); rintro e w1 ⟨rfl, hO1⟩; have hs1 := hO1.at (heapNew W (.cells #[.int .i64 1, .int .i64 sn, .int .i64 sm, .int .i64 vk, .int .i64 vn, .string vs, .int .i64 uk, .int .i64 un, .string us, .int .i64 xk, .int .i64 xn, .string xs, .string key] 36)) (fun f => f); have hF1 := ((Fr.refl (fun _ => False) W).alloc (.cells #[.int .i64 1, .int .i64 sn, .int .i64 sm, .int .i64 vk, .int .i64 vn, .string vs, .int .i64 uk, .int .i64 un, .string us, .int .i64 xk, .int .i64 xn, .string xs, .string key] 36)).old hO1; obtain ⟨c0, c1, c2, c3, c4, c5, c6, c7, c8, c9, c10, c11, c12⟩ := StepAt.cells hs1; have hlS := ltOf hs1; have HS1 := Lib.hid hs1; clear hs1) | (go_at_call 21; ((with_reducible refine (HB.out _ ?_).mono ?_)); (exact hF1); rintro e w2 ⟨rfl, hO2⟩; have hF2 := hF1.old hO2))
  go_ret
  exact ⟨rfl, hF2⟩

set_option maxRecDepth 100000 in
set_option maxHeartbeats 4000000 in
theorem does_push (w : World) (h : Value) (R : Nat) (sn sm vk vn : Int) (vs : ByteArray) (uk un : Int) (us : ByteArray) (xk xn : Int) (xs key : ByteArray) (rn rf : Int)
    (hA : Says w nowhere anyW 32 #[h, .int .i64 sn, .agg #[.int .i64 vk, .int .i64 vn, .string vs]] (.tuple #[.int .i64 rn, .int .i64 rf]))
    (hB : Says w nowhere anyW 33 #[rp R, .int .i64 sn, .agg #[.int .i64 vk, .int .i64 vn, .string vs]] (.tuple #[.int .i64 rn, .int .i64 rf])) :
    Says w nowhere anyW 10 #[h, rp R, .agg #[.int .i64 7, .int .i64 sn, .int .i64 sm, .int .i64 vk, .int .i64 vn, .string vs, .int .i64 uk, .int .i64 un, .string us, .int .i64 xk, .int .i64 xn, .string xs, .string key]] (.bool true) := by
  intro W hW _
  have HW := Lib.hid hW; clear hW
  have hA' : ∀ W', Old W W' → Calls Tryz.prog 32 #[h, .int .i64 sn, .agg #[.int .i64 vk, .int .i64 vn, .string vs]] W' fun e w' => e = .returned (.tuple #[.int .i64 rn, .int .i64 rf]) ∧ Old W' w' := fun W' h' => hA W' (HW.out.old h') trivial
  have HA := Lib.hid hA'; clear hA hA'
  have hB' : ∀ W', Old W W' → Calls Tryz.prog 33 #[rp R, .int .i64 sn, .agg #[.int .i64 vk, .int .i64 vn, .string vs]] W' fun e w' => e = .returned (.tuple #[.int .i64 rn, .int .i64 rf]) ∧ Old W' w' := fun W' h' => hB W' (HW.out.old h') trivial
  have HB := Lib.hid hB'; clear hB hB'
  go_enter Tryz.func10, Tryz.ntmps10
  go_wp2_with (first | (go_at_call 32; ((with_reducible refine (HA.out _ ?_).mono ?_)); (exact (Fr.refl _ _).alloc _); rintro e w1 ⟨rfl, hO1⟩; have hs1 := hO1.at (heapNew W (.cells #[.int .i64 7, .int .i64 sn, .int .i64 sm, .int .i64 vk, .int .i64 vn, .string vs, .int .i64 uk, .int .i64 un, .string us, .int .i64 xk, .int .i64 xn, .string xs, .string key] 36)) (fun f => f); have hF1 := ((Fr.refl (fun _ => False) W).alloc (.cells #[.int .i64 7, .int .i64 sn, .int .i64 sm, .int .i64 vk, .int .i64 vn, .string vs, .int .i64 uk, .int .i64 un, .string us, .int .i64 xk, .int .i64 xn, .string xs, .string key] 36)).old hO1; obtain ⟨c0, c1, c2, c3, c4, c5, c6, c7, c8, c9, c10, c11, c12⟩ := StepAt.cells hs1; have hlS := ltOf hs1; have HS1 := Lib.hid hs1; clear hs1) | (go_at_call 33; ((with_reducible refine (HB.out _ ?_).mono ?_)); (exact hF1); rintro e w2 ⟨rfl, hO2⟩; have hF2 := hF1.old hO2))
  go_ret
  exact ⟨rfl, hF2⟩

set_option maxRecDepth 100000 in
set_option maxHeartbeats 4000000 in
theorem does_get (w : World) (h : Value) (R : Nat) (sn sm vk vn : Int) (vs : ByteArray) (uk un : Int) (us : ByteArray) (xk xn : Int) (xs key : ByteArray) (rk rn : Int) (rs rt : ByteArray) (rf : Int)
    (hA : Says w nowhere anyW 22 #[h, .agg #[.int .i64 vk, .int .i64 vn, .string vs], .string key] (.tuple #[.agg #[.int .i64 rk, .int .i64 rn, .string rs], .string rt, .int .i64 rf]))
    (hB : Says w nowhere anyW 24 #[rp R, .agg #[.int .i64 vk, .int .i64 vn, .string vs], .string key] (.agg #[.int .i64 rk, .int .i64 rn, .string rs, .string rt, .int .i64 rf])) :
    Says w nowhere anyW 10 #[h, rp R, .agg #[.int .i64 2, .int .i64 sn, .int .i64 sm, .int .i64 vk, .int .i64 vn, .string vs, .int .i64 uk, .int .i64 un, .string us, .int .i64 xk, .int .i64 xn, .string xs, .string key]] (.bool true) := by
  intro W hW _
  have HW := Lib.hid hW; clear hW
  have hA' : ∀ W', Old W W' → Calls Tryz.prog 22 #[h, .agg #[.int .i64 vk, .int .i64 vn, .string vs], .string key] W' fun e w' => e = .returned (.tuple #[.agg #[.int .i64 rk, .int .i64 rn, .string rs], .string rt, .int .i64 rf]) ∧ Old W' w' := fun W' h' => hA W' (HW.out.old h') trivial
  have HA := Lib.hid hA'; clear hA hA'
  have hB' : ∀ W', Old W W' → Calls Tryz.prog 24 #[rp R, .agg #[.int .i64 vk, .int .i64 vn, .string vs], .string key] W' fun e w' => e = .returned (.agg #[.int .i64 rk, .int .i64 rn, .string rs, .string rt, .int .i64 rf]) ∧ Old W' w' := fun W' h' => hB W' (HW.out.old h') trivial
  have HB := Lib.hid hB'; clear hB hB'
  go_enter Tryz.func10, Tryz.ntmps10
  go_wp2_with (go_at_call 22; ((with_reducible refine (HA.out _ ?_).mono ?_)); (exact (Fr.refl _ _).alloc _); rintro e w1 ⟨rfl, hO1⟩; have hs1 := hO1.at (heapNew W (.cells #[.int .i64 2, .int .i64 sn, .int .i64 sm, .int .i64 vk, .int .i64 vn, .string vs, .int .i64 uk, .int .i64 un, .string us, .int .i64 xk, .int .i64 xn, .string xs, .string key] 36)) (fun f => f); have hF1 := ((Fr.refl (fun _ => False) W).alloc (.cells #[.int .i64 2, .int .i64 sn, .int .i64 sm, .int .i64 vk, .int .i64 vn, .string vs, .int .i64 uk, .int .i64 un, .string us, .int .i64 xk, .int .i64 xn, .string xs, .string key] 36)).old hO1; obtain ⟨c0, c1, c2, c3, c4, c5, c6, c7, c8, c9, c10, c11, c12⟩ := StepAt.cells hs1; have hlS := ltOf hs1; have HS1 := Lib.hid hs1; clear hs1; have hv1 := heapNew w1 (.cells #[.int .i64 rk, .int .i64 rn, .string rs] 34); have HV1 := Lib.hid hv1; clear hv1; have hF2 := hF1.alloc (.cells #[.int .i64 rk, .int .i64 rn, .string rs] 34))
  go_region_with (first | (go_at_call 24; ((with_reducible refine (HB.out _ ?_).mono ?_)); (exact hF2.drew); rintro e w2 ⟨rfl, hO2⟩; obtain ⟨d0, d1, d2, _, _, _⟩ := cells3 (hO2.at (heapDrew HV1.out) (fun f => f)); have hF3 := hF2.drew.old hO2) | (go_at_call 23; refine (same_yes _ _ _ _ _ _).mono ?_; rintro e w3 ⟨rfl, hO3⟩; have hF4 := hF3.old hO3))
  all_goals (go_wp2; go_ret; exact ⟨rfl, hF4⟩)
end Go.Proofs.YtlimgecmolhdhaaGreatDoor
