/- The program's Get at what is no thing. -/
import Derived.Test.YtlimgecmolhdhaaGreatDoorPa
import Derived.Test.YtlimgecmolhdhaaGreatDoorRg
set_option linter.unusedVariables false
set_option linter.unusedSimpArgs false
namespace Go.Proofs.YtlimgecmolhdhaaGreatDoor
open Go.RowKit

set_option maxRecDepth 100000 in
set_option maxHeartbeats 2000000 in
theorem pget_throw0 (w : World) (h : Value) (xk xn : Int) (xs : ByteArray) (yn : Int) (ys : ByteArray) (key : ByteArray)
    (hP : Says w nowhere anyW 35 #[h, .agg #[.int .i64 xk, .int .i64 xn, .string xs]] (.agg #[.int .i64 0, .int .i64 yn, .string ys])) :
    Says w nowhere anyW 22 #[h, .agg #[.int .i64 xk, .int .i64 xn, .string xs], .string key] (.tuple #[.agg #[.int .i64 0, .int .i64 0, .string ⟨#[]⟩], .string ⟨#[84, 121, 112, 101, 69, 114, 114, 111, 114, 58, 32, 110, 111, 32, 109, 101, 109, 98, 101, 114, 115]⟩, .int .i64 1]) := by
  intro W hW _
  have HW := Lib.hid hW; clear hW
  have hP' : ∀ W', Old W W' → Calls Tryz.prog 35 #[h, .agg #[.int .i64 xk, .int .i64 xn, .string xs]] W' fun e w' => e = .returned (.agg #[.int .i64 0, .int .i64 yn, .string ys]) ∧ Old W' w' := fun W' h' => hP W' (HW.out.old h') trivial
  have HP := Lib.hid hP'; clear hP hP'
  go_enter Tryz.func22, Tryz.ntmps22
  go_upto_region 2 with ((go_at_call 35; ((with_reducible refine (HP.out _ ?_).mono ?_)); (exact ((Fr.refl _ _).alloc _).alloc _); rintro e w1 ⟨rfl, hO1⟩; have hB := (Boxes.start2 W (.cells #[.int .i64 xk, .int .i64 xn, .string xs] 34 (0, 0)) (.cells #[.int .i64 0, .int .i64 0, .string ⟨#[]⟩] 34 (0, 0))).later hO1; obtain ⟨p0, p1, p2, e0, e1, e2⟩ := cells3 hB.g0; have hl := ltOf hB.g0; have HB := Lib.hid hB; clear hB))
  refine wp_gen (R := fun V => Boxes W V [(.cells #[.int .i64 0, .int .i64 yn, .string ys] 34 (0, 0)), (.cells #[.int .i64 0, .int .i64 0, .string ⟨#[]⟩] 34 (0, 0))]) (HB.out.three0 _ _ _) ?_
  intro V hV
  clear p0 p1 p2 e0 e1 e2 hl HB
  obtain ⟨p0, p1, p2, -⟩ := cells3 hV.g0
  obtain ⟨r0, r1, r2, g0, g1, g2⟩ := cells3 hV.g1
  have hl := ltOf hV.g0
  have hl1 := ltOf hV.g1
  have HV := Lib.hid hV; clear hV
  go_wp2
  refine bodyPost_ret (v := .tuple #[.agg #[.int .i64 0, .int .i64 0, .string ⟨#[]⟩], .string ⟨#[84, 121, 112, 101, 69, 114, 114, 111, 114, 58, 32, 110, 111, 32, 109, 101, 109, 98, 101, 114, 115]⟩, .int .i64 1]) (by simp [results, Tryz.results22, go_sem, r0, r1, r2, hl1]) rfl ⟨rfl, ?_⟩
  have hFF := HV.out.old
  repeat (first | exact hFF | exact hFG | refine Fr.setCell ?_ (Or.inl (by first | (dsimp only; omega) | (simp; omega))) _ | refine Fr.alloc ?_ _)

set_option maxRecDepth 100000 in
set_option maxHeartbeats 2000000 in
theorem pget_throw1 (w : World) (h : Value) (xk xn : Int) (xs : ByteArray) (yn : Int) (ys : ByteArray) (key : ByteArray)
    (hP : Says w nowhere anyW 35 #[h, .agg #[.int .i64 xk, .int .i64 xn, .string xs]] (.agg #[.int .i64 1, .int .i64 yn, .string ys])) :
    Says w nowhere anyW 22 #[h, .agg #[.int .i64 xk, .int .i64 xn, .string xs], .string key] (.tuple #[.agg #[.int .i64 0, .int .i64 0, .string ⟨#[]⟩], .string ⟨#[84, 121, 112, 101, 69, 114, 114, 111, 114, 58, 32, 110, 111, 32, 109, 101, 109, 98, 101, 114, 115]⟩, .int .i64 1]) := by
  intro W hW _
  have HW := Lib.hid hW; clear hW
  have hP' : ∀ W', Old W W' → Calls Tryz.prog 35 #[h, .agg #[.int .i64 xk, .int .i64 xn, .string xs]] W' fun e w' => e = .returned (.agg #[.int .i64 1, .int .i64 yn, .string ys]) ∧ Old W' w' := fun W' h' => hP W' (HW.out.old h') trivial
  have HP := Lib.hid hP'; clear hP hP'
  go_enter Tryz.func22, Tryz.ntmps22
  go_upto_region 2 with ((go_at_call 35; ((with_reducible refine (HP.out _ ?_).mono ?_)); (exact ((Fr.refl _ _).alloc _).alloc _); rintro e w1 ⟨rfl, hO1⟩; have hB := (Boxes.start2 W (.cells #[.int .i64 xk, .int .i64 xn, .string xs] 34 (0, 0)) (.cells #[.int .i64 0, .int .i64 0, .string ⟨#[]⟩] 34 (0, 0))).later hO1; obtain ⟨p0, p1, p2, e0, e1, e2⟩ := cells3 hB.g0; have hl := ltOf hB.g0; have HB := Lib.hid hB; clear hB))
  refine wp_gen (R := fun V => Boxes W V [(.cells #[.int .i64 1, .int .i64 yn, .string ys] 34 (0, 0)), (.cells #[.int .i64 0, .int .i64 0, .string ⟨#[]⟩] 34 (0, 0))]) (HB.out.three0 _ _ _) ?_
  intro V hV
  clear p0 p1 p2 e0 e1 e2 hl HB
  obtain ⟨p0, p1, p2, -⟩ := cells3 hV.g0
  obtain ⟨r0, r1, r2, g0, g1, g2⟩ := cells3 hV.g1
  have hl := ltOf hV.g0
  have hl1 := ltOf hV.g1
  have HV := Lib.hid hV; clear hV
  go_wp2
  refine bodyPost_ret (v := .tuple #[.agg #[.int .i64 0, .int .i64 0, .string ⟨#[]⟩], .string ⟨#[84, 121, 112, 101, 69, 114, 114, 111, 114, 58, 32, 110, 111, 32, 109, 101, 109, 98, 101, 114, 115]⟩, .int .i64 1]) (by simp [results, Tryz.results22, go_sem, r0, r1, r2, hl1]) rfl ⟨rfl, ?_⟩
  have hFF := HV.out.old
  repeat (first | exact hFF | exact hFG | refine Fr.setCell ?_ (Or.inl (by first | (dsimp only; omega) | (simp; omega))) _ | refine Fr.alloc ?_ _)

set_option maxRecDepth 100000 in
set_option maxHeartbeats 2000000 in
theorem pget_str (w : World) (h : Value) (xk xn : Int) (xs : ByteArray) (yn : Int) (ys : ByteArray) (key : ByteArray) (hkey : key ≠ lenKey)
    (hP : Says w nowhere anyW 35 #[h, .agg #[.int .i64 xk, .int .i64 xn, .string xs]] (.agg #[.int .i64 4, .int .i64 yn, .string ys])) :
    Says w nowhere anyW 22 #[h, .agg #[.int .i64 xk, .int .i64 xn, .string xs], .string key] (.tuple #[.agg #[.int .i64 0, .int .i64 0, .string ⟨#[]⟩], .string ⟨#[]⟩, .int .i64 0]) := by
  intro W hW _
  have HW := Lib.hid hW; clear hW
  have hP' : ∀ W', Old W W' → Calls Tryz.prog 35 #[h, .agg #[.int .i64 xk, .int .i64 xn, .string xs]] W' fun e w' => e = .returned (.agg #[.int .i64 4, .int .i64 yn, .string ys]) ∧ Old W' w' := fun W' h' => hP W' (HW.out.old h') trivial
  have HP := Lib.hid hP'; clear hP hP'
  have hkb : (key.toList == [108, 101, 110, 103, 116, 104]) = false := str_ne hkey rfl
  go_enter Tryz.func22, Tryz.ntmps22
  go_upto_region 2 with ((go_at_call 35; ((with_reducible refine (HP.out _ ?_).mono ?_)); (exact ((Fr.refl _ _).alloc _).alloc _); rintro e w1 ⟨rfl, hO1⟩; have hB := (Boxes.start2 W (.cells #[.int .i64 xk, .int .i64 xn, .string xs] 34 (0, 0)) (.cells #[.int .i64 0, .int .i64 0, .string ⟨#[]⟩] 34 (0, 0))).later hO1; obtain ⟨p0, p1, p2, e0, e1, e2⟩ := cells3 hB.g0; have hl := ltOf hB.g0; have HB := Lib.hid hB; clear hB))
  refine wp_gen (R := fun V => Boxes W V [(.cells #[.int .i64 4, .int .i64 yn, .string ys] 34 (0, 0)), (.cells #[.int .i64 0, .int .i64 0, .string ⟨#[]⟩] 34 (0, 0))]) (HB.out.three0 _ _ _) ?_
  intro V hV
  clear p0 p1 p2 e0 e1 e2 hl HB
  obtain ⟨p0, p1, p2, -⟩ := cells3 hV.g0
  obtain ⟨r0, r1, r2, g0, g1, g2⟩ := cells3 hV.g1
  have hl := ltOf hV.g0
  have hl1 := ltOf hV.g1
  have HV := Lib.hid hV; clear hV
  go_wp2
  refine bodyPost_ret (v := .tuple #[.agg #[.int .i64 0, .int .i64 0, .string ⟨#[]⟩], .string ⟨#[]⟩, .int .i64 0]) (by simp [results, Tryz.results22, go_sem, r0, r1, r2, hl1]) rfl ⟨rfl, ?_⟩
  have hFF := HV.out.old
  repeat (first | exact hFF | exact hFG | refine Fr.setCell ?_ (Or.inl (by first | (dsimp only; omega) | (simp; omega))) _ | refine Fr.alloc ?_ _)

set_option maxRecDepth 100000 in
set_option maxHeartbeats 2000000 in
theorem pget_num (w : World) (h : Value) (xk xn : Int) (xs : ByteArray) (yk yn : Int) (ys : ByteArray) (key : ByteArray) (h0 : (yk == 0) = false) (h1 : (yk == 1) = false) (h4 : (yk == 4) = false)
    (hP : Says w nowhere anyW 35 #[h, .agg #[.int .i64 xk, .int .i64 xn, .string xs]] (.agg #[.int .i64 yk, .int .i64 yn, .string ys]))
    (hT : Says w nowhere anyW 40 #[h, .agg #[.int .i64 yk, .int .i64 yn, .string ys]] (.nilIface)) :
    Says w nowhere anyW 22 #[h, .agg #[.int .i64 xk, .int .i64 xn, .string xs], .string key] (.tuple #[.agg #[.int .i64 0, .int .i64 0, .string ⟨#[]⟩], .string ⟨#[]⟩, .int .i64 0]) := by
  intro W hW _
  have HW := Lib.hid hW; clear hW
  have hP' : ∀ W', Old W W' → Calls Tryz.prog 35 #[h, .agg #[.int .i64 xk, .int .i64 xn, .string xs]] W' fun e w' => e = .returned (.agg #[.int .i64 yk, .int .i64 yn, .string ys]) ∧ Old W' w' := fun W' h' => hP W' (HW.out.old h') trivial
  have HP := Lib.hid hP'; clear hP hP'
  have hT' : ∀ W', Old W W' → Calls Tryz.prog 40 #[h, .agg #[.int .i64 yk, .int .i64 yn, .string ys]] W' fun e w' => e = .returned (.nilIface) ∧ Old W' w' := fun W' h' => hT W' (HW.out.old h') trivial
  have HT := Lib.hid hT'; clear hT hT'
  go_enter Tryz.func22, Tryz.ntmps22
  go_upto_region 2 with ((go_at_call 35; ((with_reducible refine (HP.out _ ?_).mono ?_)); (exact ((Fr.refl _ _).alloc _).alloc _); rintro e w1 ⟨rfl, hO1⟩; have hB := (Boxes.start2 W (.cells #[.int .i64 xk, .int .i64 xn, .string xs] 34 (0, 0)) (.cells #[.int .i64 0, .int .i64 0, .string ⟨#[]⟩] 34 (0, 0))).later hO1; obtain ⟨p0, p1, p2, e0, e1, e2⟩ := cells3 hB.g0; have hl := ltOf hB.g0; have HB := Lib.hid hB; clear hB))
  refine wp_gen (R := fun V => Boxes W V [(.cells #[.int .i64 yk, .int .i64 yn, .string ys] 34 (0, 0)), (.cells #[.int .i64 0, .int .i64 0, .string ⟨#[]⟩] 34 (0, 0))]) (HB.out.three0 _ _ _) ?_
  intro V hV
  clear p0 p1 p2 e0 e1 e2 hl HB
  obtain ⟨p0, p1, p2, -⟩ := cells3 hV.g0
  obtain ⟨r0, r1, r2, g0, g1, g2⟩ := cells3 hV.g1
  have hl := ltOf hV.g0
  have hl1 := ltOf hV.g1
  have HV := Lib.hid hV; clear hV
  go_wp2_with (first | (go_at_call 40; ((with_reducible refine (HT.out _ ?_).mono ?_)); (exact HV.out.old); rintro e w2 ⟨rfl, hO2⟩) | (go_at_call 48; refine (find_open w2 .nilIface key none 0 ⟨rfl, rfl⟩ (xk := 0) (xn := 0) (xs := ⟨#[]⟩) rfl).mono ?_; rintro e w3 ⟨rfl, hO3⟩; have hB3 := (HV.out.later hO2).later hO3; clear r0 r1 r2 g0 g1 g2 hl1 p0 p1 p2 hl; obtain ⟨r0, r1, r2, g0, g1, g2⟩ := cells3 hB3.g1; have hl1 := ltOf hB3.g1; have hFG := hB3.old; clear hB3))
  refine bodyPost_ret (v := .tuple #[.agg #[.int .i64 0, .int .i64 0, .string ⟨#[]⟩], .string ⟨#[]⟩, .int .i64 0]) (by simp [results, Tryz.results22, go_sem, r0, r1, r2, hl1]) rfl ⟨rfl, ?_⟩
  have hFF := HV.out.old
  repeat (first | exact hFF | exact hFG | refine Fr.setCell ?_ (Or.inl (by first | (dsimp only; omega) | (simp; omega))) _ | refine Fr.alloc ?_ _)

set_option maxRecDepth 100000 in
set_option maxHeartbeats 2000000 in
theorem pput_throw (w : World) (h : Value) (xk xn : Int) (xs : ByteArray) (ik in_ : Int) (is_ : ByteArray) (zk zn : Int) (zs : ByteArray) (tk tn : Int) (ts : ByteArray) (h4 : (zk == 4) = false)
    (hP : Says w nowhere anyW 35 #[h, .agg #[.int .i64 ik, .int .i64 in_, .string is_]] (.agg #[.int .i64 zk, .int .i64 zn, .string zs]))
    (hA : Says w nowhere anyW 42 #[h, .agg #[.int .i64 xk, .int .i64 xn, .string xs]] (.pointer none)) :
    Says w nowhere anyW 30 #[h, .agg #[.int .i64 xk, .int .i64 xn, .string xs], .agg #[.int .i64 ik, .int .i64 in_, .string is_], .agg #[.int .i64 tk, .int .i64 tn, .string ts]] (.tuple #[.string ⟨#[84, 121, 112, 101, 69, 114, 114, 111, 114, 58, 32, 105, 110, 100, 101, 120]⟩, .int .i64 1]) := by
  intro W hW _
  have HW := Lib.hid hW; clear hW
  have hP' : ∀ W', Old W W' → Calls Tryz.prog 35 #[h, .agg #[.int .i64 ik, .int .i64 in_, .string is_]] W' fun e w' => e = .returned (.agg #[.int .i64 zk, .int .i64 zn, .string zs]) ∧ Old W' w' := fun W' h' => hP W' (HW.out.old h') trivial
  have HP := Lib.hid hP'; clear hP hP'
  have hA' : ∀ W', Old W W' → Calls Tryz.prog 42 #[h, .agg #[.int .i64 xk, .int .i64 xn, .string xs]] W' fun e w' => e = .returned (.pointer none) ∧ Old W' w' := fun W' h' => hA W' (HW.out.old h') trivial
  have HA := Lib.hid hA'; clear hA hA'
  go_enter Tryz.func30, Tryz.ntmps30
  go_upto_region 2 with ((go_at_call 35; ((with_reducible refine (HP.out _ ?_).mono ?_)); (exact (((Fr.refl _ _).alloc _).alloc _).alloc _); rintro e w1 ⟨rfl, hO1⟩; have hB := (Boxes.start3 W (.cells #[.int .i64 xk, .int .i64 xn, .string xs] 34 (0, 0)) (.cells #[.int .i64 ik, .int .i64 in_, .string is_] 34 (0, 0)) (.cells #[.int .i64 tk, .int .i64 tn, .string ts] 34 (0, 0))).later hO1; obtain ⟨p0, p1, p2, e0, e1, e2⟩ := cells3 hB.g1; have hl := ltOf hB.g1; have HB := Lib.hid hB; clear hB))
  refine wp_gen (R := fun V => Boxes W V [(.cells #[.int .i64 xk, .int .i64 xn, .string xs] 34 (0, 0)), (.cells #[.int .i64 zk, .int .i64 zn, .string zs] 34 (0, 0)), (.cells #[.int .i64 tk, .int .i64 tn, .string ts] 34 (0, 0))]) (HB.out.three1 _ _ _) ?_
  intro V hV
  clear p0 p1 p2 e0 e1 e2 hl HB
  obtain ⟨q0, q1, q2, -⟩ := cells3 hV.g0
  have hl0 := ltOf hV.g0
  have hl := ltOf hV.g1
  have hl2 := ltOf hV.g2
  have HV := Lib.hid hV; clear hV
  go_wp2_with (go_at_call 42; ((with_reducible refine (HA.out _ ?_).mono ?_)); (exact HV.out.old); rintro e w2 ⟨rfl, hO2⟩; have hB2 := HV.out.later hO2; clear q0 q1 q2 hl hl0 hl2; obtain ⟨q0, q1, q2, -⟩ := cells3 hB2.g0; obtain ⟨p0, p1, p2, -⟩ := cells3 hB2.g1; obtain ⟨t0, t1, t2, -⟩ := cells3 hB2.g2; have hFG := hB2.old; have HB2 := Lib.hid hB2; clear hB2)
  go_ret2
  exact ⟨rfl, hFG⟩

set_option maxRecDepth 100000 in
set_option maxHeartbeats 2000000 in
theorem pput_set (w : World) (h : Value) (xk xn : Int) (xs : ByteArray) (ik in_ : Int) (is_ : ByteArray) (zn : Int) (zs : ByteArray) (tk tn : Int) (ts : ByteArray) (rt : ByteArray) (rf : Int)
    (hP : Says w nowhere anyW 35 #[h, .agg #[.int .i64 ik, .int .i64 in_, .string is_]] (.agg #[.int .i64 4, .int .i64 zn, .string zs]))
    (hA : Says w nowhere anyW 42 #[h, .agg #[.int .i64 xk, .int .i64 xn, .string xs]] (.pointer none))
    (hG : Says w nowhere anyW 20 #[h, .agg #[.int .i64 xk, .int .i64 xn, .string xs], .string zs, .agg #[.int .i64 tk, .int .i64 tn, .string ts]] (.tuple #[.string rt, .int .i64 rf])) :
    Says w nowhere anyW 30 #[h, .agg #[.int .i64 xk, .int .i64 xn, .string xs], .agg #[.int .i64 ik, .int .i64 in_, .string is_], .agg #[.int .i64 tk, .int .i64 tn, .string ts]] (.tuple #[.string rt, .int .i64 rf]) := by
  intro W hW _
  have HW := Lib.hid hW; clear hW
  have hP' : ∀ W', Old W W' → Calls Tryz.prog 35 #[h, .agg #[.int .i64 ik, .int .i64 in_, .string is_]] W' fun e w' => e = .returned (.agg #[.int .i64 4, .int .i64 zn, .string zs]) ∧ Old W' w' := fun W' h' => hP W' (HW.out.old h') trivial
  have HP := Lib.hid hP'; clear hP hP'
  have hA' : ∀ W', Old W W' → Calls Tryz.prog 42 #[h, .agg #[.int .i64 xk, .int .i64 xn, .string xs]] W' fun e w' => e = .returned (.pointer none) ∧ Old W' w' := fun W' h' => hA W' (HW.out.old h') trivial
  have HA := Lib.hid hA'; clear hA hA'
  have hG' : ∀ W', Old W W' → Calls Tryz.prog 20 #[h, .agg #[.int .i64 xk, .int .i64 xn, .string xs], .string zs, .agg #[.int .i64 tk, .int .i64 tn, .string ts]] W' fun e w' => e = .returned (.tuple #[.string rt, .int .i64 rf]) ∧ Old W' w' := fun W' h' => hG W' (HW.out.old h') trivial
  have HG := Lib.hid hG'; clear hG hG'
  go_enter Tryz.func30, Tryz.ntmps30
  go_upto_region 2 with ((go_at_call 35; ((with_reducible refine (HP.out _ ?_).mono ?_)); (exact (((Fr.refl _ _).alloc _).alloc _).alloc _); rintro e w1 ⟨rfl, hO1⟩; have hB := (Boxes.start3 W (.cells #[.int .i64 xk, .int .i64 xn, .string xs] 34 (0, 0)) (.cells #[.int .i64 ik, .int .i64 in_, .string is_] 34 (0, 0)) (.cells #[.int .i64 tk, .int .i64 tn, .string ts] 34 (0, 0))).later hO1; obtain ⟨p0, p1, p2, e0, e1, e2⟩ := cells3 hB.g1; have hl := ltOf hB.g1; have HB := Lib.hid hB; clear hB))
  refine wp_gen (R := fun V => Boxes W V [(.cells #[.int .i64 xk, .int .i64 xn, .string xs] 34 (0, 0)), (.cells #[.int .i64 4, .int .i64 zn, .string zs] 34 (0, 0)), (.cells #[.int .i64 tk, .int .i64 tn, .string ts] 34 (0, 0))]) (HB.out.three1 _ _ _) ?_
  intro V hV
  clear p0 p1 p2 e0 e1 e2 hl HB
  obtain ⟨q0, q1, q2, -⟩ := cells3 hV.g0
  have hl0 := ltOf hV.g0
  have hl := ltOf hV.g1
  have hl2 := ltOf hV.g2
  have HV := Lib.hid hV; clear hV
  go_wp2_with (first | (go_at_call 42; ((with_reducible refine (HA.out _ ?_).mono ?_)); (exact HV.out.old); rintro e w2 ⟨rfl, hO2⟩; have hB2 := HV.out.later hO2; clear q0 q1 q2 hl hl0 hl2; obtain ⟨q0, q1, q2, -⟩ := cells3 hB2.g0; obtain ⟨p0, p1, p2, -⟩ := cells3 hB2.g1; obtain ⟨t0, t1, t2, -⟩ := cells3 hB2.g2; have hFG := hB2.old; have HB2 := Lib.hid hB2; clear hB2) | (go_at_call 20; ((with_reducible refine (HG.out _ ?_).mono ?_)); (exact hFG); rintro e w3 ⟨rfl, hO3⟩; have hFH := hFG.old hO3))
  go_ret2
  exact ⟨rfl, hFH⟩
end Go.Proofs.YtlimgecmolhdhaaGreatDoor
