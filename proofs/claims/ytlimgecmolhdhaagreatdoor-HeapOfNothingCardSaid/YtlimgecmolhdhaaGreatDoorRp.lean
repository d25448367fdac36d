/- The reference's other functions at what is no thing. -/
import Derived.Test.YtlimgecmolhdhaaGreatDoorRb
set_option linter.unusedVariables false
set_option linter.unusedSimpArgs false
namespace Go.Proofs.YtlimgecmolhdhaaGreatDoor
open Go.RowKit

theorem heapNew3 (w : World) (o1 o2 o3 o4 : Obj) : ((((w.alloc o1).alloc o2).alloc o3).alloc o4).heap[w.heap.size + 1 + 1 + 1]? = some o4 := by simpa using heapNew (((w.alloc o1).alloc o2).alloc o3) o4

set_option maxRecDepth 100000 in
set_option maxHeartbeats 2000000 in
theorem rset_throw (w : World) (R : Nat) (xk xn : Int) (xs : ByteArray) (yk yn : Int) (ys : ByteArray) (tk tn : Int) (ts : ByteArray) (key : ByteArray) (h5 : (yk != 5) = true)
    (hS : Says w nowhere anyW 38 #[rp R, .agg #[.int .i64 xk, .int .i64 xn, .string xs]] (.agg #[.int .i64 yk, .int .i64 yn, .string ys])) :
    Says w nowhere anyW 25 #[rp R, .agg #[.int .i64 xk, .int .i64 xn, .string xs], .string key, .agg #[.int .i64 tk, .int .i64 tn, .string ts]] (outV AV.zero ⟨#[84, 121, 112, 101, 69, 114, 114, 111, 114, 58, 32, 110, 111, 32, 109, 101, 109, 98, 101, 114, 115]⟩ 1) := by
  intro W hW _
  have HW := Lib.hid hW; clear hW
  have hS' : ∀ W', Old W W' → Calls Tryz.prog 38 #[rp R, .agg #[.int .i64 xk, .int .i64 xn, .string xs]] W' fun e w' => e = .returned (.agg #[.int .i64 yk, .int .i64 yn, .string ys]) ∧ Old W' w' := fun W' h => hS W' (HW.out.old h) trivial
  have HS := Lib.hid hS'; clear hS hS'
  go_enter Tryz.func25, Tryz.ntmps25
  go_wp2_with (first | (go_at_call 38; ((with_reducible refine (HS.out _ ?_).mono ?_)); (exact (((Fr.refl _ _).alloc _).alloc _).alloc _); rintro e w1 ⟨rfl, hO⟩; have hF := ((((Fr.refl (fun _ => False) W).alloc (.cells #[.int .i64 xk, .int .i64 xn, .string xs] 34)).alloc (.cells #[.int .i64 tk, .int .i64 tn, .string ts] 34)).alloc (.cells #[.int .i64 0, .int .i64 0, .string ⟨#[]⟩, .string ⟨#[]⟩, .int .i64 0] 56)).old hO; have hF1 := hF.alloc (.cells #[.int .i64 yk, .int .i64 yn, .string ys] 34); have B1 := Lib.hid (heapAlloc (hO.at (heapNew2 W (.cells #[.int .i64 xk, .int .i64 xn, .string xs] 34) (.cells #[.int .i64 tk, .int .i64 tn, .string ts] 34) (.cells #[.int .i64 0, .int .i64 0, .string ⟨#[]⟩, .string ⟨#[]⟩, .int .i64 0] 56)) (fun f => f)) (.cells #[.int .i64 yk, .int .i64 yn, .string ys] 34))) | (go_at_call 49; refine (rthrow_any _ _).mono ?_; rintro e w3 ⟨rfl, hO3⟩; have b1 := hO3.at B1.out (fun f => f); obtain ⟨o0, o1, o2, o3, o4, g0, g1, g2, g3, g4⟩ := cells5 b1; have hl := ltOf b1; have hFF := hF1.old hO3; clear b1))
  refine bodyPost_ret (v := outV AV.zero ⟨#[84, 121, 112, 101, 69, 114, 114, 111, 114, 58, 32, 110, 111, 32, 109, 101, 109, 98, 101, 114, 115]⟩ 1) (by simp [results, Tryz.results25, go_sem, o0, o1, o2, o3, o4, hl, AV.zero]) rfl ⟨rfl, ?_⟩
  repeat (first | exact hFF | refine Fr.setCell ?_ (Or.inl (by first | (dsimp only; omega) | (simp; omega))) _ | refine Fr.alloc ?_ _)

set_option maxRecDepth 100000 in
set_option maxHeartbeats 2000000 in
theorem rhas_throw (w : World) (R : Nat) (xk xn : Int) (xs : ByteArray) (yk yn : Int) (ys : ByteArray) (key : ByteArray) (h5 : (yk != 5) = true)
    (hS : Says w nowhere anyW 38 #[rp R, .agg #[.int .i64 xk, .int .i64 xn, .string xs]] (.agg #[.int .i64 yk, .int .i64 yn, .string ys])) :
    Says w nowhere anyW 27 #[rp R, .agg #[.int .i64 xk, .int .i64 xn, .string xs], .string key] (.tuple #[.bool false, outV AV.zero ⟨#[84, 121, 112, 101, 69, 114, 114, 111, 114, 58, 32, 105, 110]⟩ 1]) := by
  intro W hW _
  have HW := Lib.hid hW; clear hW
  have hS' : ∀ W', Old W W' → Calls Tryz.prog 38 #[rp R, .agg #[.int .i64 xk, .int .i64 xn, .string xs]] W' fun e w' => e = .returned (.agg #[.int .i64 yk, .int .i64 yn, .string ys]) ∧ Old W' w' := fun W' h => hS W' (HW.out.old h) trivial
  have HS := Lib.hid hS'; clear hS hS'
  go_enter Tryz.func27, Tryz.ntmps27
  go_wp2_with (first | (go_at_call 38; ((with_reducible refine (HS.out _ ?_).mono ?_)); (exact ((Fr.refl _ _).alloc _).alloc _); rintro e w1 ⟨rfl, hO⟩; have hF := (((Fr.refl (fun _ => False) W).alloc (.cells #[.int .i64 xk, .int .i64 xn, .string xs] 34)).alloc (.cells #[.int .i64 0, .int .i64 0, .string ⟨#[]⟩, .string ⟨#[]⟩, .int .i64 0] 56)).old hO; have hF1 := hF.alloc (.cells #[.int .i64 yk, .int .i64 yn, .string ys] 34); have B1 := Lib.hid (heapAlloc (hO.at (heapNew1 W (.cells #[.int .i64 xk, .int .i64 xn, .string xs] 34) (.cells #[.int .i64 0, .int .i64 0, .string ⟨#[]⟩, .string ⟨#[]⟩, .int .i64 0] 56)) (fun f => f)) (.cells #[.int .i64 yk, .int .i64 yn, .string ys] 34))) | (go_at_call 49; refine (rthrow_any _ _).mono ?_; rintro e w3 ⟨rfl, hO3⟩; have b1 := hO3.at B1.out (fun f => f); obtain ⟨o0, o1, o2, o3, o4, g0, g1, g2, g3, g4⟩ := cells5 b1; have hl := ltOf b1; have hFF := hF1.old hO3; clear b1))
  refine bodyPost_ret (v := .tuple #[.bool false, outV AV.zero ⟨#[84, 121, 112, 101, 69, 114, 114, 111, 114, 58, 32, 105, 110]⟩ 1]) (by simp [results, Tryz.results27, go_sem, o0, o1, o2, o3, o4, hl, AV.zero]) rfl ⟨rfl, ?_⟩
  repeat (first | exact hFF | refine Fr.setCell ?_ (Or.inl (by first | (dsimp only; omega) | (simp; omega))) _ | refine Fr.alloc ?_ _)

set_option maxRecDepth 100000 in
set_option maxHeartbeats 2000000 in
theorem rput_throw (w : World) (R : Nat) (xk xn : Int) (xs : ByteArray) (yk yn : Int) (ys : ByteArray) (ik in_ : Int) (is_ : ByteArray) (zk zn : Int) (zs : ByteArray) (tk tn : Int) (ts : ByteArray) (h5 : (yk == 5) = false) (h4 : (zk == 4) = false)
    (hS : Says w nowhere anyW 38 #[rp R, .agg #[.int .i64 xk, .int .i64 xn, .string xs]] (.agg #[.int .i64 yk, .int .i64 yn, .string ys]))
    (hI : Says w nowhere anyW 38 #[rp R, .agg #[.int .i64 ik, .int .i64 in_, .string is_]] (.agg #[.int .i64 zk, .int .i64 zn, .string zs])) :
    Says w nowhere anyW 31 #[rp R, .agg #[.int .i64 xk, .int .i64 xn, .string xs], .agg #[.int .i64 ik, .int .i64 in_, .string is_], .agg #[.int .i64 tk, .int .i64 tn, .string ts]] (outV AV.zero ⟨#[84, 121, 112, 101, 69, 114, 114, 111, 114, 58, 32, 105, 110, 100, 101, 120]⟩ 1) := by
  intro W hW _
  have HW := Lib.hid hW; clear hW
  have hS' : ∀ W', Old W W' → Calls Tryz.prog 38 #[rp R, .agg #[.int .i64 xk, .int .i64 xn, .string xs]] W' fun e w' => e = .returned (.agg #[.int .i64 yk, .int .i64 yn, .string ys]) ∧ Old W' w' := fun W' h => hS W' (HW.out.old h) trivial
  have HS := Lib.hid hS'; clear hS hS'
  have hI' : ∀ W', Old W W' → Calls Tryz.prog 38 #[rp R, .agg #[.int .i64 ik, .int .i64 in_, .string is_]] W' fun e w' => e = .returned (.agg #[.int .i64 zk, .int .i64 zn, .string zs]) ∧ Old W' w' := fun W' h => hI W' (HW.out.old h) trivial
  have HI := Lib.hid hI'; clear hI hI'
  go_enter Tryz.func31, Tryz.ntmps31
  go_wp2_with (first | (go_at_call 38; ((with_reducible refine (HS.out _ ?_).mono ?_)); (exact ((((Fr.refl _ _).alloc _).alloc _).alloc _).alloc _); rintro e w1 ⟨rfl, hO⟩; have hF := (((((Fr.refl (fun _ => False) W).alloc (.cells #[.int .i64 xk, .int .i64 xn, .string xs] 34)).alloc (.cells #[.int .i64 ik, .int .i64 in_, .string is_] 34)).alloc (.cells #[.int .i64 tk, .int .i64 tn, .string ts] 34)).alloc (.cells #[.int .i64 0, .int .i64 0, .string ⟨#[]⟩, .string ⟨#[]⟩, .int .i64 0] 56)).old hO; have hF1 := hF.alloc (.cells #[.int .i64 yk, .int .i64 yn, .string ys] 34); have B1 := Lib.hid (heapAlloc (hO.at (heapNew3 W (.cells #[.int .i64 xk, .int .i64 xn, .string xs] 34) (.cells #[.int .i64 ik, .int .i64 in_, .string is_] 34) (.cells #[.int .i64 tk, .int .i64 tn, .string ts] 34) (.cells #[.int .i64 0, .int .i64 0, .string ⟨#[]⟩, .string ⟨#[]⟩, .int .i64 0] 56)) (fun f => f)) (.cells #[.int .i64 yk, .int .i64 yn, .string ys] 34)); have B2 := Lib.hid (heapAlloc (hO.at (heapAlloc (heapAlloc (heapNew1 W (.cells #[.int .i64 xk, .int .i64 xn, .string xs] 34) (.cells #[.int .i64 ik, .int .i64 in_, .string is_] 34)) (.cells #[.int .i64 tk, .int .i64 tn, .string ts] 34)) (.cells #[.int .i64 0, .int .i64 0, .string ⟨#[]⟩, .string ⟨#[]⟩, .int .i64 0] 56)) (fun f => f)) (.cells #[.int .i64 yk, .int .i64 yn, .string ys] 34)); have B3 := Lib.hid (heapAlloc (hO.at (heapAlloc (heapNew2 W (.cells #[.int .i64 xk, .int .i64 xn, .string xs] 34) (.cells #[.int .i64 ik, .int .i64 in_, .string is_] 34) (.cells #[.int .i64 tk, .int .i64 tn, .string ts] 34)) (.cells #[.int .i64 0, .int .i64 0, .string ⟨#[]⟩, .string ⟨#[]⟩, .int .i64 0] 56)) (fun f => f)) (.cells #[.int .i64 yk, .int .i64 yn, .string ys] 34)); have B5 := Lib.hid (heapNew w1 (.cells #[.int .i64 yk, .int .i64 yn, .string ys] 34)); obtain ⟨r0, r1, r2, _, _, _⟩ := cells3 B2.out; have hlr := ltOf B2.out) | (go_at_call 38; ((with_reducible refine (HI.out _ ?_).mono ?_)); (exact hF1); rintro e w2 ⟨rfl, hO2⟩; clear r0 r1 r2; have hF2 := (hF1.old hO2).alloc (.cells #[.int .i64 zk, .int .i64 zn, .string zs] 34); have D1 := Lib.hid (heapAlloc (hO2.at B1.out (fun f => f)) (.cells #[.int .i64 zk, .int .i64 zn, .string zs] 34)); have D3 := Lib.hid (heapAlloc (hO2.at B3.out (fun f => f)) (.cells #[.int .i64 zk, .int .i64 zn, .string zs] 34)); have D5 := Lib.hid (heapAlloc (hO2.at B5.out (fun f => f)) (.cells #[.int .i64 zk, .int .i64 zn, .string zs] 34)); have D6 := Lib.hid (heapNew w2 (.cells #[.int .i64 zk, .int .i64 zn, .string zs] 34)); clear B1 B2 B3 B5; obtain ⟨q0, q1, q2, _, _, _⟩ := cells3 D5.out; have hlq := ltOf D5.out) | (go_at_call 52; refine (rarray_nref _ R yk yn ys h5 _ (Fr.refl _ _) trivial).mono ?_; rintro e w3 ⟨rfl, hO3⟩; clear q0 q1 q2; have hF3 := hF2.old hO3; have b5 := hO3.at D5.out (fun f => f); obtain ⟨q0, q1, q2, _, _, _⟩ := cells3 b5; have E5 := Lib.hid b5; clear b5; obtain ⟨t0, t1, t2, _, _, _⟩ := cells3 (hO3.at D6.out (fun f => f)); obtain ⟨u0, u1, u2, _, _, _⟩ := cells3 (hO3.at D3.out (fun f => f)); have E1 := Lib.hid (hO3.at D1.out (fun f => f))) | (go_at_call 49; refine (rthrow_any _ _).mono ?_; rintro e w4 ⟨rfl, hO4⟩; have b1 := hO4.at E1.out (fun f => f); obtain ⟨o0, o1, o2, o3, o4, g0, g1, g2, g3, g4⟩ := cells5 b1; have hl := ltOf b1; have hFF := hF3.old hO4; clear b1))
  refine bodyPost_ret (v := outV AV.zero ⟨#[84, 121, 112, 101, 69, 114, 114, 111, 114, 58, 32, 105, 110, 100, 101, 120]⟩ 1) (by simp [results, Tryz.results31, go_sem, o0, o1, o2, o3, o4, hl, AV.zero]) rfl ⟨rfl, ?_⟩
  repeat (first | exact hFF | refine Fr.setCell ?_ (Or.inl (by first | (dsimp only; omega) | (simp; omega))) _ | refine Fr.alloc ?_ _)

set_option maxRecDepth 100000 in
set_option maxHeartbeats 2000000 in
theorem rput_set (w : World) (R : Nat) (xk xn : Int) (xs : ByteArray) (yk yn : Int) (ys : ByteArray) (ik in_ : Int) (is_ : ByteArray) (zn : Int) (zs : ByteArray) (tk tn : Int) (ts : ByteArray) (h5 : (yk == 5) = false) (r : AV) (t : ByteArray) (f : Int)
    (hS : Says w nowhere anyW 38 #[rp R, .agg #[.int .i64 xk, .int .i64 xn, .string xs]] (.agg #[.int .i64 yk, .int .i64 yn, .string ys]))
    (hI : Says w nowhere anyW 38 #[rp R, .agg #[.int .i64 ik, .int .i64 in_, .string is_]] (.agg #[.int .i64 4, .int .i64 zn, .string zs]))
    (hG : Says w nowhere anyW 25 #[rp R, .agg #[.int .i64 yk, .int .i64 yn, .string ys], .string zs, .agg #[.int .i64 tk, .int .i64 tn, .string ts]] (outV r t f)) :
    Says w nowhere anyW 31 #[rp R, .agg #[.int .i64 xk, .int .i64 xn, .string xs], .agg #[.int .i64 ik, .int .i64 in_, .string is_], .agg #[.int .i64 tk, .int .i64 tn, .string ts]] (outV r t f) := by
  intro W hW _
  have HW := Lib.hid hW; clear hW
  have hS' : ∀ W', Old W W' → Calls Tryz.prog 38 #[rp R, .agg #[.int .i64 xk, .int .i64 xn, .string xs]] W' fun e w' => e = .returned (.agg #[.int .i64 yk, .int .i64 yn, .string ys]) ∧ Old W' w' := fun W' h => hS W' (HW.out.old h) trivial
  have HS := Lib.hid hS'; clear hS hS'
  have hI' : ∀ W', Old W W' → Calls Tryz.prog 38 #[rp R, .agg #[.int .i64 ik, .int .i64 in_, .string is_]] W' fun e w' => e = .returned (.agg #[.int .i64 4, .int .i64 zn, .string zs]) ∧ Old W' w' := fun W' h => hI W' (HW.out.old h) trivial
  have HI := Lib.hid hI'; clear hI hI'
  have hG' : ∀ W', Old W W' → Calls Tryz.prog 25 #[rp R, .agg #[.int .i64 yk, .int .i64 yn, .string ys], .string zs, .agg #[.int .i64 tk, .int .i64 tn, .string ts]] W' fun e w' => e = .returned (outV r t f) ∧ Old W' w' := fun W' h => hG W' (HW.out.old h) trivial
  have HG := Lib.hid hG'; clear hG hG'
  obtain ⟨rk, rn, rs⟩ := r
  go_enter Tryz.func31, Tryz.ntmps31
  go_wp2_with (first | (go_at_call 38; ((with_reducible refine (HS.out _ ?_).mono ?_)); (exact ((((Fr.refl _ _).alloc _).alloc _).alloc _).alloc _); rintro e w1 ⟨rfl, hO⟩; have hF := (((((Fr.refl (fun _ => False) W).alloc (.cells #[.int .i64 xk, .int .i64 xn, .string xs] 34)).alloc (.cells #[.int .i64 ik, .int .i64 in_, .string is_] 34)).alloc (.cells #[.int .i64 tk, .int .i64 tn, .string ts] 34)).alloc (.cells #[.int .i64 0, .int .i64 0, .string ⟨#[]⟩, .string ⟨#[]⟩, .int .i64 0] 56)).old hO; have hF1 := hF.alloc (.cells #[.int .i64 yk, .int .i64 yn, .string ys] 34); have B1 := Lib.hid (heapAlloc (hO.at (heapNew3 W (.cells #[.int .i64 xk, .int .i64 xn, .string xs] 34) (.cells #[.int .i64 ik, .int .i64 in_, .string is_] 34) (.cells #[.int .i64 tk, .int .i64 tn, .string ts] 34) (.cells #[.int .i64 0, .int .i64 0, .string ⟨#[]⟩, .string ⟨#[]⟩, .int .i64 0] 56)) (fun f => f)) (.cells #[.int .i64 yk, .int .i64 yn, .string ys] 34)); have B2 := Lib.hid (heapAlloc (hO.at (heapAlloc (heapAlloc (heapNew1 W (.cells #[.int .i64 xk, .int .i64 xn, .string xs] 34) (.cells #[.int .i64 ik, .int .i64 in_, .string is_] 34)) (.cells #[.int .i64 tk, .int .i64 tn, .string ts] 34)) (.cells #[.int .i64 0, .int .i64 0, .string ⟨#[]⟩, .string ⟨#[]⟩, .int .i64 0] 56)) (fun f => f)) (.cells #[.int .i64 yk, .int .i64 yn, .string ys] 34)); have B3 := Lib.hid (heapAlloc (hO.at (heapAlloc (heapNew2 W (.cells #[.int .i64 xk, .int .i64 xn, .string xs] 34) (.cells #[.int .i64 ik, .int .i64 in_, .string is_] 34) (.cells #[.int .i64 tk, .int .i64 tn, .string ts] 34)) (.cells #[.int .i64 0, .int .i64 0, .string ⟨#[]⟩, .string ⟨#[]⟩, .int .i64 0] 56)) (fun f => f)) (.cells #[.int .i64 yk, .int .i64 yn, .string ys] 34)); have B5 := Lib.hid (heapNew w1 (.cells #[.int .i64 yk, .int .i64 yn, .string ys] 34)); obtain ⟨r0, r1, r2, _, _, _⟩ := cells3 B2.out; have hlr := ltOf B2.out) | (go_at_call 38; ((with_reducible refine (HI.out _ ?_).mono ?_)); (exact hF1); rintro e w2 ⟨rfl, hO2⟩; clear r0 r1 r2; have hF2 := (hF1.old hO2).alloc (.cells #[.int .i64 4, .int .i64 zn, .string zs] 34); have D1 := Lib.hid (heapAlloc (hO2.at B1.out (fun f => f)) (.cells #[.int .i64 4, .int .i64 zn, .string zs] 34)); have D3 := Lib.hid (heapAlloc (hO2.at B3.out (fun f => f)) (.cells #[.int .i64 4, .int .i64 zn, .string zs] 34)); have D5 := Lib.hid (heapAlloc (hO2.at B5.out (fun f => f)) (.cells #[.int .i64 4, .int .i64 zn, .string zs] 34)); have D6 := Lib.hid (heapNew w2 (.cells #[.int .i64 4, .int .i64 zn, .string zs] 34)); clear B1 B2 B3 B5; obtain ⟨q0, q1, q2, _, _, _⟩ := cells3 D5.out; have hlq := ltOf D5.out) | (go_at_call 52; refine (rarray_nref _ R yk yn ys h5 _ (Fr.refl _ _) trivial).mono ?_; rintro e w3 ⟨rfl, hO3⟩; clear q0 q1 q2; have hF3 := hF2.old hO3; have b5 := hO3.at D5.out (fun f => f); obtain ⟨q0, q1, q2, _, _, _⟩ := cells3 b5; have E5 := Lib.hid b5; clear b5; obtain ⟨t0, t1, t2, _, _, _⟩ := cells3 (hO3.at D6.out (fun f => f)); obtain ⟨u0, u1, u2, _, _, _⟩ := cells3 (hO3.at D3.out (fun f => f)); have E1 := Lib.hid (hO3.at D1.out (fun f => f))) | (go_at_call 25; ((with_reducible refine (HG.out _ ?_).mono ?_)); (exact hF3); rintro e w4 ⟨rfl, hO4⟩; have b1 := hO4.at E1.out (fun f => f); obtain ⟨o0, o1, o2, o3, o4, g0, g1, g2, g3, g4⟩ := cells5 b1; have hl := ltOf b1; have hFF := hF3.old hO4; clear b1))
  refine bodyPost_ret (v := outV ⟨rk, rn, rs⟩ t f) (by simp [results, Tryz.results31, go_sem, o0, o1, o2, o3, o4, hl, AV.zero]) rfl ⟨rfl, ?_⟩
  repeat (first | exact hFF | refine Fr.setCell ?_ (Or.inl (by first | (dsimp only; omega) | (simp; omega))) _ | refine Fr.alloc ?_ _)

set_option maxRecDepth 100000 in
set_option maxHeartbeats 2000000 in
theorem rpush_no (w : World) (R : Nat) (ref k : Int) (tk tn : Int) (ts : ByteArray) (hk : (k != 2) = true)
    (hK : Says w nowhere anyW 15 #[rp R, .int .i64 ref] (.int .i64 k)) :
    Says w nowhere anyW 33 #[rp R, .int .i64 ref, .agg #[.int .i64 tk, .int .i64 tn, .string ts]] (.tuple #[.int .i64 (-1), .int .i64 1]) := by
  intro W hW _
  have HW := Lib.hid hW; clear hW
  go_enter Tryz.func33, Tryz.ntmps33
  go_wp2_with (go_at_call 15; refine (hK _ (HW.out.old ((Fr.refl _ _).alloc _)) trivial).mono ?_; rintro e w1 ⟨rfl, hO⟩)
  go_ret2
  exact ⟨rfl, ((Fr.refl _ _).alloc _).old hO⟩

set_option maxRecDepth 100000 in
set_option maxHeartbeats 2000000 in
theorem rlen_no (w : World) (R : Nat) (ref k : Int) (hk : (k != 2) = true)
    (hK : Says w nowhere anyW 15 #[rp R, .int .i64 ref] (.int .i64 k)) :
    Says w nowhere anyW 17 #[rp R, .int .i64 ref] (.int .i64 0) := by
  intro W hW _
  have HW := Lib.hid hW; clear hW
  go_enter Tryz.func17, Tryz.ntmps17
  go_wp2_with (go_at_call 15; refine (hK _ (HW.out.old (Fr.refl _ _)) trivial).mono ?_; rintro e w1 ⟨rfl, hO⟩)
  go_ret
  exact ⟨rfl, hO⟩

set_option maxRecDepth 100000 in
set_option maxHeartbeats 2000000 in
theorem rmake_full (w : World) (R : Nat) (room used : Int) (a : Option Addr) (n cap : Nat) (kind proto : Int) (hR : RBlk w R room used a n cap) (hlt : room ≤ used) :
    Says w nowhere anyW 21 #[rp R, .int .i64 kind, .int .i64 proto] (.tuple #[.int .i64 (-1), .int .i64 3]) := by
  intro W hW _
  have HW := Lib.hid hW; clear hW
  have c0 := cellOf (HW.out.at hR (fun f => f)) 0 _ rfl
  have c1 := cellOf (HW.out.at hR (fun f => f)) 1 _ rfl
  have HR := Lib.hid hR; clear hR
  go_enter Tryz.func21, Tryz.ntmps21
  go_wp2
  go_quiet (fail)
  go_wp2
  go_ret2
  exact ⟨rfl, (Fr.refl _ _).drewN _⟩

set_option maxRecDepth 100000 in
set_option maxHeartbeats 2000000 in
theorem rtypeof_0 (w : World) (R : Nat) (xk xn : Int) (xs : ByteArray) (yn : Int) (ys : ByteArray)
    (hS : Says w nowhere anyW 38 #[rp R, .agg #[.int .i64 xk, .int .i64 xn, .string xs]] (.agg #[.int .i64 0, .int .i64 yn, .string ys])) :
    Says w nowhere anyW 34 #[rp R, .agg #[.int .i64 xk, .int .i64 xn, .string xs]] (.string ⟨#[117, 110, 100, 101, 102, 105, 110, 101, 100]⟩) := by
  intro W hW _
  have HW := Lib.hid hW; clear hW
  have hS' : ∀ W', Old W W' → Calls Tryz.prog 38 #[rp R, .agg #[.int .i64 xk, .int .i64 xn, .string xs]] W' fun e w' => e = .returned (.agg #[.int .i64 0, .int .i64 yn, .string ys]) ∧ Old W' w' := fun W' h => hS W' (HW.out.old h) trivial
  have HS := Lib.hid hS'; clear hS hS'
  go_enter Tryz.func34, Tryz.ntmps34
  go_wp2_with (go_at_call 38; ((with_reducible refine (HS.out _ ?_).mono ?_)); (exact (Fr.refl _ _).alloc _); rintro e w1 ⟨rfl, hO⟩; have hFF := (((Fr.refl (fun _ => False) W).alloc (.cells #[.int .i64 xk, .int .i64 xn, .string xs] 34)).old hO).alloc (.cells #[.int .i64 0, .int .i64 yn, .string ys] 34))
  go_ret
  exact ⟨rfl, hFF⟩

set_option maxRecDepth 100000 in
set_option maxHeartbeats 2000000 in
theorem rtypeof_1 (w : World) (R : Nat) (xk xn : Int) (xs : ByteArray) (yn : Int) (ys : ByteArray)
    (hS : Says w nowhere anyW 38 #[rp R, .agg #[.int .i64 xk, .int .i64 xn, .string xs]] (.agg #[.int .i64 1, .int .i64 yn, .string ys])) :
    Says w nowhere anyW 34 #[rp R, .agg #[.int .i64 xk, .int .i64 xn, .string xs]] (.string ⟨#[111, 98, 106, 101, 99, 116]⟩) := by
  intro W hW _
  have HW := Lib.hid hW; clear hW
  have hS' : ∀ W', Old W W' → Calls Tryz.prog 38 #[rp R, .agg #[.int .i64 xk, .int .i64 xn, .string xs]] W' fun e w' => e = .returned (.agg #[.int .i64 1, .int .i64 yn, .string ys]) ∧ Old W' w' := fun W' h => hS W' (HW.out.old h) trivial
  have HS := Lib.hid hS'; clear hS hS'
  go_enter Tryz.func34, Tryz.ntmps34
  go_wp2_with (go_at_call 38; ((with_reducible refine (HS.out _ ?_).mono ?_)); (exact (Fr.refl _ _).alloc _); rintro e w1 ⟨rfl, hO⟩; have hFF := (((Fr.refl (fun _ => False) W).alloc (.cells #[.int .i64 xk, .int .i64 xn, .string xs] 34)).old hO).alloc (.cells #[.int .i64 1, .int .i64 yn, .string ys] 34))
  go_ret
  exact ⟨rfl, hFF⟩

set_option maxRecDepth 100000 in
set_option maxHeartbeats 2000000 in
theorem rtypeof_2 (w : World) (R : Nat) (xk xn : Int) (xs : ByteArray) (yn : Int) (ys : ByteArray)
    (hS : Says w nowhere anyW 38 #[rp R, .agg #[.int .i64 xk, .int .i64 xn, .string xs]] (.agg #[.int .i64 2, .int .i64 yn, .string ys])) :
    Says w nowhere anyW 34 #[rp R, .agg #[.int .i64 xk, .int .i64 xn, .string xs]] (.string ⟨#[98, 111, 111, 108, 101, 97, 110]⟩) := by
  intro W hW _
  have HW := Lib.hid hW; clear hW
  have hS' : ∀ W', Old W W' → Calls Tryz.prog 38 #[rp R, .agg #[.int .i64 xk, .int .i64 xn, .string xs]] W' fun e w' => e = .returned (.agg #[.int .i64 2, .int .i64 yn, .string ys]) ∧ Old W' w' := fun W' h => hS W' (HW.out.old h) trivial
  have HS := Lib.hid hS'; clear hS hS'
  go_enter Tryz.func34, Tryz.ntmps34
  go_wp2_with (go_at_call 38; ((with_reducible refine (HS.out _ ?_).mono ?_)); (exact (Fr.refl _ _).alloc _); rintro e w1 ⟨rfl, hO⟩; have hFF := (((Fr.refl (fun _ => False) W).alloc (.cells #[.int .i64 xk, .int .i64 xn, .string xs] 34)).old hO).alloc (.cells #[.int .i64 2, .int .i64 yn, .string ys] 34))
  go_ret
  exact ⟨rfl, hFF⟩

set_option maxRecDepth 100000 in
set_option maxHeartbeats 2000000 in
theorem rtypeof_3 (w : World) (R : Nat) (xk xn : Int) (xs : ByteArray) (yn : Int) (ys : ByteArray)
    (hS : Says w nowhere anyW 38 #[rp R, .agg #[.int .i64 xk, .int .i64 xn, .string xs]] (.agg #[.int .i64 3, .int .i64 yn, .string ys])) :
    Says w nowhere anyW 34 #[rp R, .agg #[.int .i64 xk, .int .i64 xn, .string xs]] (.string ⟨#[110, 117, 109, 98, 101, 114]⟩) := by
  intro W hW _
  have HW := Lib.hid hW; clear hW
  have hS' : ∀ W', Old W W' → Calls Tryz.prog 38 #[rp R, .agg #[.int .i64 xk, .int .i64 xn, .string xs]] W' fun e w' => e = .returned (.agg #[.int .i64 3, .int .i64 yn, .string ys]) ∧ Old W' w' := fun W' h => hS W' (HW.out.old h) trivial
  have HS := Lib.hid hS'; clear hS hS'
  go_enter Tryz.func34, Tryz.ntmps34
  go_wp2_with (go_at_call 38; ((with_reducible refine (HS.out _ ?_).mono ?_)); (exact (Fr.refl _ _).alloc _); rintro e w1 ⟨rfl, hO⟩; have hFF := (((Fr.refl (fun _ => False) W).alloc (.cells #[.int .i64 xk, .int .i64 xn, .string xs] 34)).old hO).alloc (.cells #[.int .i64 3, .int .i64 yn, .string ys] 34))
  go_ret
  exact ⟨rfl, hFF⟩

set_option maxRecDepth 100000 in
set_option maxHeartbeats 2000000 in
theorem rtypeof_4 (w : World) (R : Nat) (xk xn : Int) (xs : ByteArray) (yn : Int) (ys : ByteArray)
    (hS : Says w nowhere anyW 38 #[rp R, .agg #[.int .i64 xk, .int .i64 xn, .string xs]] (.agg #[.int .i64 4, .int .i64 yn, .string ys])) :
    Says w nowhere anyW 34 #[rp R, .agg #[.int .i64 xk, .int .i64 xn, .string xs]] (.string ⟨#[115, 116, 114, 105, 110, 103]⟩) := by
  intro W hW _
  have HW := Lib.hid hW; clear hW
  have hS' : ∀ W', Old W W' → Calls Tryz.prog 38 #[rp R, .agg #[.int .i64 xk, .int .i64 xn, .string xs]] W' fun e w' => e = .returned (.agg #[.int .i64 4, .int .i64 yn, .string ys]) ∧ Old W' w' := fun W' h => hS W' (HW.out.old h) trivial
  have HS := Lib.hid hS'; clear hS hS'
  go_enter Tryz.func34, Tryz.ntmps34
  go_wp2_with (go_at_call 38; ((with_reducible refine (HS.out _ ?_).mono ?_)); (exact (Fr.refl _ _).alloc _); rintro e w1 ⟨rfl, hO⟩; have hFF := (((Fr.refl (fun _ => False) W).alloc (.cells #[.int .i64 xk, .int .i64 xn, .string xs] 34)).old hO).alloc (.cells #[.int .i64 4, .int .i64 yn, .string ys] 34))
  go_ret
  exact ⟨rfl, hFF⟩

set_option maxRecDepth 100000 in
set_option maxHeartbeats 2000000 in
theorem rwithin_plain (w : World) (R : Nat) (yk yn : Int) (ys : ByteArray) (deep : Int) (h4 : (yk == 4) = false) (h5 : (yk != 5) = true) :
    Says w nowhere anyW 39 #[rp R, .agg #[.int .i64 yk, .int .i64 yn, .string ys], .int .i64 deep] (.string (textP ⟨yk, yn, ys⟩)) := by
  intro W hW _
  have HW := Lib.hid hW; clear hW
  have hT := fun w => rtext_any ⟨yk, yn, ys⟩ w
  dsimp only at hT
  go_enter Tryz.func39, Tryz.ntmps39
  go_wp2_with (go_at_call 62; refine (hT _).mono ?_; rintro e w1 ⟨rfl, hO⟩)
  go_ret
  exact ⟨rfl, ((Fr.refl _ _).alloc _).old hO⟩

set_option maxRecDepth 100000 in
set_option maxHeartbeats 2000000 in
theorem rshow_str (w : World) (R : Nat) (xk xn : Int) (xs : ByteArray) (yn : Int) (ys : ByteArray)
    (hS : Says w nowhere anyW 38 #[rp R, .agg #[.int .i64 xk, .int .i64 xn, .string xs]] (.agg #[.int .i64 4, .int .i64 yn, .string ys])) :
    Says w nowhere anyW 13 #[rp R, .agg #[.int .i64 xk, .int .i64 xn, .string xs]] (.string ys) := by
  intro W hW _
  have HW := Lib.hid hW; clear hW
  have hS' : ∀ W', Old W W' → Calls Tryz.prog 38 #[rp R, .agg #[.int .i64 xk, .int .i64 xn, .string xs]] W' fun e w' => e = .returned (.agg #[.int .i64 4, .int .i64 yn, .string ys]) ∧ Old W' w' := fun W' h => hS W' (HW.out.old h) trivial
  have HS := Lib.hid hS'; clear hS hS'
  go_enter Tryz.func13, Tryz.ntmps13
  go_wp2_with (go_at_call 38; ((with_reducible refine (HS.out _ ?_).mono ?_)); (exact (Fr.refl _ _).alloc _); rintro e w1 ⟨rfl, hO⟩; have hFF := (((Fr.refl (fun _ => False) W).alloc (.cells #[.int .i64 xk, .int .i64 xn, .string xs] 34)).old hO).alloc (.cells #[.int .i64 4, .int .i64 yn, .string ys] 34))
  go_ret
  exact ⟨rfl, hFF⟩

set_option maxRecDepth 100000 in
set_option maxHeartbeats 2000000 in
theorem rshow_fits (w : World) (R : Nat) (xk xn : Int) (xs : ByteArray) (yk yn : Int) (ys : ByteArray) (T : ByteArray) (h4 : (yk == 4) = false) (hsz : T.size ≤ 65536)
    (hS : Says w nowhere anyW 38 #[rp R, .agg #[.int .i64 xk, .int .i64 xn, .string xs]] (.agg #[.int .i64 yk, .int .i64 yn, .string ys]))
    (hG : Says w nowhere anyW 39 #[rp R, .agg #[.int .i64 yk, .int .i64 yn, .string ys], .int .i64 0] (.string T)) :
    Says w nowhere anyW 13 #[rp R, .agg #[.int .i64 xk, .int .i64 xn, .string xs]] (.string T) := by
  intro W hW _
  have HW := Lib.hid hW; clear hW
  have hS' : ∀ W', Old W W' → Calls Tryz.prog 38 #[rp R, .agg #[.int .i64 xk, .int .i64 xn, .string xs]] W' fun e w' => e = .returned (.agg #[.int .i64 yk, .int .i64 yn, .string ys]) ∧ Old W' w' := fun W' h => hS W' (HW.out.old h) trivial
  have HS := Lib.hid hS'; clear hS hS'
  have hG' : ∀ W', Old W W' → Calls Tryz.prog 39 #[rp R, .agg #[.int .i64 yk, .int .i64 yn, .string ys], .int .i64 0] W' fun e w' => e = .returned (.string T) ∧ Old W' w' := fun W' h => hG W' (HW.out.old h) trivial
  have HG := Lib.hid hG'; clear hG hG'
  go_enter Tryz.func13, Tryz.ntmps13
  go_wp2_with (first | (go_at_call 38; ((with_reducible refine (HS.out _ ?_).mono ?_)); (exact (Fr.refl _ _).alloc _); rintro e w1 ⟨rfl, hO⟩; have hFF := (((Fr.refl (fun _ => False) W).alloc (.cells #[.int .i64 xk, .int .i64 xn, .string xs] 34)).old hO).alloc (.cells #[.int .i64 yk, .int .i64 yn, .string ys] 34)) | (go_at_call 39; ((with_reducible refine (HG.out _ ?_).mono ?_)); (exact hFF); rintro e w2 ⟨rfl, hO2⟩))
  go_ret
  exact ⟨rfl, hFF.old hO2⟩

set_option maxRecDepth 100000 in
set_option maxHeartbeats 2000000 in
theorem rshow_not (w : World) (R : Nat) (xk xn : Int) (xs : ByteArray) (yk yn : Int) (ys : ByteArray) (T : ByteArray) (h4 : (yk == 4) = false) (hsz : 65536 < T.size)
    (hS : Says w nowhere anyW 38 #[rp R, .agg #[.int .i64 xk, .int .i64 xn, .string xs]] (.agg #[.int .i64 yk, .int .i64 yn, .string ys]))
    (hG : Says w nowhere anyW 39 #[rp R, .agg #[.int .i64 yk, .int .i64 yn, .string ys], .int .i64 0] (.string T)) :
    Says w nowhere anyW 13 #[rp R, .agg #[.int .i64 xk, .int .i64 xn, .string xs]] (.string ⟨#[46, 46, 46]⟩) := by
  intro W hW _
  have HW := Lib.hid hW; clear hW
  have hS' : ∀ W', Old W W' → Calls Tryz.prog 38 #[rp R, .agg #[.int .i64 xk, .int .i64 xn, .string xs]] W' fun e w' => e = .returned (.agg #[.int .i64 yk, .int .i64 yn, .string ys]) ∧ Old W' w' := fun W' h => hS W' (HW.out.old h) trivial
  have HS := Lib.hid hS'; clear hS hS'
  have hG' : ∀ W', Old W W' → Calls Tryz.prog 39 #[rp R, .agg #[.int .i64 yk, .int .i64 yn, .string ys], .int .i64 0] W' fun e w' => e = .returned (.string T) ∧ Old W' w' := fun W' h => hG W' (HW.out.old h) trivial
  have HG := Lib.hid hG'; clear hG hG'
  go_enter Tryz.func13, Tryz.ntmps13
  go_wp2_with (first | (go_at_call 38; ((with_reducible refine (HS.out _ ?_).mono ?_)); (exact (Fr.refl _ _).alloc _); rintro e w1 ⟨rfl, hO⟩; have hFF := (((Fr.refl (fun _ => False) W).alloc (.cells #[.int .i64 xk, .int .i64 xn, .string xs] 34)).old hO).alloc (.cells #[.int .i64 yk, .int .i64 yn, .string ys] 34)) | (go_at_call 39; ((with_reducible refine (HG.out _ ?_).mono ?_)); (exact hFF); rintro e w2 ⟨rfl, hO2⟩))
  go_ret
  exact ⟨rfl, hFF.old hO2⟩
end Go.Proofs.YtlimgecmolhdhaaGreatDoor
