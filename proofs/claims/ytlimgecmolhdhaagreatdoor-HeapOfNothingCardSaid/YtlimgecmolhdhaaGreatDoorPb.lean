/- The program's At at what is no thing. -/
import Derived.Test.YtlimgecmolhdhaaGreatDoorPa
set_option linter.unusedVariables false
set_option linter.unusedSimpArgs false
namespace Go.Proofs.YtlimgecmolhdhaaGreatDoor
open Go.RowKit

set_option maxRecDepth 100000 in
set_option maxHeartbeats 2000000 in
theorem pat_throw0 (w : World) (h : Value) (xk xn : Int) (xs : ByteArray) (yn : Int) (ys : ByteArray) (ik in_ : Int) (is_ : ByteArray) (zk zn : Int) (zs : ByteArray)
    (hP : Says w nowhere anyW 35 #[h, .agg #[.int .i64 xk, .int .i64 xn, .string xs]] (.agg #[.int .i64 0, .int .i64 yn, .string ys]))
    (hI : Says w nowhere anyW 35 #[h, .agg #[.int .i64 ik, .int .i64 in_, .string is_]] (.agg #[.int .i64 zk, .int .i64 zn, .string zs])) :
    Says w nowhere anyW 28 #[h, .agg #[.int .i64 xk, .int .i64 xn, .string xs], .agg #[.int .i64 ik, .int .i64 in_, .string is_]] (.tuple #[.agg #[.int .i64 0, .int .i64 0, .string ⟨#[]⟩], .string ⟨#[84, 121, 112, 101, 69, 114, 114, 111, 114, 58, 32, 110, 111, 32, 109, 101, 109, 98, 101, 114, 115]⟩, .int .i64 1]) := by
  intro W hW _
  have HW := Lib.hid hW; clear hW
  have hP' : ∀ W', Old W W' → Calls Tryz.prog 35 #[h, .agg #[.int .i64 xk, .int .i64 xn, .string xs]] W' fun e w' => e = .returned (.agg #[.int .i64 0, .int .i64 yn, .string ys]) ∧ Old W' w' := fun W' h' => hP W' (HW.out.old h') trivial
  have HP := Lib.hid hP'; clear hP hP'
  have hI' : ∀ W', Old W W' → Calls Tryz.prog 35 #[h, .agg #[.int .i64 ik, .int .i64 in_, .string is_]] W' fun e w' => e = .returned (.agg #[.int .i64 zk, .int .i64 zn, .string zs]) ∧ Old W' w' := fun W' h' => hI W' (HW.out.old h') trivial
  have HI := Lib.hid hI'; clear hI hI'
  go_enter Tryz.func28, Tryz.ntmps28
  go_upto_region 1 with fail
  refine wp_gen (R := fun V => AtW W V xk xn xs ik in_ is_) (AtW.start W _ _ _ _ _ _) ?_
  intro W0 hA0
  have HA0 := Lib.hid hA0; clear hA0
  go_cut [] (fun wx => AtW W wx 0 yn ys zk zn zs)
  case first =>
    obtain ⟨p0, p1, p2, e0, e1, e2⟩ := cells3 HA0.out.v
    obtain ⟨r0, r1, r2, g0, g1, g2⟩ := cells3 HA0.out.i
    have hl4 := ltOf HA0.out.v
    have hl5 := ltOf HA0.out.i
    go_region_with (go_at_call 35; first | ((with_reducible refine (HP.out _ ?_).mono ?_); (exact HA0.out.old.drew); rintro e wA ⟨rfl, hOA⟩; have HAA := Lib.hid (HA0.out.later ((Fr.refl _ _).drew.old hOA)); obtain ⟨pA0, pA1, pA2, eA0, eA1, eA2⟩ := cells3 HAA.out.v; obtain ⟨rA0, rA1, rA2, gA0, gA1, gA2⟩ := cells3 HAA.out.i) | ((with_reducible refine (HI.out _ ?_).mono ?_); (exact HAA.out.old); rintro e wB ⟨rfl, hOB⟩; have HAB := Lib.hid (HAA.out.later hOB); obtain ⟨pB0, pB1, pB2, eB0, eB1, eB2⟩ := cells3 HAB.out.v; obtain ⟨rB0, rB1, rB2, gB0, gB1, gB2⟩ := cells3 HAB.out.i))
    all_goals (go_wp2_with fail; go_meet; exact HAB.out.six _ _ _ _ _ _)
  case rest =>
    have HC := Lib.hid hcut; clear hcut HA0
    obtain ⟨p0, p1, p2, e0, e1, e2⟩ := cells3 HC.out.v
    obtain ⟨r0, r1, r2, g0, g1, g2⟩ := cells3 HC.out.i
    obtain ⟨s0, s1, s2, t0, t1, t2⟩ := cells3 HC.out.r0
    have u0 := cellOf HC.out.r1 0 _ rfl
    have u1 := freeOf HC.out.r1 0
    have v0 := cellOf HC.out.r2 0 _ rfl
    have v1 := freeOf HC.out.r2 0
    have l6 := ltOf HC.out.r0
    have l7 := ltOf HC.out.r1
    have l8 := ltOf HC.out.r2
    go_wp2_with fail
    refine bodyPost_ret (v := .tuple #[.agg #[.int .i64 0, .int .i64 0, .string ⟨#[]⟩], .string ⟨#[84, 121, 112, 101, 69, 114, 114, 111, 114, 58, 32, 110, 111, 32, 109, 101, 109, 98, 101, 114, 115]⟩, .int .i64 1]) (by simp [results, Tryz.results28, go_sem, s0, s1, s2, u0, v0, l6, l7, l8]) rfl ⟨rfl, ?_⟩
    have hFF := HC.out.old
    repeat (first | exact hFF | refine Fr.setCell ?_ (Or.inl (by first | (dsimp only; omega) | (simp; omega))) _ | refine Fr.alloc ?_ _)

set_option maxRecDepth 100000 in
set_option maxHeartbeats 2000000 in
theorem pat_throw1 (w : World) (h : Value) (xk xn : Int) (xs : ByteArray) (yn : Int) (ys : ByteArray) (ik in_ : Int) (is_ : ByteArray) (zk zn : Int) (zs : ByteArray)
    (hP : Says w nowhere anyW 35 #[h, .agg #[.int .i64 xk, .int .i64 xn, .string xs]] (.agg #[.int .i64 1, .int .i64 yn, .string ys]))
    (hI : Says w nowhere anyW 35 #[h, .agg #[.int .i64 ik, .int .i64 in_, .string is_]] (.agg #[.int .i64 zk, .int .i64 zn, .string zs])) :
    Says w nowhere anyW 28 #[h, .agg #[.int .i64 xk, .int .i64 xn, .string xs], .agg #[.int .i64 ik, .int .i64 in_, .string is_]] (.tuple #[.agg #[.int .i64 0, .int .i64 0, .string ⟨#[]⟩], .string ⟨#[84, 121, 112, 101, 69, 114, 114, 111, 114, 58, 32, 110, 111, 32, 109, 101, 109, 98, 101, 114, 115]⟩, .int .i64 1]) := by
  intro W hW _
  have HW := Lib.hid hW; clear hW
  have hP' : ∀ W', Old W W' → Calls Tryz.prog 35 #[h, .agg #[.int .i64 xk, .int .i64 xn, .string xs]] W' fun e w' => e = .returned (.agg #[.int .i64 1, .int .i64 yn, .string ys]) ∧ Old W' w' := fun W' h' => hP W' (HW.out.old h') trivial
  have HP := Lib.hid hP'; clear hP hP'
  have hI' : ∀ W', Old W W' → Calls Tryz.prog 35 #[h, .agg #[.int .i64 ik, .int .i64 in_, .string is_]] W' fun e w' => e = .returned (.agg #[.int .i64 zk, .int .i64 zn, .string zs]) ∧ Old W' w' := fun W' h' => hI W' (HW.out.old h') trivial
  have HI := Lib.hid hI'; clear hI hI'
  go_enter Tryz.func28, Tryz.ntmps28
  go_upto_region 1 with fail
  refine wp_gen (R := fun V => AtW W V xk xn xs ik in_ is_) (AtW.start W _ _ _ _ _ _) ?_
  intro W0 hA0
  have HA0 := Lib.hid hA0; clear hA0
  go_cut [] (fun wx => AtW W wx 1 yn ys zk zn zs)
  case first =>
    obtain ⟨p0, p1, p2, e0, e1, e2⟩ := cells3 HA0.out.v
    obtain ⟨r0, r1, r2, g0, g1, g2⟩ := cells3 HA0.out.i
    have hl4 := ltOf HA0.out.v
    have hl5 := ltOf HA0.out.i
    go_region_with (go_at_call 35; first | ((with_reducible refine (HP.out _ ?_).mono ?_); (exact HA0.out.old.drew); rintro e wA ⟨rfl, hOA⟩; have HAA := Lib.hid (HA0.out.later ((Fr.refl _ _).drew.old hOA)); obtain ⟨pA0, pA1, pA2, eA0, eA1, eA2⟩ := cells3 HAA.out.v; obtain ⟨rA0, rA1, rA2, gA0, gA1, gA2⟩ := cells3 HAA.out.i) | ((with_reducible refine (HI.out _ ?_).mono ?_); (exact HAA.out.old); rintro e wB ⟨rfl, hOB⟩; have HAB := Lib.hid (HAA.out.later hOB); obtain ⟨pB0, pB1, pB2, eB0, eB1, eB2⟩ := cells3 HAB.out.v; obtain ⟨rB0, rB1, rB2, gB0, gB1, gB2⟩ := cells3 HAB.out.i))
    all_goals (go_wp2_with fail; go_meet; exact HAB.out.six _ _ _ _ _ _)
  case rest =>
    have HC := Lib.hid hcut; clear hcut HA0
    obtain ⟨p0, p1, p2, e0, e1, e2⟩ := cells3 HC.out.v
    obtain ⟨r0, r1, r2, g0, g1, g2⟩ := cells3 HC.out.i
    obtain ⟨s0, s1, s2, t0, t1, t2⟩ := cells3 HC.out.r0
    have u0 := cellOf HC.out.r1 0 _ rfl
    have u1 := freeOf HC.out.r1 0
    have v0 := cellOf HC.out.r2 0 _ rfl
    have v1 := freeOf HC.out.r2 0
    have l6 := ltOf HC.out.r0
    have l7 := ltOf HC.out.r1
    have l8 := ltOf HC.out.r2
    go_wp2_with fail
    refine bodyPost_ret (v := .tuple #[.agg #[.int .i64 0, .int .i64 0, .string ⟨#[]⟩], .string ⟨#[84, 121, 112, 101, 69, 114, 114, 111, 114, 58, 32, 110, 111, 32, 109, 101, 109, 98, 101, 114, 115]⟩, .int .i64 1]) (by simp [results, Tryz.results28, go_sem, s0, s1, s2, u0, v0, l6, l7, l8]) rfl ⟨rfl, ?_⟩
    have hFF := HC.out.old
    repeat (first | exact hFF | refine Fr.setCell ?_ (Or.inl (by first | (dsimp only; omega) | (simp; omega))) _ | refine Fr.alloc ?_ _)

set_option maxRecDepth 100000 in
set_option maxHeartbeats 2000000 in
theorem pat_index (w : World) (h : Value) (xk xn : Int) (xs : ByteArray) (yk yn : Int) (ys : ByteArray) (ik in_ : Int) (is_ : ByteArray) (zk zn : Int) (zs : ByteArray) (h0 : (yk == 0) = false) (h1 : (yk == 1) = false) (h4 : (zk == 4) = false) (h3 : (zk != 3) = true)
    (hP : Says w nowhere anyW 35 #[h, .agg #[.int .i64 xk, .int .i64 xn, .string xs]] (.agg #[.int .i64 yk, .int .i64 yn, .string ys]))
    (hI : Says w nowhere anyW 35 #[h, .agg #[.int .i64 ik, .int .i64 in_, .string is_]] (.agg #[.int .i64 zk, .int .i64 zn, .string zs])) :
    Says w nowhere anyW 28 #[h, .agg #[.int .i64 xk, .int .i64 xn, .string xs], .agg #[.int .i64 ik, .int .i64 in_, .string is_]] (.tuple #[.agg #[.int .i64 0, .int .i64 0, .string ⟨#[]⟩], .string ⟨#[84, 121, 112, 101, 69, 114, 114, 111, 114, 58, 32, 105, 110, 100, 101, 120]⟩, .int .i64 1]) := by
  intro W hW _
  have HW := Lib.hid hW; clear hW
  have hP' : ∀ W', Old W W' → Calls Tryz.prog 35 #[h, .agg #[.int .i64 xk, .int .i64 xn, .string xs]] W' fun e w' => e = .returned (.agg #[.int .i64 yk, .int .i64 yn, .string ys]) ∧ Old W' w' := fun W' h' => hP W' (HW.out.old h') trivial
  have HP := Lib.hid hP'; clear hP hP'
  have hI' : ∀ W', Old W W' → Calls Tryz.prog 35 #[h, .agg #[.int .i64 ik, .int .i64 in_, .string is_]] W' fun e w' => e = .returned (.agg #[.int .i64 zk, .int .i64 zn, .string zs]) ∧ Old W' w' := fun W' h' => hI W' (HW.out.old h') trivial
  have HI := Lib.hid hI'; clear hI hI'
  go_enter Tryz.func28, Tryz.ntmps28
  go_upto_region 1 with fail
  refine wp_gen (R := fun V => AtW W V xk xn xs ik in_ is_) (AtW.start W _ _ _ _ _ _) ?_
  intro W0 hA0
  have HA0 := Lib.hid hA0; clear hA0
  go_cut [] (fun wx => AtW W wx yk yn ys zk zn zs)
  case first =>
    obtain ⟨p0, p1, p2, e0, e1, e2⟩ := cells3 HA0.out.v
    obtain ⟨r0, r1, r2, g0, g1, g2⟩ := cells3 HA0.out.i
    have hl4 := ltOf HA0.out.v
    have hl5 := ltOf HA0.out.i
    go_region_with (go_at_call 35; first | ((with_reducible refine (HP.out _ ?_).mono ?_); (exact HA0.out.old.drew); rintro e wA ⟨rfl, hOA⟩; have HAA := Lib.hid (HA0.out.later ((Fr.refl _ _).drew.old hOA)); obtain ⟨pA0, pA1, pA2, eA0, eA1, eA2⟩ := cells3 HAA.out.v; obtain ⟨rA0, rA1, rA2, gA0, gA1, gA2⟩ := cells3 HAA.out.i) | ((with_reducible refine (HI.out _ ?_).mono ?_); (exact HAA.out.old); rintro e wB ⟨rfl, hOB⟩; have HAB := Lib.hid (HAA.out.later hOB); obtain ⟨pB0, pB1, pB2, eB0, eB1, eB2⟩ := cells3 HAB.out.v; obtain ⟨rB0, rB1, rB2, gB0, gB1, gB2⟩ := cells3 HAB.out.i))
    all_goals (go_wp2_with fail; go_meet; exact HAB.out.six _ _ _ _ _ _)
  case rest =>
    have HC := Lib.hid hcut; clear hcut HA0
    obtain ⟨p0, p1, p2, e0, e1, e2⟩ := cells3 HC.out.v
    obtain ⟨r0, r1, r2, g0, g1, g2⟩ := cells3 HC.out.i
    obtain ⟨s0, s1, s2, t0, t1, t2⟩ := cells3 HC.out.r0
    have u0 := cellOf HC.out.r1 0 _ rfl
    have u1 := freeOf HC.out.r1 0
    have v0 := cellOf HC.out.r2 0 _ rfl
    have v1 := freeOf HC.out.r2 0
    have l6 := ltOf HC.out.r0
    have l7 := ltOf HC.out.r1
    have l8 := ltOf HC.out.r2
    go_wp2_with fail
    refine bodyPost_ret (v := .tuple #[.agg #[.int .i64 0, .int .i64 0, .string ⟨#[]⟩], .string ⟨#[84, 121, 112, 101, 69, 114, 114, 111, 114, 58, 32, 105, 110, 100, 101, 120]⟩, .int .i64 1]) (by simp [results, Tryz.results28, go_sem, s0, s1, s2, u0, v0, l6, l7, l8]) rfl ⟨rfl, ?_⟩
    have hFF := HC.out.old
    repeat (first | exact hFF | refine Fr.setCell ?_ (Or.inl (by first | (dsimp only; omega) | (simp; omega))) _ | refine Fr.alloc ?_ _)
end Go.Proofs.YtlimgecmolhdhaaGreatDoor
