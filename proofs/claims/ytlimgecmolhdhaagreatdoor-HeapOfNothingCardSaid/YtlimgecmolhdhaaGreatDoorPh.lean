/- The program's At at what is no thing: by a text; of a number or boolean. -/
import Derived.Test.YtlimgecmolhdhaaGreatDoorPa
set_option linter.unusedVariables false
set_option linter.unusedSimpArgs false
namespace Go.Proofs.YtlimgecmolhdhaaGreatDoor
open Go.RowKit

set_option maxRecDepth 100000 in
set_option maxHeartbeats 2000000 in
theorem pat_get (w : World) (h : Value) (xk xn : Int) (xs : ByteArray) (yk yn : Int) (ys : ByteArray) (ik in_ : Int) (is_ : ByteArray) (zn : Int) (zs : ByteArray) (rk rn : Int) (rs rt : ByteArray) (rf : Int) (h0 : (yk == 0) = false) (h1 : (yk == 1) = false)
    (hP : Says w nowhere anyW 35 #[h, .agg #[.int .i64 xk, .int .i64 xn, .string xs]] (.agg #[.int .i64 yk, .int .i64 yn, .string ys]))
    (hI : Says w nowhere anyW 35 #[h, .agg #[.int .i64 ik, .int .i64 in_, .string is_]] (.agg #[.int .i64 4, .int .i64 zn, .string zs]))
    (hG : Says w nowhere anyW 22 #[h, .agg #[.int .i64 yk, .int .i64 yn, .string ys], .string zs] (.tuple #[.agg #[.int .i64 rk, .int .i64 rn, .string rs], .string rt, .int .i64 rf])) :
    Says w nowhere anyW 28 #[h, .agg #[.int .i64 xk, .int .i64 xn, .string xs], .agg #[.int .i64 ik, .int .i64 in_, .string is_]] (.tuple #[.agg #[.int .i64 rk, .int .i64 rn, .string rs], .string rt, .int .i64 rf]) := by
  intro W hW _
  have HW := Lib.hid hW; clear hW
  have hP' : ∀ W', Old W W' → Calls Tryz.prog 35 #[h, .agg #[.int .i64 xk, .int .i64 xn, .string xs]] W' fun e w' => e = .returned (.agg #[.int .i64 yk, .int .i64 yn, .string ys]) ∧ Old W' w' := fun W' h' => hP W' (HW.out.old h') trivial
  have HP := Lib.hid hP'; clear hP hP'
  have hI' : ∀ W', Old W W' → Calls Tryz.prog 35 #[h, .agg #[.int .i64 ik, .int .i64 in_, .string is_]] W' fun e w' => e = .returned (.agg #[.int .i64 4, .int .i64 zn, .string zs]) ∧ Old W' w' := fun W' h' => hI W' (HW.out.old h') trivial
  have HI := Lib.hid hI'; clear hI hI'
  have hG' : ∀ W', Old W W' → Calls Tryz.prog 22 #[h, .agg #[.int .i64 yk, .int .i64 yn, .string ys], .string zs] W' fun e w' => e = .returned (.tuple #[.agg #[.int .i64 rk, .int .i64 rn, .string rs], .string rt, .int .i64 rf]) ∧ Old W' w' := fun W' h' => hG W' (HW.out.old h') trivial
  have HG := Lib.hid hG'; clear hG hG'
  go_enter Tryz.func28, Tryz.ntmps28
  go_upto_region 1 with fail
  refine wp_gen (R := fun V => AtW W V xk xn xs ik in_ is_) (AtW.start W _ _ _ _ _ _) ?_
  intro W0 hA0
  have HA0 := Lib.hid hA0; clear hA0
  go_cut [] (fun wx => AtW W wx yk yn ys 4 zn zs)
  case first =>
    obtain ⟨p0, p1, p2, e0, e1, e2⟩ := cells3 HA0.out.v
    obtain ⟨r0, r1, r2, g0, g1, g2⟩ := cells3 HA0.out.i
    have hl4 := ltOf HA0.out.v
    have hl5 := ltOf HA0.out.i
    go_region_with (go_at_call 35; first | ((with_reducible refine (HP.out _ ?_).mono ?_); (exact HA0.out.old.drew); rintro e wA ⟨rfl, hOA⟩; have HAA := Lib.hid (HA0.out.later ((Fr.refl _ _).drew.old hOA)); obtain ⟨pA0, pA1, pA2, eA0, eA1, eA2⟩ := cells3 HAA.out.v; obtain ⟨rA0, rA1, rA2, gA0, gA1, gA2⟩ := cells3 HAA.out.i) | ((with_reducible refine (HI.out _ ?_).mono ?_); (exact HAA.out.old); rintro e wB ⟨rfl, hOB⟩; have HAB := Lib.hid (HAA.out.later hOB); obtain ⟨pB0, pB1, pB2, eB0, eB1, eB2⟩ := cells3 HAB.out.v; obtain ⟨rB0, rB1, rB2, gB0, gB1, gB2⟩ := cells3 HAB.out.i))
    all_goals (go_wp2_with fail; go_meet; exact HAB.out.six _ _ _ _ _ _)
  case rest =>
    have HC := Lib.hid hcut; clear hcut HA0
    obtain ⟨p0, p1, p2, e0, e1, e2⟩ := cells3 HC.out.v
    obtain ⟨r0, r1, r2, g0, g1, g2⟩ := cells3 HC.out.i
    go_wp2_with ((go_at_call 22; ((with_reducible refine (HG.out _ ?_).mono ?_)); (exact HC.out.old); rintro e wC ⟨rfl, hOC⟩; have HD := Lib.hid (HC.out.later hOC); clear HC p0 p1 p2 e0 e1 e2 r0 r1 r2 g0 g1 g2; obtain ⟨s0, s1, s2, t0, t1, t2⟩ := cells3 HD.out.r0; have u0 := cellOf HD.out.r1 0 _ rfl; have u1 := freeOf HD.out.r1 0; have v0 := cellOf HD.out.r2 0 _ rfl; have v1 := freeOf HD.out.r2 0; have l6 := ltOf HD.out.r0; have l7 := ltOf HD.out.r1; have l8 := ltOf HD.out.r2))
    refine bodyPost_ret (v := .tuple #[.agg #[.int .i64 rk, .int .i64 rn, .string rs], .string rt, .int .i64 rf]) (by simp [results, Tryz.results28, go_sem, s0, s1, s2, u0, v0, l6, l7, l8]) rfl ⟨rfl, ?_⟩
    have hFF := HD.out.old
    repeat (first | exact hFF | refine Fr.setCell ?_ (Or.inl (by first | (dsimp only; omega) | (simp; omega))) _ | refine Fr.alloc ?_ _)

set_option maxRecDepth 100000 in
set_option maxHeartbeats 2000000 in
theorem pat_none (w : World) (h : Value) (xk xn : Int) (xs : ByteArray) (yk yn : Int) (ys : ByteArray) (ik in_ : Int) (is_ : ByteArray) (zn : Int) (zs : ByteArray) (h0 : (yk == 0) = false) (h1 : (yk == 1) = false) (h4 : (yk == 4) = false)
    (hP : Says w nowhere anyW 35 #[h, .agg #[.int .i64 xk, .int .i64 xn, .string xs]] (.agg #[.int .i64 yk, .int .i64 yn, .string ys]))
    (hI : Says w nowhere anyW 35 #[h, .agg #[.int .i64 ik, .int .i64 in_, .string is_]] (.agg #[.int .i64 3, .int .i64 zn, .string zs]))
    (hA : Says w nowhere anyW 42 #[h, .agg #[.int .i64 yk, .int .i64 yn, .string ys]] (.pointer none)) :
    Says w nowhere anyW 28 #[h, .agg #[.int .i64 xk, .int .i64 xn, .string xs], .agg #[.int .i64 ik, .int .i64 in_, .string is_]] (.tuple #[.agg #[.int .i64 0, .int .i64 0, .string ⟨#[]⟩], .string ⟨#[]⟩, .int .i64 0]) := by
  intro W hW _
  have HW := Lib.hid hW; clear hW
  have hP' : ∀ W', Old W W' → Calls Tryz.prog 35 #[h, .agg #[.int .i64 xk, .int .i64 xn, .string xs]] W' fun e w' => e = .returned (.agg #[.int .i64 yk, .int .i64 yn, .string ys]) ∧ Old W' w' := fun W' h' => hP W' (HW.out.old h') trivial
  have HP := Lib.hid hP'; clear hP hP'
  have hI' : ∀ W', Old W W' → Calls Tryz.prog 35 #[h, .agg #[.int .i64 ik, .int .i64 in_, .string is_]] W' fun e w' => e = .returned (.agg #[.int .i64 3, .int .i64 zn, .string zs]) ∧ Old W' w' := fun W' h' => hI W' (HW.out.old h') trivial
  have HI := Lib.hid hI'; clear hI hI'
  have hA' : ∀ W', Old W W' → Calls Tryz.prog 42 #[h, .agg #[.int .i64 yk, .int .i64 yn, .string ys]] W' fun e w' => e = .returned (.pointer none) ∧ Old W' w' := fun W' h' => hA W' (HW.out.old h') trivial
  have HA := Lib.hid hA'; clear hA hA'
  go_enter Tryz.func28, Tryz.ntmps28
  go_upto_region 1 with fail
  refine wp_gen (R := fun V => AtW W V xk xn xs ik in_ is_) (AtW.start W _ _ _ _ _ _) ?_
  intro W0 hA0
  have HA0 := Lib.hid hA0; clear hA0
  go_cut [] (fun wx => AtW W wx yk yn ys 3 zn zs)
  case first =>
    obtain ⟨p0, p1, p2, e0, e1, e2⟩ := cells3 HA0.out.v
    obtain ⟨r0, r1, r2, g0, g1, g2⟩ := cells3 HA0.out.i
    have hl4 := ltOf HA0.out.v
    have hl5 := ltOf HA0.out.i
    go_region_with (go_at_call 35; first | ((with_reducible refine (HP.out _ ?_).mono ?_); (exact HA0.out.old.drew); rintro e wA ⟨rfl, hOA⟩; have HAA := Lib.hid (HA0.out.later ((Fr.refl _ _).drew.old hOA)); obtain ⟨pA0, pA1, pA2, eA0, eA1, eA2⟩ := cells3 HAA.out.v; obtain ⟨rA0, rA1, rA2, gA0, gA1, gA2⟩ := cells3 HAA.out.i) | ((with_reducible refine (HI.out _ ?_).mono ?_); (exact HAA.out.old); rintro e wB ⟨rfl, hOB⟩; have HAB := Lib.hid (HAA.out.later hOB); obtain ⟨pB0, pB1, pB2, eB0, eB1, eB2⟩ := cells3 HAB.out.v; obtain ⟨rB0, rB1, rB2, gB0, gB1, gB2⟩ := cells3 HAB.out.i))
    all_goals (go_wp2_with fail; go_meet; exact HAB.out.six _ _ _ _ _ _)
  case rest =>
    have HC := Lib.hid hcut; clear hcut HA0
    obtain ⟨p0, p1, p2, e0, e1, e2⟩ := cells3 HC.out.v
    obtain ⟨r0, r1, r2, g0, g1, g2⟩ := cells3 HC.out.i
    go_wp2_with ((go_at_call 42; ((with_reducible refine (HA.out _ ?_).mono ?_)); (exact HC.out.old); rintro e wC ⟨rfl, hOC⟩; have HD := Lib.hid (HC.out.later hOC); clear HC p0 p1 p2 e0 e1 e2 r0 r1 r2 g0 g1 g2; obtain ⟨r0, r1, r2, g0, g1, g2⟩ := cells3 HD.out.i))
    go_quiet (fail)
    clear r0 r1 r2 g0 g1 g2
    have HE := Lib.hid (HD.out.later ((Fr.refl _ _).drewN nq))
    generalize wC.drewN nq = wE at *
    obtain ⟨s0, s1, s2, t0, t1, t2⟩ := cells3 HE.out.r0
    have u0 := cellOf HE.out.r1 0 _ rfl
    have u1 := freeOf HE.out.r1 0
    have v0 := cellOf HE.out.r2 0 _ rfl
    have v1 := freeOf HE.out.r2 0
    have l6 := ltOf HE.out.r0
    have l7 := ltOf HE.out.r1
    have l8 := ltOf HE.out.r2
    go_wp2_with fail
    refine bodyPost_ret (v := .tuple #[.agg #[.int .i64 0, .int .i64 0, .string ⟨#[]⟩], .string ⟨#[]⟩, .int .i64 0]) (by simp [results, Tryz.results28, go_sem, s0, s1, s2, u0, v0, l6, l7, l8]) rfl ⟨rfl, ?_⟩
    have hFF := HE.out.old
    repeat (first | exact hFF | refine Fr.setCell ?_ (Or.inl (by first | (dsimp only; omega) | (simp; omega))) _ | refine Fr.alloc ?_ _)
end Go.Proofs.YtlimgecmolhdhaaGreatDoor
