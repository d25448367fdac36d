/- heavy, of one step. -/
import Derived.Test.YtlimgecmolhdhaaGreatDoorDo
import Derived.BigQuiet
import Derived.Test.YtlimgecmolhdhaaGreatDoorEm
import Derived.Test.YtlimgecmolhdhaaGreatDoorKn
import Derived.Test.YtlimgecmolhdhaaGreatDoorTg
import Derived.Test.YtlimgecmolhdhaaGreatDoorLa
import Derived.Test.YtlimgecmolhdhaaGreatDoorLw
import Derived.Deep.Slices
import Derived.Deep.Strs
import Derived.Deep.Fields
import Derived.ChangeSame
import Derived.Lib.SmallJoins
import Derived.Lib.LaidTab
set_option linter.unusedVariables false
set_option linter.unusedSimpArgs false
namespace Go.Proofs.YtlimgecmolhdhaaGreatDoor
open Go.RowKit

set_option maxRecDepth 100000 in
set_option maxHeartbeats 2000000 in
theorem heavy_any (w : World) (R : Nat) (sk sn sm vk vn : Int) (vs : ByteArray) (uk un : Int) (us : ByteArray) (xk xn : Int) (xs key : ByteArray)
    (hR : StepAt w R sk sn sm vk vn vs uk un us xk xn xs key) (hb : key.size + vs.size + us.size + xs.size ≤ 562949953404928) :
    Calls Tryz.prog 6 #[.slice (some ⟨R, 0, none⟩) 1 1] w fun e w' => e = .returned (.bool (decide ((8000 : Int) < (key.size : Int) + (vs.size : Int) + (us.size : Int) + (xs.size : Int)))) ∧ Old w w' := by
  have HR := Lib.hid hR; clear hR
  generalize hK : (key.size : Int) = K
  generalize hV : (vs.size : Int) = V
  generalize hU : (us.size : Int) = U
  generalize hX : (xs.size : Int) = X
  have b0 : 0 ≤ K := by omega
  have b1 : 0 ≤ V := by omega
  have b2 : 0 ≤ U := by omega
  have b3 : 0 ≤ X := by omega
  have b4 : K + V + U + X ≤ 562949953404928 := by omega
  clear hb
  go_enter Tryz.func6, Tryz.ntmps6
  go_wp2
  go_loopw [3, 4] (fun s3 s4 wr => Old w wr ∧ ((s3 = .int .i64 0 ∧ s4 = .int .i64 0) ∨ (K + V + U + X ≤ 8000 ∧ s3 = .int .i64 (K + V + U + X) ∧ s4 = .int .i64 1))) (fun _ s4 _ => 1 - (intOf s4).toNat)
  case atStart => exact ⟨Fr.refl _ _, .inl ⟨rfl, rfl⟩⟩
  case round =>
    obtain ⟨hO, ⟨rfl, rfl⟩ | ⟨h9, rfl, rfl⟩⟩ := hrel
    · obtain ⟨c0, c1, c2, c3, c4, c5, c6, c7, c8, c9, c10, c11, c12⟩ := StepAt.cells (hO.at HR.out (fun f => f))
      have hlR := ltOf (hO.at HR.out (fun f => f))
      have HO := Lib.hid hO; clear hO
      by_cases h8 : (8000 : Int) < K + V + U + X
      · have hd : decide ((8000 : Int) < K + V + U + X) = true := decide_eq_true h8
        go_wp2
        go_quiet (fail)
        go_wp2
        go_ret
        first | exact ⟨rfl, HO.out.drewN _⟩ | exact ⟨by simp [h8], HO.out.drewN _⟩
      · have h9 : K + V + U + X ≤ 8000 := by omega
        go_wp2
        go_quiet (fail)
        go_wp2
        go_roundw
        case rel => exact ⟨HO.out.drewN _, .inr ⟨h9, by go_num, by go_num⟩⟩
        case measure => simp [intOf]
    · go_wp2
      go_ret
      exact ⟨by simp; omega, hO⟩
end Go.Proofs.YtlimgecmolhdhaaGreatDoor

/- HeapOfNothing: the law. -/
set_option linter.unusedVariables false
set_option linter.unusedSimpArgs false
namespace Go.Proofs.YtlimgecmolhdhaaGreatDoor
open Go.RowKit


set_option maxRecDepth 100000 in
set_option maxHeartbeats 4000000 in
theorem nothing_heavy (w : World) (sk sn sm vk vn : Int) (vs : ByteArray) (uk un : Int) (us : ByteArray) (xk xn : Int) (xs key : ByteArray)
    (hH : ∀ (W : World) (R : Nat), StepAt W R sk sn sm vk vn vs uk un us xk xn xs key → Calls Tryz.prog 6 #[.slice (some ⟨R, 0, none⟩) 1 1] W fun e w' => e = .returned (.bool true) ∧ Old W w') :
    Calls Tryz.prog 4 #[.agg #[.int .i64 sk, .int .i64 sn, .int .i64 sm, .int .i64 vk, .int .i64 vn, .string vs, .int .i64 uk, .int .i64 un, .string us, .int .i64 xk, .int .i64 xn, .string xs, .string key]] w fun e w' => e = .returned (.bool true) ∧ Old w w' := by
  go_enter Tryz.func4, Tryz.ntmps4
  go_wp2_with (first | (go_at_call 6; refine (hH _ (w.heap.size + 1) (heapNew1 w _ _)).mono ?_; rintro e w1 ⟨rfl, hO1⟩; have hF1 : Old w w1 := (((Fr.refl _ _).alloc _).alloc _).old hO1; have hs1 : StepAt w1 w.heap.size sk sn sm vk vn vs uk un us xk xn xs key := hO1.at (heapAlloc (heapNew w (.cells #[.int .i64 sk, .int .i64 sn, .int .i64 sm, .int .i64 vk, .int .i64 vn, .string vs, .int .i64 uk, .int .i64 un, .string us, .int .i64 xk, .int .i64 xn, .string xs, .string key] 36)) (.cells #[.int .i64 sk, .int .i64 sn, .int .i64 sm, .int .i64 vk, .int .i64 vn, .string vs, .int .i64 uk, .int .i64 un, .string us, .int .i64 xk, .int .i64 xn, .string xs, .string key] 36)) (fun f => f); obtain ⟨c0, c1, c2, c3, c4, c5, c6, c7, c8, c9, c10, c11, c12⟩ := StepAt.cells hs1; have hlS := ltOf hs1; have HS1 := Lib.hid hs1; clear hs1; have HF1 := Lib.hid hF1; clear hF1 hO1) | (go_at_call 7; refine (known_true _).mono ?_; rintro e w2 ⟨rfl, hO2⟩))
  go_ret
  exact ⟨rfl, HF1.out.old hO2⟩

set_option maxRecDepth 100000 in
set_option maxHeartbeats 4000000 in
theorem nothing_light (w : World) (sk sn sm vk vn : Int) (vs : ByteArray) (uk un : Int) (us : ByteArray) (xk xn : Int) (xs key : ByteArray) (hTab : Tab w) (hs : vs.size ≤ 1000000)
    (hH : ∀ (W : World) (R : Nat), StepAt W R sk sn sm vk vn vs uk un us xk xn xs key → Calls Tryz.prog 6 #[.slice (some ⟨R, 0, none⟩) 1 1] W fun e w' => e = .returned (.bool false) ∧ Old W w') :
    Calls Tryz.prog 4 #[.agg #[.int .i64 sk, .int .i64 sn, .int .i64 sm, .int .i64 vk, .int .i64 vn, .string vs, .int .i64 uk, .int .i64 un, .string us, .int .i64 xk, .int .i64 xn, .string xs, .string key]] w fun e w' => e = .returned (.bool true) ∧ Old w w' := by
  have hdo : ∀ (W : World) (a : Option Addr) (R : Nat), Old w W → Bare W (.pointer a) → RBlk W R 0 0 none 0 0 → Calls Tryz.prog 10 #[.pointer a, rp R, .agg #[.int .i64 sk, .int .i64 sn, .int .i64 sm, .int .i64 vk, .int .i64 vn, .string vs, .int .i64 uk, .int .i64 un, .string us, .int .i64 xk, .int .i64 xn, .string xs, .string key]] W fun e w' => e = .returned (.bool true) ∧ Old W w' :=
    fun W a R hO hB hR => em_does hB hR (hTab.old hO) sk sn sm vk vn vs uk un us xk xn xs key hs W (Fr.refl _ _) trivial
  have HD := Lib.hid hdo; clear hdo hTab hs
  go_enter Tryz.func4, Tryz.ntmps4
  go_wp2_with (first | (go_at_call 6; refine (hH _ (w.heap.size + 1) (heapNew1 w _ _)).mono ?_; rintro e w1 ⟨rfl, hO1⟩; have hF1 : Old w w1 := (((Fr.refl _ _).alloc _).alloc _).old hO1; have hs1 : StepAt w1 w.heap.size sk sn sm vk vn vs uk un us xk xn xs key := hO1.at (heapAlloc (heapNew w (.cells #[.int .i64 sk, .int .i64 sn, .int .i64 sm, .int .i64 vk, .int .i64 vn, .string vs, .int .i64 uk, .int .i64 un, .string us, .int .i64 xk, .int .i64 xn, .string xs, .string key] 36)) (.cells #[.int .i64 sk, .int .i64 sn, .int .i64 sm, .int .i64 vk, .int .i64 vn, .string vs, .int .i64 uk, .int .i64 un, .string us, .int .i64 xk, .int .i64 xn, .string xs, .string key] 36)) (fun f => f); obtain ⟨c0, c1, c2, c3, c4, c5, c6, c7, c8, c9, c10, c11, c12⟩ := StepAt.cells hs1; have hlS := ltOf hs1; have HS1 := Lib.hid hs1; clear hs1; have HF1 := Lib.hid hF1; clear hF1 hO1) | (go_at_call 9; refine (rnew_ok 0 _ (by decide) (by decide)).mono ?_; rintro e w2 ⟨rfl, rfl⟩; have hR0 : RBlk (w1.alloc (.cells #[.int .i64 0, .int .i64 0, .slice none 0 0] 40)) w1.heap.size 0 0 none 0 0 := heapNew w1 _; have HR0 := Lib.hid hR0; clear hR0) | (go_at_call 10; (with_reducible refine (HD.out _ (some ⟨w1.heap.size + 1, 0, none⟩) _ ?_ (bare_zero _ _ ?_) ?_).mono ?_); (exact (HF1.out.alloc _).alloc _); (exact heapNew1 w1 _ _); (exact heapAlloc HR0.out _); rintro e w3 ⟨rfl, hO3⟩; have hF3 : Old w w3 := ((HF1.out.alloc _).alloc _).old hO3; have hR3 := hO3.at (heapAlloc HR0.out (.cells #[.int .i64 0, .int .i64 0, .slice none 0 0] 46)) (fun f => f); have HR3 := Lib.hid hR3; clear hR3; have hs3 : StepAt w3 w.heap.size sk sn sm vk vn vs uk un us xk xn xs key := hO3.at (heapAlloc (heapAlloc HS1.out (.cells #[.int .i64 0, .int .i64 0, .slice none 0 0] 40)) (.cells #[.int .i64 0, .int .i64 0, .slice none 0 0] 46)) (fun f => f); clear c0 c1 c2 c3 c4 c5 c6 c7 c8 c9 c10 c11 c12; obtain ⟨c0, c1, c2, c3, c4, c5, c6, c7, c8, c9, c10, c11, c12⟩ := StepAt.cells hs3; clear hs3; have HF3 := Lib.hid hF3; clear hF3 hO3) | (go_at_call 10; (with_reducible refine (HD.out _ none _ ?_ (bare_nil _) ?_).mono ?_); (exact HF3.out); (exact HR3.out); rintro e w4 ⟨rfl, hO4⟩; have HF4 := Lib.hid (HF3.out.old hO4); clear hO4) | (go_at_call 11; refine (used_any _ w4.heap.size 0 0 (.slice none 0 0) (heapNew w4 _)).mono ?_; rintro e w5 ⟨rfl, rfl⟩) | (go_at_call 7; refine (known_true _).mono ?_; rintro e w6 ⟨rfl, hO6⟩))
  go_ret
  exact ⟨rfl, (HF4.out.alloc _).old hO6⟩

theorem nothing_any (w : World) (sk sn sm vk vn : Int) (vs : ByteArray) (uk un : Int) (us : ByteArray) (xk xn : Int) (xs key : ByteArray) (hTab : Tab w) (hb : key.size + vs.size + us.size + xs.size ≤ 562949953404928) :
    Calls Tryz.prog 4 #[.agg #[.int .i64 sk, .int .i64 sn, .int .i64 sm, .int .i64 vk, .int .i64 vn, .string vs, .int .i64 uk, .int .i64 un, .string us, .int .i64 xk, .int .i64 xn, .string xs, .string key]] w fun e w' => e = .returned (.bool true) ∧ Old w w' := by
  by_cases h8 : (8000 : Int) < (key.size : Int) + (vs.size : Int) + (us.size : Int) + (xs.size : Int)
  · exact nothing_heavy w sk sn sm vk vn vs uk un us xk xn xs key (fun W R hR => by
      have := heavy_any W R sk sn sm vk vn vs uk un us xk xn xs key hR hb
      rwa [decide_eq_true h8] at this)
  · exact nothing_light w sk sn sm vk vn vs uk un us xk xn xs key hTab (by omega) (fun W R hR => by
      have := heavy_any W R sk sn sm vk vn vs uk un us xk xn xs key hR hb
      rwa [decide_eq_false h8] at this)
end Go.Proofs.YtlimgecmolhdhaaGreatDoor

/- The argument Step, opened to cells; the table of the powers of ten. -/
set_option linter.unusedVariables false
set_option linter.unusedSimpArgs false
namespace Go.Proofs.YtlimgecmolhdhaaGreatDoor
open Go.ChangeShapes Go.WideShapes Go.ChangeAt Go.RowKit Go.Deep

section
variable {H : Type} {enc : TypeId × Value → H} {P : Program} {w : World} {base : Nat} {sp : Nat → Bool} {hd : Bool}

theorem fld {n : Nat} {cs : List Value} {xs : List (DataW H × List MemPlace)} {fs : Array Field} (hf : ∀ (i : Nat) (f : Field), fs[i]? = some f → DataW.trod enc P w base sp hd n f.type ((cs.drop f.offset).take (P.cellsOf f.type)) = xs[i]?) (hl : xs.length = fs.size) (i : Nat) (f : Field) (hi : fs[i]? = some f) :
    ∃ y, DataW.trod enc P w base sp hd n f.type ((cs.drop f.offset).take (P.cellsOf f.type)) = some y ∧ xs[i]? = some y := by
  have h1 : i < fs.size := (Array.getElem?_eq_some_iff.1 hi).1
  exact ⟨xs[i]'(by omega), by rw [hf i f hi]; exact List.getElem?_eq_getElem (by omega), List.getElem?_eq_getElem (by omega)⟩
end

section
variable {H : Type} {enc : TypeId × Value → H} {w : World} {base : Nat} {sp : Nat → Bool} {hd : Bool}

theorem value_three {n : Nat} {c1 c2 c3 : Value} {x : DataW H × List MemPlace} (h : DataW.trod enc Tryz.prog w base sp hd n 34 [c1, c2, c3] = some x) :
    ∃ (k n : Int) (s : ByteArray) (d0 d1 : DataW H), c1 = .int .i64 k ∧ c2 = .int .i64 n ∧ c3 = .string s ∧ x.1 = .agg [d0, d1, .lit (.string s.data.toList)] := by
  have k3 : Tryz.prog.cellsOf 3 = 1 := by kernel_rfl
  have k9 : Tryz.prog.cellsOf 9 = 1 := by kernel_rfl
  obtain ⟨ys, n2, _, rfl, hlen, hyl, hf⟩ := DataW.trod_struct Tryz.underlying34 h
  obtain ⟨y0, h0, e0⟩ := fld hf hyl 0 _ rfl
  change DataW.trod enc Tryz.prog w base sp hd n2 3 ((([c1, c2, c3] : List Value).drop 0).take (Tryz.prog.cellsOf 3)) = some y0 at h0
  rw [k3] at h0
  obtain ⟨y1, h1, e1⟩ := fld hf hyl 1 _ rfl
  change DataW.trod enc Tryz.prog w base sp hd n2 3 ((([c1, c2, c3] : List Value).drop 1).take (Tryz.prog.cellsOf 3)) = some y1 at h1
  rw [k3] at h1
  obtain ⟨y2, h2, e2⟩ := fld hf hyl 2 _ rfl
  change DataW.trod enc Tryz.prog w base sp hd n2 9 ((([c1, c2, c3] : List Value).drop 2).take (Tryz.prog.cellsOf 9)) = some y2 at h2
  rw [k9] at h2
  obtain ⟨k, f0, _, _⟩ := DataW.trod_int Tryz.underlying3 h0
  obtain ⟨m, f1, _, _⟩ := DataW.trod_int Tryz.underlying3 h1
  obtain ⟨s, f2, g2, _⟩ := DataW.trod_string Tryz.underlying9 h2
  have hl3 : ys.length = 3 := hyl
  match ys, hl3 with
  | [a, b, c], _ =>
    obtain rfl : a = y0 := by simpa using e0
    obtain rfl : b = y1 := by simpa using e1
    obtain rfl : c = y2 := by simpa using e2
    exact ⟨k, m, s, a.1, b.1, by simpa using f0, by simpa using f1, by simpa using f2, by simp [g2]⟩

set_option maxRecDepth 100000 in
theorem open_step {r : Reach} {b0 : Nat} {v : Value} {d : DataW H} {p : List MemPlace} (hv : Value.okWide Tryz.prog w r b0 36 v) (h : DataW.Trod enc Tryz.prog w base sp hd 36 v d p)
    (hreach : (DataW.weightsEach Tryz.prog [36] [d]).all (· ≤ reachBytes) = true) :
    ∃ (sk sn sm vk vn : Int) (vs : ByteArray) (uk un : Int) (us : ByteArray) (xk xn : Int) (xs key : ByteArray), v = .agg #[.int .i64 sk, .int .i64 sn, .int .i64 sm, .int .i64 vk, .int .i64 vn, .string vs, .int .i64 uk, .int .i64 un, .string us, .int .i64 xk, .int .i64 xn, .string xs, .string key] ∧
      key.size + vs.size + us.size + xs.size ≤ 562949953404928 := by
  have k3 : Tryz.prog.cellsOf 3 = 1 := by kernel_rfl
  have k9 : Tryz.prog.cellsOf 9 = 1 := by kernel_rfl
  have kt : Tryz.prog.cellsOf 34 = 3 := by kernel_rfl
  have kS : Tryz.prog.cellsOf 36 = 13 := by kernel_rfl
  obtain ⟨⟨l⟩, rfl, hsz⟩ := okWide_struct Tryz.underlying36 hv
  rw [kS] at hsz
  match l, hsz with
  | [c0, c1, c2, c3, c4, c5, c6, c7, c8, c9, c10, c11, c12], _ =>
  obtain ⟨fuel, hf0⟩ := h
  obtain ⟨ys, n2, _, hx, hlen, hyl, hf⟩ := DataW.trod_struct Tryz.underlying36 hf0
  obtain ⟨y0, h0, e0⟩ := fld hf hyl 0 _ rfl
  change DataW.trod enc Tryz.prog w base sp hd n2 3 ((([c0, c1, c2, c3, c4, c5, c6, c7, c8, c9, c10, c11, c12] : List Value).drop 0).take (Tryz.prog.cellsOf 3)) = some y0 at h0
  rw [k3] at h0
  obtain ⟨y1, h1, e1⟩ := fld hf hyl 1 _ rfl
  change DataW.trod enc Tryz.prog w base sp hd n2 3 ((([c0, c1, c2, c3, c4, c5, c6, c7, c8, c9, c10, c11, c12] : List Value).drop 1).take (Tryz.prog.cellsOf 3)) = some y1 at h1
  rw [k3] at h1
  obtain ⟨y2, h2, e2⟩ := fld hf hyl 2 _ rfl
  change DataW.trod enc Tryz.prog w base sp hd n2 3 ((([c0, c1, c2, c3, c4, c5, c6, c7, c8, c9, c10, c11, c12] : List Value).drop 2).take (Tryz.prog.cellsOf 3)) = some y2 at h2
  rw [k3] at h2
  obtain ⟨y3, h3, e3⟩ := fld hf hyl 3 _ rfl
  change DataW.trod enc Tryz.prog w base sp hd n2 34 ((([c0, c1, c2, c3, c4, c5, c6, c7, c8, c9, c10, c11, c12] : List Value).drop 3).take (Tryz.prog.cellsOf 34)) = some y3 at h3
  rw [kt] at h3
  obtain ⟨y4, h4, e4⟩ := fld hf hyl 4 _ rfl
  change DataW.trod enc Tryz.prog w base sp hd n2 34 ((([c0, c1, c2, c3, c4, c5, c6, c7, c8, c9, c10, c11, c12] : List Value).drop 6).take (Tryz.prog.cellsOf 34)) = some y4 at h4
  rw [kt] at h4
  obtain ⟨y5, h5, e5⟩ := fld hf hyl 5 _ rfl
  change DataW.trod enc Tryz.prog w base sp hd n2 34 ((([c0, c1, c2, c3, c4, c5, c6, c7, c8, c9, c10, c11, c12] : List Value).drop 9).take (Tryz.prog.cellsOf 34)) = some y5 at h5
  rw [kt] at h5
  obtain ⟨y6, h6, e6⟩ := fld hf hyl 6 _ rfl
  change DataW.trod enc Tryz.prog w base sp hd n2 9 ((([c0, c1, c2, c3, c4, c5, c6, c7, c8, c9, c10, c11, c12] : List Value).drop 12).take (Tryz.prog.cellsOf 9)) = some y6 at h6
  rw [k9] at h6
  obtain ⟨sk, f0, g0, _⟩ := DataW.trod_int Tryz.underlying3 h0
  obtain ⟨sn, f1, g1, _⟩ := DataW.trod_int Tryz.underlying3 h1
  obtain ⟨sm, f2, g2, _⟩ := DataW.trod_int Tryz.underlying3 h2
  obtain ⟨vk, vn, vs, a0, a1, rfl, rfl, rfl, g3⟩ := value_three h3
  obtain ⟨uk, un, us, b0, b1, rfl, rfl, rfl, g4⟩ := value_three h4
  obtain ⟨xk, xn, xs, z0, z1, rfl, rfl, rfl, g5⟩ := value_three h5
  obtain ⟨key, f6, g6, _⟩ := DataW.trod_string Tryz.underlying9 h6
  obtain rfl : c0 = .int .i64 sk := by simpa using f0
  obtain rfl : c1 = .int .i64 sn := by simpa using f1
  obtain rfl : c2 = .int .i64 sm := by simpa using f2
  obtain rfl : c12 = .string key := by simpa using f6
  refine ⟨sk, sn, sm, vk, vn, vs, uk, un, us, xk, xn, xs, key, rfl, ?_⟩
  have hl7 : ys.length = 7 := hyl
  match ys, hl7 with
  | [t0, t1, t2, t3, t4, t5, t6], _ =>
    obtain rfl : t0 = y0 := by simpa using e0
    obtain rfl : t1 = y1 := by simpa using e1
    obtain rfl : t2 = y2 := by simpa using e2
    obtain rfl : t3 = y3 := by simpa using e3
    obtain rfl : t4 = y4 := by simpa using e4
    obtain rfl : t5 = y5 := by simpa using e5
    obtain rfl : t6 = y6 := by simpa using e6
    have hd' : d = .agg [t0.1, t1.1, t2.1, .agg [a0, a1, .lit (.string vs.data.toList)], .agg [b0, b1, .lit (.string us.data.toList)], .agg [z0, z1, .lit (.string xs.data.toList)], .lit (.string key.data.toList)] := by
      have := congrArg Prod.fst hx
      simp only [List.map_cons, List.map_nil, g3, g4, g5] at this
      rw [show t6.1 = .lit (.string key.data.toList) by rw [g6]] at this
      exact this
    rw [hd'] at hreach
    simp only [DataW.weightsEach, DataW.weights, Tryz.underlying36, Tryz.underlying34, List.map_cons, List.map_nil, List.all_append, List.all_cons, List.all_nil, Bool.and_eq_true, Bool.and_true, decide_eq_true_eq, List.append_nil, Array.length_toList] at hreach
    have hz : ∀ s : ByteArray, s.data.size = s.size := fun _ => rfl
    have hr : reachBytes = 140737488351232 := by decide
    simp only [hz, hr] at hreach
    omega
end

theorem tab_of {W : World} (h : laidMetH Tryz.prog Rows.heapOfNothingRow.laid W) : Tab W := by
  have h' : laidMet Tryz.prog Rows.heapOfNothingRow.laid W := h
  obtain ⟨ps, ⟨_, _, _, _, _, q1, _, _, _, _, h2, _⟩, _⟩ := h'
  obtain ⟨_, _, _, _, _, q2, _, _, _, _, h3, _⟩ := h2
  obtain ⟨g', t', cs, fuel, p, q, hg', ht', hvar, hd, _, _⟩ := h3
  obtain rfl := Option.some.inj ((show Tryz.prog.globalNamed "internal/strconv.uint64pow10" = some 0 by kernel_rfl).symm.trans hg')
  obtain rfl := Option.some.inj ((show (Tryz.prog.globals[0]?).map (·.type) = some 159 by kernel_rfl).symm.trans ht')
  have hd' : DataW.trod (fun _ => ()) Tryz.prog W 0 (fun _ => true) false fuel 159 cs.toList = some (Lib.tabData .u64 Lib.pow10Tab, p) := hd
  have := Lib.cells_of_tab Tryz.underlying159 Tryz.underlying153 (by kernel_rfl) (by kernel_rfl) hd'
  unfold Tab Lib.TabIs
  rw [hvar, ← this]
end Go.Proofs.YtlimgecmolhdhaaGreatDoor

/- HeapOfNothing: for every step the law returns true, and the step reads as it did. Conditions: the listed package-level variables hold what the program's text lays; nothing else. -/
set_option linter.unusedVariables false
set_option linter.unusedSimpArgs false
namespace Go.Proofs.YtlimgecmolhdhaaGreatDoor.heapOfNothing
open Go.ChangeShapes Go.WideShapes Go.ChangeAt Go.RowKit

set_option maxRecDepth 100000 in
theorem contract (H : Type) (enc : TypeId × Value → H) (W : World) (base : Nat) (args : Array Value) (ds gs : List (DataW H)) (before : List MemPlace)
    (hval : ∀ (j : Nat) t v, Tryz.f4.params[j]? = some t → args[j]? = some v → Value.okWide Tryz.prog W .any base t v)
    (hW : DataW.Whole enc Tryz.prog Tryz.f4.params.toList Rows.heapOfNothingSpec.vars false W args.toList ds gs before)
    (hreach : (DataW.weightsEach Tryz.prog (Tryz.f4.params.toList ++ (OpenSpec.ofChange Rows.heapOfNothingSpec).bare.plain.varTypes Tryz.prog) (ds ++ gs)).all (· ≤ reachBytes) = true)
    (hL : laidMetH Tryz.prog Rows.heapOfNothingRow.laid W) :
    Calls Tryz.prog 4 args W fun e W' => ∃ v, e = .returned v ∧ Rows.heapOfNothingSpec.post enc Tryz.prog Tryz.f4 false true false false W args v W' := by
  have hW' := hW
  obtain ⟨p, q, hA0, hV, rfl, hfz, hnd⟩ := hW
  have hA : DataW.TrodAll enc Tryz.prog W 0 (fun _ => true) true Tryz.f4.params.toList args.toList ds p := hA0
  rw [show Tryz.f4.params = #[36] from Tryz.params4] at hA hval hreach
  obtain ⟨v0, vs0, d0, ds0, p0, q0, hargs, rfl, rfl, h0, r0⟩ := trodAll_cons hA
  obtain ⟨rfl, rfl, rfl⟩ := trodAll_nil r0
  obtain rfl : args = #[v0] := by cases args; simp_all
  have hreach' : (DataW.weightsEach Tryz.prog [36] [d0]).all (· ≤ reachBytes) = true := by
    simp only [DataW.weightsEach, List.cons_append, List.nil_append, List.all_append, List.all_nil, Bool.and_eq_true, Bool.and_true, List.append_nil] at hreach ⊢
    exact hreach.1
  obtain ⟨sk, sn, sm, vk, vn, vs, uk, un, us, xk, xn, xs, key, rfl, hb⟩ := open_step (hval 0 36 v0 rfl rfl) h0 hreach'
  refine (nothing_any W sk sn sm vk vn vs uk un us xk xn xs key (tab_of hL) hb).mono fun e W' ⟨he, hO⟩ => ?_
  subst he
  exact ⟨_, rfl, law_post (by kernel_rfl) rfl (by
    rw [show Tryz.f4.params = #[36] from Tryz.params4]
    intro t ht
    simp at ht
    subst ht
    exact ⟨by kernel_rfl, of_decide_eq_true (by kernel_rfl)⟩) hW' rfl hO⟩

theorem laid_met (os : Os) : laidMet Tryz.prog Rows.heapOfNothingRow.laid ((laidWorld os).forCall (fun _ _ => 0) ⟨#[], #[.agg #[.int .i64 0, .int .i64 0, .int .i64 0, .int .i64 0, .int .i64 0, .string ⟨#[]⟩, .int .i64 0, .int .i64 0, .string ⟨#[]⟩, .int .i64 0, .int .i64 0, .string ⟨#[]⟩, .string ⟨#[]⟩]], []⟩).memory :=
  laidMet_of_run' 8 (by kernel_rfl) (by kernel_rfl)
theorem reads (os : Os) {H : Type} (enc : TypeId × Value → H) : ∃ places, DataW.whole enc Tryz.prog ((laidWorld os).forCall (fun _ _ => 0) ⟨#[], #[.agg #[.int .i64 0, .int .i64 0, .int .i64 0, .int .i64 0, .int .i64 0, .string ⟨#[]⟩, .int .i64 0, .int .i64 0, .string ⟨#[]⟩, .int .i64 0, .int .i64 0, .string ⟨#[]⟩, .string ⟨#[]⟩]], []⟩).memory Tryz.f4.params.toList Rows.heapOfNothingSpec.vars false #[Value.agg #[.int .i64 0, .int .i64 0, .int .i64 0, .int .i64 0, .int .i64 0, .string ⟨#[]⟩, .int .i64 0, .int .i64 0, .string ⟨#[]⟩, .int .i64 0, .int .i64 0, .string ⟨#[]⟩, .string ⟨#[]⟩]].toList 8 = some ([.agg [.lit (.int .i64 0), .lit (.int .i64 0), .lit (.int .i64 0), DataW.agg [.lit (.int .i64 0), .lit (.int .i64 0), .lit (.string [])], DataW.agg [.lit (.int .i64 0), .lit (.int .i64 0), .lit (.string [])], DataW.agg [.lit (.int .i64 0), .lit (.int .i64 0), .lit (.string [])], .lit (.string [])]], [], places) :=
  ⟨[], by kernel_rfl⟩

set_option maxRecDepth 100000 in
theorem lifted (os : Os) (started : os.Started) (H : Type) (enc : TypeId × Value → H) (F : Stop.Interp) :
    ReturnsInHanded {} Tryz.checked os 4 .any ((OpenSpec.ofChange Rows.heapOfNothingSpec).preRow enc Tryz.prog Tryz.f4 Rows.heapOfNothingRow.domain false Rows.heapOfNothingRow.laid) (((OpenSpec.ofChange Rows.heapOfNothingSpec).at F).post enc Tryz.prog Tryz.f4 false true false false) := by
  obtain ⟨places, hx⟩ := reads os enc
  refine returnsInHanded_of_row (C := Tryz.checked) (s := OpenSpec.ofChange Rows.heapOfNothingSpec) ownKnobNone started (by kernel_rfl) Tryz.func4
    (witness_row_at (enc := enc) (C := Tryz.checked) false (laidWorld os) #[.agg #[.int .i64 0, .int .i64 0, .int .i64 0, .int .i64 0, .int .i64 0, .string ⟨#[]⟩, .int .i64 0, .int .i64 0, .string ⟨#[]⟩, .int .i64 0, .int .i64 0, .string ⟨#[]⟩, .string ⟨#[]⟩]] rfl (by kernel_rfl) (by kernel_rfl) (by kernel_rfl)
      (OpenSpec.preRow_of_cond 8 hx (by kernel_rfl) (fun k hk => by cases hk) (by kernel_rfl) (laid_met os))) ?_
  intro W base args ds gs before hval hW _ _ hreach hL _ _
  exact contract H enc W base args ds gs before hval hW hreach hL

theorem said : Rows.HeapOfNothingSaid :=
  OpenClaim.holds_of_cond 4 Tryz.f4 rfl rfl rfl rfl rfl rfl rfl ⟨rfl, rfl, rfl, rfl, rfl⟩ rfl rfl rfl rfl rfl (by kernel_rfl) Tryz.func4 (by kernel_rfl)
    (of_decide_eq_true (by kernel_rfl)) (by unfold Func.isWrapper; first | (rw [if_pos (by decide +kernel)]; kernel_rfl) | (rw [if_neg (by decide +kernel)]; exact ⟨rfl, rfl⟩))
    (fun os started H enc _ F => by rw [OpenClaim.pre_eq_preRow]; exact lifted os started H enc F)

theorem plain (f : FuncId) (fn' : Func) (hf : Tryz.pinned.checked.prog.funcNamed "shuck/shucklaw15.HeapOfNothing" = some f) (hfn : Tryz.pinned.checked.prog.funcs[f]? = some fn') :
    true = Tryz.pinned.checked.prog.looks [] ∧ ∀ (j : Nat) t, fn'.params[j]? = some t → Tryz.pinned.checked.prog.wantsStandIn t = false := by
  obtain rfl : f = 4 := Option.some.inj ((show Tryz.prog.funcNamed "shuck/shucklaw15.HeapOfNothing" = some 4 by kernel_rfl).symm.trans hf) |>.symm
  obtain rfl : fn' = Tryz.f4 := (Option.some.inj (Tryz.func4.symm.trans hfn)).symm
  refine ⟨by kernel_rfl, fun j t ht => ?_⟩
  rw [show Tryz.f4.params = #[36] from Tryz.params4] at ht
  have hm : t = 36 := by simpa using Array.mem_of_getElem? ht
  subst hm
  exact (show Tryz.prog.wantsStandIn 36 = false by kernel_rfl)

theorem card : Rows.HeapOfNothingCardSaid :=
  Claim7.holds_tied_plain_at .later [] _ _ _ _ said (fun _ h => by cases h) (by kernel_rfl) (fun _ h => by cases h) heapOfNothing_row_tie rfl ⟨rfl, rfl⟩ (by kernel_rfl) rfl plain (by kernel_rfl)
#print axioms card
end Go.Proofs.YtlimgecmolhdhaaGreatDoor.heapOfNothing
