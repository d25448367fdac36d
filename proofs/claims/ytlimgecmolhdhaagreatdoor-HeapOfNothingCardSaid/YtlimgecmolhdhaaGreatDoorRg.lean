/- The reference's Get of a value that is no thing. -/
import Derived.Test.YtlimgecmolhdhaaGreatDoorRa
import Derived.Test.YtlimgecmolhdhaaGreatDoorRt
import Derived.Test.YtlimgecmolhdhaaGreatDoorB
set_option linter.unusedVariables false
set_option linter.unusedSimpArgs false
namespace Go.Proofs.YtlimgecmolhdhaaGreatDoor
open Go.RowKit

theorem cells5 {w : World} {b : Nat} {x y z u v : Value} {t : TypeId} (h : w.heap[b]? = some (.cells #[x, y, z, u, v] t (0, 0))) :
    w.cell? ⟨b, 0, none⟩ = some x ∧ w.cell? ⟨b, 1, none⟩ = some y ∧ w.cell? ⟨b, 2, none⟩ = some z ∧ w.cell? ⟨b, 3, none⟩ = some u ∧ w.cell? ⟨b, 4, none⟩ = some v ∧
    w.frozen? ⟨b, 0, none⟩ = false ∧ w.frozen? ⟨b, 1, none⟩ = false ∧ w.frozen? ⟨b, 2, none⟩ = false ∧ w.frozen? ⟨b, 3, none⟩ = false ∧ w.frozen? ⟨b, 4, none⟩ = false :=
  ⟨cellOf h 0 _ rfl, cellOf h 1 _ rfl, cellOf h 2 _ rfl, cellOf h 3 _ rfl, cellOf h 4 _ rfl, freeOf h 0, freeOf h 1, freeOf h 2, freeOf h 3, freeOf h 4⟩
@[reducible] def outV (v : AV) (t : ByteArray) (f : Int) : Value := .agg #[.int .i64 v.k, .int .i64 v.n, .string v.s, .string t, .int .i64 f]
def lenKey : ByteArray := ⟨#[108, 101, 110, 103, 116, 104]⟩

theorem str_ne {a b : ByteArray} {L : List UInt8} (h : a ≠ b) (hL : b.data.toList = L) : (a.toList == L) = false := by
  rw [ByteArray.toList_eq, ← hL]
  have : a.data.toList ≠ b.data.toList := fun e => h (by
    apply ByteArray.ext
    exact Array.toList_inj.1 e)
  simpa using this
theorem str_is {a b : ByteArray} {L : List UInt8} (h : a = b) (hL : b.data.toList = L) : (a.toList == L) = true := by
  rw [ByteArray.toList_eq, h, hL]; simp

/-- Runes of a text's bytes that a conversion has laid. -/
theorem rrunes_str (w : World) (g : Nat) (s : ByteArray) (hg : g = w.heap.size) (hs : s.size ≤ 1000000) :
    Calls Tryz.prog 51 #[.slice (some ⟨g, 0, none⟩) s.size (grownCap w s.size 0 5)] (Lib.bytesWorld w 5 s) (RunesPost (Lib.bytesWorld w 5 s) s.data.toList) := by
  subst hg
  have e : s.data.toList.length = s.size := by rw [Array.length_toList]; rfl
  have := rrunes_any w.heap.size (grownCap w s.size 0 5) s.data.toList (Lib.bytesWorld w 5 s) (bytes_new w s) (by rw [Lib.bytesWorld_size]; omega) (by rw [e]; exact hs)
  rw [e] at this
  exact this

set_option maxRecDepth 100000 in
set_option maxHeartbeats 1000000 in
theorem rget_throw (w : World) (R : Nat) (xk xn : Int) (xs : ByteArray) (yk yn : Int) (ys : ByteArray) (key : ByteArray) (hk : yk = 0 ∨ yk = 1)
    (hS : Says w nowhere anyW 38 #[rp R, .agg #[.int .i64 xk, .int .i64 xn, .string xs]] (.agg #[.int .i64 yk, .int .i64 yn, .string ys])) :
    Says w nowhere anyW 24 #[rp R, .agg #[.int .i64 xk, .int .i64 xn, .string xs], .string key] (outV AV.zero ⟨#[84, 121, 112, 101, 69, 114, 114, 111, 114, 58, 32, 110, 111, 32, 109, 101, 109, 98, 101, 114, 115]⟩ 1) := by
  intro W hW _
  have HW := Lib.hid hW; clear hW
  rcases hk with rfl | rfl
  · go_enter Tryz.func24, Tryz.ntmps24
    go_wp2_with (first | (go_at_call 38; refine (hS _ (HW.out.old ((((Fr.refl _ _).alloc _).alloc _))) trivial).mono ?_; rintro e w1 ⟨rfl, hO⟩; have b1 := hO.at (heapNew1 W (.cells #[.int .i64 xk, .int .i64 xn, .string xs] 34) (.cells #[.int .i64 0, .int .i64 0, .string ⟨#[]⟩, .string ⟨#[]⟩, .int .i64 0] 56)) (fun f => f); have hF := (((Fr.refl (fun _ => False) W).alloc (.cells #[.int .i64 xk, .int .i64 xn, .string xs] 34)).alloc (.cells #[.int .i64 0, .int .i64 0, .string ⟨#[]⟩, .string ⟨#[]⟩, .int .i64 0] 56)).old hO; have B1 := Lib.hid b1; clear b1; have hF1 := hF.alloc (.cells #[.int .i64 0, .int .i64 yn, .string ys] 34); have b5 := heapNew w1 (.cells #[.int .i64 0, .int .i64 yn, .string ys] 34); have B5 := Lib.hid b5; clear b5) | (go_at_call 49; refine (rthrow_any _ _).mono ?_; rintro e w2 ⟨rfl, hO2⟩; obtain ⟨q0, q1, q2, _, _, _⟩ := cells3 (hO2.at B5.out (fun f => f)); have b1 := hO2.at (heapAlloc B1.out _) (fun f => f); obtain ⟨o0, o1, o2, o3, o4, g0, g1, g2, g3, g4⟩ := cells5 b1; have hl := ltOf b1; have hF2 := hF1.old hO2; clear b1))
    refine bodyPost_ret (v := outV AV.zero ⟨#[84, 121, 112, 101, 69, 114, 114, 111, 114, 58, 32, 110, 111, 32, 109, 101, 109, 98, 101, 114, 115]⟩ 1) (by simp [results, Tryz.results24, go_sem, o0, o1, o2, o3, o4, hl, AV.zero]) rfl ⟨rfl, ?_⟩
    repeat (first | exact hF2 | refine Fr.setCell ?_ (Or.inl (by simp)) _ | refine Fr.alloc ?_ _)
  · go_enter Tryz.func24, Tryz.ntmps24
    go_wp2_with (first | (go_at_call 38; refine (hS _ (HW.out.old ((((Fr.refl _ _).alloc _).alloc _))) trivial).mono ?_; rintro e w1 ⟨rfl, hO⟩; have b1 := hO.at (heapNew1 W (.cells #[.int .i64 xk, .int .i64 xn, .string xs] 34) (.cells #[.int .i64 0, .int .i64 0, .string ⟨#[]⟩, .string ⟨#[]⟩, .int .i64 0] 56)) (fun f => f); have hF := (((Fr.refl (fun _ => False) W).alloc (.cells #[.int .i64 xk, .int .i64 xn, .string xs] 34)).alloc (.cells #[.int .i64 0, .int .i64 0, .string ⟨#[]⟩, .string ⟨#[]⟩, .int .i64 0] 56)).old hO; have B1 := Lib.hid b1; clear b1; have hF1 := hF.alloc (.cells #[.int .i64 1, .int .i64 yn, .string ys] 34); have b5 := heapNew w1 (.cells #[.int .i64 1, .int .i64 yn, .string ys] 34); have B5 := Lib.hid b5; clear b5) | (go_at_call 49; refine (rthrow_any _ _).mono ?_; rintro e w2 ⟨rfl, hO2⟩; obtain ⟨q0, q1, q2, _, _, _⟩ := cells3 (hO2.at B5.out (fun f => f)); have b1 := hO2.at (heapAlloc B1.out _) (fun f => f); obtain ⟨o0, o1, o2, o3, o4, g0, g1, g2, g3, g4⟩ := cells5 b1; have hl := ltOf b1; have hF2 := hF1.old hO2; clear b1))
    refine bodyPost_ret (v := outV AV.zero ⟨#[84, 121, 112, 101, 69, 114, 114, 111, 114, 58, 32, 110, 111, 32, 109, 101, 109, 98, 101, 114, 115]⟩ 1) (by simp [results, Tryz.results24, go_sem, o0, o1, o2, o3, o4, hl, AV.zero]) rfl ⟨rfl, ?_⟩
    repeat (first | exact hF2 | refine Fr.setCell ?_ (Or.inl (by simp)) _ | refine Fr.alloc ?_ _)

set_option maxRecDepth 100000 in
set_option maxHeartbeats 1000000 in
theorem rget_none (w : World) (R : Nat) (xk xn : Int) (xs : ByteArray) (yk yn : Int) (ys : ByteArray) (key : ByteArray) (h0 : (yk == 0) = false) (h1 : (yk == 1) = false) (h5 : (yk == 5) = false) (h4 : (yk == 4) = false)
    (hS : Says w nowhere anyW 38 #[rp R, .agg #[.int .i64 xk, .int .i64 xn, .string xs]] (.agg #[.int .i64 yk, .int .i64 yn, .string ys])) :
    Says w nowhere anyW 24 #[rp R, .agg #[.int .i64 xk, .int .i64 xn, .string xs], .string key] (outV AV.zero ⟨#[]⟩ 0) := by
  intro W hW _
  have HW := Lib.hid hW; clear hW
  go_enter Tryz.func24, Tryz.ntmps24
  go_wp2_with (first | (go_at_call 38; refine (hS _ (HW.out.old ((((Fr.refl _ _).alloc _).alloc _))) trivial).mono ?_; rintro e w1 ⟨rfl, hO⟩; have b1 := hO.at (heapNew1 W (.cells #[.int .i64 xk, .int .i64 xn, .string xs] 34) (.cells #[.int .i64 0, .int .i64 0, .string ⟨#[]⟩, .string ⟨#[]⟩, .int .i64 0] 56)) (fun f => f); have hF := (((Fr.refl (fun _ => False) W).alloc (.cells #[.int .i64 xk, .int .i64 xn, .string xs] 34)).alloc (.cells #[.int .i64 0, .int .i64 0, .string ⟨#[]⟩, .string ⟨#[]⟩, .int .i64 0] 56)).old hO; have B1 := Lib.hid b1; clear b1; have hF1 := hF.alloc (.cells #[.int .i64 yk, .int .i64 yn, .string ys] 34); have b5 := heapNew w1 (.cells #[.int .i64 yk, .int .i64 yn, .string ys] 34); have B5 := Lib.hid b5; clear b5) | (go_at_call 52; refine (rarray_nref _ R yk yn ys h5 _ (Fr.refl _ _) trivial).mono ?_; rintro e w2 ⟨rfl, hO2⟩; obtain ⟨q0, q1, q2, _, _, _⟩ := cells3 (hO2.at B5.out (fun f => f)); have b1 := hO2.at (heapAlloc B1.out _) (fun f => f); obtain ⟨o0, o1, o2, o3, o4, g0, g1, g2, g3, g4⟩ := cells5 b1; have hl := ltOf b1; have hF2 := hF1.old hO2; clear b1))
  refine bodyPost_ret (v := outV AV.zero ⟨#[]⟩ 0) (by simp [results, Tryz.results24, go_sem, o0, o1, o2, o3, o4, hl, AV.zero]) rfl ⟨rfl, ?_⟩
  repeat (first | exact hF2 | refine Fr.setCell ?_ (Or.inl (by simp)) _ | refine Fr.alloc ?_ _)

set_option maxRecDepth 100000 in
set_option maxHeartbeats 1000000 in
theorem rget_str (w : World) (R : Nat) (xk xn : Int) (xs : ByteArray) (yk yn : Int) (ys : ByteArray) (key : ByteArray) (hkey : key ≠ lenKey) (h4 : yk = 4)
    (hS : Says w nowhere anyW 38 #[rp R, .agg #[.int .i64 xk, .int .i64 xn, .string xs]] (.agg #[.int .i64 yk, .int .i64 yn, .string ys])) :
    Says w nowhere anyW 24 #[rp R, .agg #[.int .i64 xk, .int .i64 xn, .string xs], .string key] (outV AV.zero ⟨#[]⟩ 0) := by
  intro W hW _
  have HW := Lib.hid hW; clear hW
  subst h4
  have hkb : (key.toList == [108, 101, 110, 103, 116, 104]) = false := str_ne hkey rfl
  go_enter Tryz.func24, Tryz.ntmps24
  go_wp2_with (first | (go_at_call 38; refine (hS _ (HW.out.old ((((Fr.refl _ _).alloc _).alloc _))) trivial).mono ?_; rintro e w1 ⟨rfl, hO⟩; have b1 := hO.at (heapNew1 W (.cells #[.int .i64 xk, .int .i64 xn, .string xs] 34) (.cells #[.int .i64 0, .int .i64 0, .string ⟨#[]⟩, .string ⟨#[]⟩, .int .i64 0] 56)) (fun f => f); have hF := (((Fr.refl (fun _ => False) W).alloc (.cells #[.int .i64 xk, .int .i64 xn, .string xs] 34)).alloc (.cells #[.int .i64 0, .int .i64 0, .string ⟨#[]⟩, .string ⟨#[]⟩, .int .i64 0] 56)).old hO; have B1 := Lib.hid b1; clear b1; have hF1 := hF.alloc (.cells #[.int .i64 4, .int .i64 yn, .string ys] 34); have b5 := heapNew w1 (.cells #[.int .i64 4, .int .i64 yn, .string ys] 34); have B5 := Lib.hid b5; clear b5) | (go_at_call 52; refine (rarray_nref _ R 4 yn ys rfl _ (Fr.refl _ _) trivial).mono ?_; rintro e w2 ⟨rfl, hO2⟩; obtain ⟨q0, q1, q2, _, _, _⟩ := cells3 (hO2.at B5.out (fun f => f)); have b1 := hO2.at (heapAlloc B1.out _) (fun f => f); obtain ⟨o0, o1, o2, o3, o4, g0, g1, g2, g3, g4⟩ := cells5 b1; have hl := ltOf b1; have hF2 := hF1.old hO2; clear b1))
  refine bodyPost_ret (v := outV AV.zero ⟨#[]⟩ 0) (by simp [results, Tryz.results24, go_sem, o0, o1, o2, o3, o4, hl, AV.zero]) rfl ⟨rfl, ?_⟩
  repeat (first | exact hF2 | refine Fr.setCell ?_ (Or.inl (by simp)) _ | refine Fr.alloc ?_ _)
end Go.Proofs.YtlimgecmolhdhaaGreatDoor

/- The reference's Get of a text's length. -/
set_option linter.unusedVariables false
set_option linter.unusedSimpArgs false
namespace Go.Proofs.YtlimgecmolhdhaaGreatDoor
open Go.RowKit

set_option maxRecDepth 100000 in
set_option maxHeartbeats 1000000 in
theorem rget_len (w : World) (R : Nat) (xk xn : Int) (xs : ByteArray) (yk yn : Int) (ys : ByteArray) (key : ByteArray) (hkey : key = lenKey) (h4 : yk = 4) (hys : ys.size ≤ 1000000)
    (hS : Says w nowhere anyW 38 #[rp R, .agg #[.int .i64 xk, .int .i64 xn, .string xs]] (.agg #[.int .i64 yk, .int .i64 yn, .string ys])) :
    Says w nowhere anyW 24 #[rp R, .agg #[.int .i64 xk, .int .i64 xn, .string xs], .string key] (outV ⟨3, ((rowsP 0 ys.data.toList).length : Nat), ⟨#[]⟩⟩ ⟨#[]⟩ 0) := by
  intro W hW _
  have HW := Lib.hid hW; clear hW
  subst h4
  have hkb : (key.toList == [108, 101, 110, 103, 116, 104]) = true := str_is hkey rfl
  clear hkey
  have kc := fun (w : World) (s : ByteArray) => Lib.run_convert_string_bytes (P := Tryz.prog) w 9 70 5 s Tryz.underlying9 Tryz.underlying70 Tryz.underlying5
  go_enter Tryz.func24, Tryz.ntmps24
  go_wp2_with (first | (go_at_call 38; refine (hS _ (HW.out.old ((((Fr.refl _ _).alloc _).alloc _))) trivial).mono ?_; rintro e w1 ⟨rfl, hO⟩; have b1 := hO.at (heapNew1 W (.cells #[.int .i64 xk, .int .i64 xn, .string xs] 34) (.cells #[.int .i64 0, .int .i64 0, .string ⟨#[]⟩, .string ⟨#[]⟩, .int .i64 0] 56)) (fun f => f); have hF := (((Fr.refl (fun _ => False) W).alloc (.cells #[.int .i64 xk, .int .i64 xn, .string xs] 34)).alloc (.cells #[.int .i64 0, .int .i64 0, .string ⟨#[]⟩, .string ⟨#[]⟩, .int .i64 0] 56)).old hO; have B1 := Lib.hid b1; clear b1; have hF1 := hF.alloc (.cells #[.int .i64 4, .int .i64 yn, .string ys] 34); have b5 := heapNew w1 (.cells #[.int .i64 4, .int .i64 yn, .string ys] 34); obtain ⟨q0, q1, q2, _, _, _⟩ := cells3 b5; have B5 := Lib.hid b5; clear b5; have hcb := Lib.hid (Old.bytesWorld (w1.alloc (.cells #[.int .i64 4, .int .i64 yn, .string ys] 34)) 5 ys)) | (go_at_call 51; go_loud (refine (rrunes_str (w1.alloc (.cells #[.int .i64 4, .int .i64 yn, .string ys] 34)) (w1.heap.size + 1) ys (by rw [World.size_alloc]) hys).mono ?_; intro e w2 hrp; obtain ⟨v, rfl, hrow, hO2⟩ := hrp; obtain ⟨va, vm, rfl⟩ := ownsRow_slice hrow; have hO2 := hcb.out.old hO2; clear hrow)) | (go_at_call 50; go_loud (refine (rnumber_any _ _).mono ?_; rintro e w3 ⟨rfl, hO3⟩; have hO2 := hO2.old hO3; obtain ⟨q0, q1, q2, _, _, _⟩ := cells3 (hO2.at B5.out (fun f => f)); have b1 := hO2.at (heapAlloc B1.out _) (fun f => f); obtain ⟨o0, o1, o2, o3, o4, g0, g1, g2, g3, g4⟩ := cells5 b1; have hl := ltOf b1; have hF2 := hF1.old hO2; clear b1)))
  refine bodyPost_ret (v := outV ⟨3, ((rowsP 0 ys.data.toList).length : Nat), ⟨#[]⟩⟩ ⟨#[]⟩ 0) (by simp [results, Tryz.results24, go_sem, o0, o1, o2, o3, o4, hl, AV.zero]) rfl ⟨rfl, ?_⟩
  repeat (first | exact hF2 | refine Fr.setCell ?_ (Or.inl (by simp)) _ | refine Fr.alloc ?_ _)
end Go.Proofs.YtlimgecmolhdhaaGreatDoor
