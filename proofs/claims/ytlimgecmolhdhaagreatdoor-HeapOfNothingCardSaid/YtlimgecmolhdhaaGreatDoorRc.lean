/- The reference's At of a text with a number. -/
import Derived.Test.YtlimgecmolhdhaaGreatDoorRb
set_option linter.unusedVariables false
set_option linter.unusedSimpArgs false
namespace Go.Proofs.YtlimgecmolhdhaaGreatDoor
open Go.RowKit

theorem flatM {α : Type} (f : α → List Value) (m : Nat) (hf : ∀ a, (f a).length = m) : ∀ (l : List α) (k j : Nat) (hj : j < m) (hk : k < l.length), (l.flatMap f)[k * m + j]? = (f l[k])[j]?
  | [], k, j, hj, hk => by simp at hk
  | a :: l, 0, j, hj, hk => by
    simp only [List.flatMap_cons, Nat.zero_mul, Nat.zero_add, List.getElem_cons_zero]
    rw [List.getElem?_append_left (by rw [hf]; exact hj)]
  | a :: l, k + 1, j, hj, hk => by
    simp only [List.flatMap_cons, List.getElem_cons_succ]
    rw [List.getElem?_append_right (by rw [hf, Nat.succ_mul]; omega), hf, show (k + 1) * m + j - m = k * m + j by rw [Nat.succ_mul]; omega]
    exact flatM f m hf l k j hj (by simpa using hk)
theorem rowsC_rune (l : List UInt8) (k : Nat) (hk : k < (rowsP 0 l).length) : (rowsC l (rowsP 0 l).length)[k * 4 + 1]? = some (.int .i32 (rowsP 0 l)[k].2.1) := by
  unfold rowsC
  rw [List.take_length, flatM rowCells 4 (fun _ => rfl) _ k 1 (by omega) hk]
  rfl
theorem addr_add (g j : Nat) : (⟨g, 0, none⟩ : Addr).add j = ⟨g, j, none⟩ := by unfold Addr.add; split <;> simp_all
/-- A text's rune of a number, as a text. -/
def runeAt (s : ByteArray) (n : Int) : Option ByteArray := if 0 ≤ n then ((rowsP 0 s.data.toList)[n.toNat]?).map fun r => Utf8.encode r.2.1 else none

set_option maxRecDepth 100000 in
set_option maxHeartbeats 2000000 in
theorem rat_rune_lo (w : World) (R : Nat) (xk xn : Int) (xs : ByteArray) (yn : Int) (ys : ByteArray) (ik in_ : Int) (is_ : ByteArray) (zn : Int) (zs : ByteArray) (hys : ys.size ≤ 1000000) (hzn : zn < 0)
    (hS : Says w nowhere anyW 38 #[rp R, .agg #[.int .i64 xk, .int .i64 xn, .string xs]] (.agg #[.int .i64 4, .int .i64 yn, .string ys]))
    (hI : Says w nowhere anyW 38 #[rp R, .agg #[.int .i64 ik, .int .i64 in_, .string is_]] (.agg #[.int .i64 3, .int .i64 zn, .string zs])) :
    Says w nowhere anyW 29 #[rp R, .agg #[.int .i64 xk, .int .i64 xn, .string xs], .agg #[.int .i64 ik, .int .i64 in_, .string is_]] (outV AV.zero ⟨#[]⟩ 0) := by
  intro W hW _
  have HW := Lib.hid hW; clear hW
  have hS' : ∀ W', Old W W' → Calls Tryz.prog 38 #[rp R, .agg #[.int .i64 xk, .int .i64 xn, .string xs]] W' fun e w' => e = .returned (.agg #[.int .i64 4, .int .i64 yn, .string ys]) ∧ Old W' w' := fun W' h => hS W' (HW.out.old h) trivial
  have hI' : ∀ W', Old W W' → Calls Tryz.prog 38 #[rp R, .agg #[.int .i64 ik, .int .i64 in_, .string is_]] W' fun e w' => e = .returned (.agg #[.int .i64 3, .int .i64 zn, .string zs]) ∧ Old W' w' := fun W' h => hI W' (HW.out.old h) trivial
  clear hS hI
  have q9 : decide (0 ≤ zn) = false := decide_eq_false (by omega)
  have kc := fun (w : World) (s : ByteArray) => Lib.run_convert_string_bytes (P := Tryz.prog) w 9 70 5 s Tryz.underlying9 Tryz.underlying70 Tryz.underlying5
  have HS := Lib.hid hS'; clear hS'
  have HI := Lib.hid hI'; clear hI'
  go_enter Tryz.func29, Tryz.ntmps29
  go_wp2_with (first | (go_at_call 38; ((with_reducible refine (HS.out _ ?_).mono ?_)); (exact (((Fr.refl _ _).alloc _).alloc _).alloc _); rintro e w1 ⟨rfl, hO⟩; have hF := ((((Fr.refl (fun _ => False) W).alloc (.cells #[.int .i64 xk, .int .i64 xn, .string xs] 34)).alloc (.cells #[.int .i64 ik, .int .i64 in_, .string is_] 34)).alloc (.cells #[.int .i64 0, .int .i64 0, .string ⟨#[]⟩, .string ⟨#[]⟩, .int .i64 0] 56)).old hO; have B1 := Lib.hid (hO.at (heapNew2 W (.cells #[.int .i64 xk, .int .i64 xn, .string xs] 34) (.cells #[.int .i64 ik, .int .i64 in_, .string is_] 34) (.cells #[.int .i64 0, .int .i64 0, .string ⟨#[]⟩, .string ⟨#[]⟩, .int .i64 0] 56)) (fun f => f)); have B2 := Lib.hid (hO.at (heapAlloc (heapNew1 W (.cells #[.int .i64 xk, .int .i64 xn, .string xs] 34) (.cells #[.int .i64 ik, .int .i64 in_, .string is_] 34)) (.cells #[.int .i64 0, .int .i64 0, .string ⟨#[]⟩, .string ⟨#[]⟩, .int .i64 0] 56)) (fun f => f)); have B5 := Lib.hid (heapNew w1 (.cells #[.int .i64 4, .int .i64 yn, .string ys] 34)); have hF1 := hF.alloc (.cells #[.int .i64 4, .int .i64 yn, .string ys] 34); obtain ⟨r0, r1, r2, _, _, _⟩ := cells3 (heapAlloc B2.out (.cells #[.int .i64 4, .int .i64 yn, .string ys] 34)); have hlr := ltOf B2.out; have hlr1 := Nat.lt_succ_of_lt hlr) | (go_at_call 38; ((with_reducible refine (HI.out _ ?_).mono ?_)); (exact hF1); rintro e w2 ⟨rfl, hO2⟩; clear r0 r1 r2; have hF2 := (hF1.old hO2).alloc (.cells #[.int .i64 3, .int .i64 zn, .string zs] 34); have D1 := Lib.hid (heapAlloc (hO2.at (heapAlloc B1.out (.cells #[.int .i64 4, .int .i64 yn, .string ys] 34)) (fun f => f)) (.cells #[.int .i64 3, .int .i64 zn, .string zs] 34)); have D5 := Lib.hid (heapAlloc (hO2.at B5.out (fun f => f)) (.cells #[.int .i64 3, .int .i64 zn, .string zs] 34)); have D6 := Lib.hid (heapNew w2 (.cells #[.int .i64 3, .int .i64 zn, .string zs] 34)); clear B1 B2 B5; obtain ⟨q0, q1, q2, _, _, _⟩ := cells3 D5.out; obtain ⟨t0, t1, t2, _, _, _⟩ := cells3 D6.out; have hlq := ltOf D5.out; have hlz := ltOf D6.out; have hl1 := ltOf D1.out; have hcb := Lib.hid (Old.bytesWorld (w2.alloc (.cells #[.int .i64 3, .int .i64 zn, .string zs] 34)) 5 ys)) | (go_at_call 51; refine (rrunes_str (w2.alloc (.cells #[.int .i64 3, .int .i64 zn, .string zs] 34)) (w2.heap.size + 1) ys (by rw [World.size_alloc]) hys).mono ?_; intro e w3 hrp; obtain ⟨v, rfl, hrow, hO3⟩ := hrp; obtain ⟨va, vm, rfl⟩ := ownsRow_slice hrow; have HROW := Lib.hid hrow; clear hrow; have hO3 := hcb.out.old hO3; clear q0 q1 q2 t0 t1 t2; obtain ⟨q0, q1, q2, _, _, _⟩ := cells3 (hO3.at D5.out (fun f => f)); obtain ⟨t0, t1, t2, _, _, _⟩ := cells3 (hO3.at D6.out (fun f => f)); have b1 := hO3.at D1.out (fun f => f); obtain ⟨o0, o1, o2, o3, o4, g0, g1, g2, g3, g4⟩ := cells5 b1; have hl := ltOf b1; have hF3 := hF2.old hO3; clear b1))
  refine bodyPost_ret (v := outV AV.zero ⟨#[]⟩ 0) (by simp [results, Tryz.results29, go_sem, o0, o1, o2, o3, o4, hl, AV.zero]) rfl ⟨rfl, ?_⟩
  repeat (first | exact hF3 | refine Fr.setCell ?_ (Or.inl (by first | (dsimp only; omega) | (simp; omega))) _ | refine Fr.alloc ?_ _)

set_option maxRecDepth 100000 in
set_option maxHeartbeats 2000000 in
theorem rat_rune_hi (w : World) (R : Nat) (xk xn : Int) (xs : ByteArray) (yn : Int) (ys : ByteArray) (ik in_ : Int) (is_ : ByteArray) (zn : Int) (zs : ByteArray) (hys : ys.size ≤ 1000000) (h0 : 0 ≤ zn) (hzn : ((rowsP 0 ys.data.toList).length : Int) ≤ zn)
    (hS : Says w nowhere anyW 38 #[rp R, .agg #[.int .i64 xk, .int .i64 xn, .string xs]] (.agg #[.int .i64 4, .int .i64 yn, .string ys]))
    (hI : Says w nowhere anyW 38 #[rp R, .agg #[.int .i64 ik, .int .i64 in_, .string is_]] (.agg #[.int .i64 3, .int .i64 zn, .string zs])) :
    Says w nowhere anyW 29 #[rp R, .agg #[.int .i64 xk, .int .i64 xn, .string xs], .agg #[.int .i64 ik, .int .i64 in_, .string is_]] (outV AV.zero ⟨#[]⟩ 0) := by
  intro W hW _
  have HW := Lib.hid hW; clear hW
  have hS' : ∀ W', Old W W' → Calls Tryz.prog 38 #[rp R, .agg #[.int .i64 xk, .int .i64 xn, .string xs]] W' fun e w' => e = .returned (.agg #[.int .i64 4, .int .i64 yn, .string ys]) ∧ Old W' w' := fun W' h => hS W' (HW.out.old h) trivial
  have hI' : ∀ W', Old W W' → Calls Tryz.prog 38 #[rp R, .agg #[.int .i64 ik, .int .i64 in_, .string is_]] W' fun e w' => e = .returned (.agg #[.int .i64 3, .int .i64 zn, .string zs]) ∧ Old W' w' := fun W' h => hI W' (HW.out.old h) trivial
  clear hS hI
  have q9 : ¬ zn < ((rowsP 0 ys.data.toList).length : Int) := by omega
  have kc := fun (w : World) (s : ByteArray) => Lib.run_convert_string_bytes (P := Tryz.prog) w 9 70 5 s Tryz.underlying9 Tryz.underlying70 Tryz.underlying5
  have HS := Lib.hid hS'; clear hS'
  have HI := Lib.hid hI'; clear hI'
  go_enter Tryz.func29, Tryz.ntmps29
  go_wp2_with (first | (go_at_call 38; ((with_reducible refine (HS.out _ ?_).mono ?_)); (exact (((Fr.refl _ _).alloc _).alloc _).alloc _); rintro e w1 ⟨rfl, hO⟩; have hF := ((((Fr.refl (fun _ => False) W).alloc (.cells #[.int .i64 xk, .int .i64 xn, .string xs] 34)).alloc (.cells #[.int .i64 ik, .int .i64 in_, .string is_] 34)).alloc (.cells #[.int .i64 0, .int .i64 0, .string ⟨#[]⟩, .string ⟨#[]⟩, .int .i64 0] 56)).old hO; have B1 := Lib.hid (hO.at (heapNew2 W (.cells #[.int .i64 xk, .int .i64 xn, .string xs] 34) (.cells #[.int .i64 ik, .int .i64 in_, .string is_] 34) (.cells #[.int .i64 0, .int .i64 0, .string ⟨#[]⟩, .string ⟨#[]⟩, .int .i64 0] 56)) (fun f => f)); have B2 := Lib.hid (hO.at (heapAlloc (heapNew1 W (.cells #[.int .i64 xk, .int .i64 xn, .string xs] 34) (.cells #[.int .i64 ik, .int .i64 in_, .string is_] 34)) (.cells #[.int .i64 0, .int .i64 0, .string ⟨#[]⟩, .string ⟨#[]⟩, .int .i64 0] 56)) (fun f => f)); have B5 := Lib.hid (heapNew w1 (.cells #[.int .i64 4, .int .i64 yn, .string ys] 34)); have hF1 := hF.alloc (.cells #[.int .i64 4, .int .i64 yn, .string ys] 34); obtain ⟨r0, r1, r2, _, _, _⟩ := cells3 (heapAlloc B2.out (.cells #[.int .i64 4, .int .i64 yn, .string ys] 34)); have hlr := ltOf B2.out; have hlr1 := Nat.lt_succ_of_lt hlr) | (go_at_call 38; ((with_reducible refine (HI.out _ ?_).mono ?_)); (exact hF1); rintro e w2 ⟨rfl, hO2⟩; clear r0 r1 r2; have hF2 := (hF1.old hO2).alloc (.cells #[.int .i64 3, .int .i64 zn, .string zs] 34); have D1 := Lib.hid (heapAlloc (hO2.at (heapAlloc B1.out (.cells #[.int .i64 4, .int .i64 yn, .string ys] 34)) (fun f => f)) (.cells #[.int .i64 3, .int .i64 zn, .string zs] 34)); have D5 := Lib.hid (heapAlloc (hO2.at B5.out (fun f => f)) (.cells #[.int .i64 3, .int .i64 zn, .string zs] 34)); have D6 := Lib.hid (heapNew w2 (.cells #[.int .i64 3, .int .i64 zn, .string zs] 34)); clear B1 B2 B5; obtain ⟨q0, q1, q2, _, _, _⟩ := cells3 D5.out; obtain ⟨t0, t1, t2, _, _, _⟩ := cells3 D6.out; have hlq := ltOf D5.out; have hlz := ltOf D6.out; have hl1 := ltOf D1.out; have hcb := Lib.hid (Old.bytesWorld (w2.alloc (.cells #[.int .i64 3, .int .i64 zn, .string zs] 34)) 5 ys)) | (go_at_call 51; refine (rrunes_str (w2.alloc (.cells #[.int .i64 3, .int .i64 zn, .string zs] 34)) (w2.heap.size + 1) ys (by rw [World.size_alloc]) hys).mono ?_; intro e w3 hrp; obtain ⟨v, rfl, hrow, hO3⟩ := hrp; obtain ⟨va, vm, rfl⟩ := ownsRow_slice hrow; have HROW := Lib.hid hrow; clear hrow; have hO3 := hcb.out.old hO3; clear q0 q1 q2 t0 t1 t2; obtain ⟨q0, q1, q2, _, _, _⟩ := cells3 (hO3.at D5.out (fun f => f)); obtain ⟨t0, t1, t2, _, _, _⟩ := cells3 (hO3.at D6.out (fun f => f)); have b1 := hO3.at D1.out (fun f => f); obtain ⟨o0, o1, o2, o3, o4, g0, g1, g2, g3, g4⟩ := cells5 b1; have hl := ltOf b1; have hF3 := hF2.old hO3; clear b1))
  refine bodyPost_ret (v := outV AV.zero ⟨#[]⟩ 0) (by simp [results, Tryz.results29, go_sem, o0, o1, o2, o3, o4, hl, AV.zero]) rfl ⟨rfl, ?_⟩
  repeat (first | exact hF3 | refine Fr.setCell ?_ (Or.inl (by first | (dsimp only; omega) | (simp; omega))) _ | refine Fr.alloc ?_ _)
end Go.Proofs.YtlimgecmolhdhaaGreatDoor

/- The reference's At of a text with a number within. -/
set_option linter.unusedVariables false
set_option linter.unusedSimpArgs false
namespace Go.Proofs.YtlimgecmolhdhaaGreatDoor
open Go.RowKit

theorem row_at {W : World} {B T m n : Nat} {va : Option Addr} {vm : Nat} {xs : List Value} (h : W.ownsRow B T m (.slice va n vm) n xs) (hn : 0 < n) : ∃ g, va = some ⟨g, 0, none⟩ ∧ g < W.heap.size ∧ ∀ i x, xs[i]? = some x → W.cell? ⟨g, i, none⟩ = some x := by
  rcases h.2 with ⟨e1, e2⟩ | ⟨g, cap, cur, e1, _, hg, _⟩
  · omega
  · cases e1
    refine ⟨g, rfl, ltOf hg, fun i x hx => ?_⟩
    have := h.cells (g := g) rfl i x hx
    rw [addr_add] at this
    exact this

set_option maxRecDepth 100000 in
set_option maxHeartbeats 2000000 in
theorem rat_rune (w : World) (R : Nat) (xk xn : Int) (xs : ByteArray) (yn : Int) (ys : ByteArray) (ik in_ : Int) (is_ : ByteArray)  (zs : ByteArray) (hys : ys.size ≤ 1000000) (k : Nat) (r : Int) (hk : k < (rowsP 0 ys.data.toList).length) (hr : ((rowsP 0 ys.data.toList)[k].2.1 : Int) = r)
    (hS : Says w nowhere anyW 38 #[rp R, .agg #[.int .i64 xk, .int .i64 xn, .string xs]] (.agg #[.int .i64 4, .int .i64 yn, .string ys]))
    (hI : Says w nowhere anyW 38 #[rp R, .agg #[.int .i64 ik, .int .i64 in_, .string is_]] (.agg #[.int .i64 3, .int .i64 k, .string zs])) :
    Says w nowhere anyW 29 #[rp R, .agg #[.int .i64 xk, .int .i64 xn, .string xs], .agg #[.int .i64 ik, .int .i64 in_, .string is_]] (outV ⟨4, 0, Utf8.encode r⟩ ⟨#[]⟩ 0) := by
  intro W hW _
  have HW := Lib.hid hW; clear hW
  have hS' : ∀ W', Old W W' → Calls Tryz.prog 38 #[rp R, .agg #[.int .i64 xk, .int .i64 xn, .string xs]] W' fun e w' => e = .returned (.agg #[.int .i64 4, .int .i64 yn, .string ys]) ∧ Old W' w' := fun W' h => hS W' (HW.out.old h) trivial
  have hI' : ∀ W', Old W W' → Calls Tryz.prog 38 #[rp R, .agg #[.int .i64 ik, .int .i64 in_, .string is_]] W' fun e w' => e = .returned (.agg #[.int .i64 3, .int .i64 k, .string zs]) ∧ Old W' w' := fun W' h => hI W' (HW.out.old h) trivial
  clear hS hI
  have hrc := rowsC_rune ys.data.toList k hk
  rw [hr] at hrc
  have HRC := Lib.hid hrc; clear hrc hr
  have hk0 : decide (0 ≤ (k : Int)) = true := decide_eq_true (by omega)
  have kc := fun (w : World) (s : ByteArray) => Lib.run_convert_string_bytes (P := Tryz.prog) w 9 70 5 s Tryz.underlying9 Tryz.underlying70 Tryz.underlying5
  have HS := Lib.hid hS'; clear hS'
  have HI := Lib.hid hI'; clear hI'
  go_enter Tryz.func29, Tryz.ntmps29
  go_wp2_with (first | (go_at_call 38; ((with_reducible refine (HS.out _ ?_).mono ?_)); (exact (((Fr.refl _ _).alloc _).alloc _).alloc _); rintro e w1 ⟨rfl, hO⟩; have hF := ((((Fr.refl (fun _ => False) W).alloc (.cells #[.int .i64 xk, .int .i64 xn, .string xs] 34)).alloc (.cells #[.int .i64 ik, .int .i64 in_, .string is_] 34)).alloc (.cells #[.int .i64 0, .int .i64 0, .string ⟨#[]⟩, .string ⟨#[]⟩, .int .i64 0] 56)).old hO; have B1 := Lib.hid (hO.at (heapNew2 W (.cells #[.int .i64 xk, .int .i64 xn, .string xs] 34) (.cells #[.int .i64 ik, .int .i64 in_, .string is_] 34) (.cells #[.int .i64 0, .int .i64 0, .string ⟨#[]⟩, .string ⟨#[]⟩, .int .i64 0] 56)) (fun f => f)); have B2 := Lib.hid (hO.at (heapAlloc (heapNew1 W (.cells #[.int .i64 xk, .int .i64 xn, .string xs] 34) (.cells #[.int .i64 ik, .int .i64 in_, .string is_] 34)) (.cells #[.int .i64 0, .int .i64 0, .string ⟨#[]⟩, .string ⟨#[]⟩, .int .i64 0] 56)) (fun f => f)); have B5 := Lib.hid (heapNew w1 (.cells #[.int .i64 4, .int .i64 yn, .string ys] 34)); have hF1 := hF.alloc (.cells #[.int .i64 4, .int .i64 yn, .string ys] 34); obtain ⟨r0, r1, r2, _, _, _⟩ := cells3 (heapAlloc B2.out (.cells #[.int .i64 4, .int .i64 yn, .string ys] 34)); have hlr := ltOf B2.out; have hlr1 := Nat.lt_succ_of_lt hlr) | (go_at_call 38; ((with_reducible refine (HI.out _ ?_).mono ?_)); (exact hF1); rintro e w2 ⟨rfl, hO2⟩; clear r0 r1 r2; have hF2 := (hF1.old hO2).alloc (.cells #[.int .i64 3, .int .i64 k, .string zs] 34); have D1 := Lib.hid (heapAlloc (hO2.at (heapAlloc B1.out (.cells #[.int .i64 4, .int .i64 yn, .string ys] 34)) (fun f => f)) (.cells #[.int .i64 3, .int .i64 k, .string zs] 34)); have D5 := Lib.hid (heapAlloc (hO2.at B5.out (fun f => f)) (.cells #[.int .i64 3, .int .i64 k, .string zs] 34)); have D6 := Lib.hid (heapNew w2 (.cells #[.int .i64 3, .int .i64 k, .string zs] 34)); clear B1 B2 B5; obtain ⟨q0, q1, q2, _, _, _⟩ := cells3 D5.out; obtain ⟨t0, t1, t2, _, _, _⟩ := cells3 D6.out; have hlq := ltOf D5.out; have hlz := ltOf D6.out; have hl1 := ltOf D1.out; have hcb := Lib.hid (Old.bytesWorld (w2.alloc (.cells #[.int .i64 3, .int .i64 k, .string zs] 34)) 5 ys)) | (go_at_call 51; refine (rrunes_str (w2.alloc (.cells #[.int .i64 3, .int .i64 k, .string zs] 34)) (w2.heap.size + 1) ys (by rw [World.size_alloc]) hys).mono ?_; intro e w3 hrp; obtain ⟨v, rfl, hrow, hO3⟩ := hrp; obtain ⟨va, vm, rfl⟩ := ownsRow_slice hrow; obtain ⟨gr, rfl, hgl, hgc⟩ := row_at hrow (by omega); have hx := hgc _ _ HRC.out; clear hrow hgc; have hO3 := hcb.out.old hO3; clear q0 q1 q2 t0 t1 t2; obtain ⟨q0, q1, q2, _, _, _⟩ := cells3 (hO3.at D5.out (fun f => f)); obtain ⟨t0, t1, t2, _, _, _⟩ := cells3 (hO3.at D6.out (fun f => f)); have b1 := hO3.at D1.out (fun f => f); obtain ⟨o0, o1, o2, o3, o4, g0, g1, g2, g3, g4⟩ := cells5 b1; have hl := ltOf b1; have hF3 := hF2.old hO3; clear b1) | (go_at_call 54; refine (rstring_any _ _).mono ?_; rintro e w4 ⟨rfl, hO4⟩; have hO3 := hO3.old hO4; clear o0 o1 o2 o3 o4 g0 g1 g2 g3 g4 hl hF3 hx; clear q0 q1 q2 t0 t1 t2; obtain ⟨q0, q1, q2, _, _, _⟩ := cells3 (hO3.at D5.out (fun f => f)); obtain ⟨t0, t1, t2, _, _, _⟩ := cells3 (hO3.at D6.out (fun f => f)); have b1 := hO3.at D1.out (fun f => f); obtain ⟨o0, o1, o2, o3, o4, g0, g1, g2, g3, g4⟩ := cells5 b1; have hl := ltOf b1; have hF3 := hF2.old hO3; clear b1))
  refine bodyPost_ret (v := outV ⟨4, 0, Utf8.encode r⟩ ⟨#[]⟩ 0) (by simp [results, Tryz.results29, go_sem, o0, o1, o2, o3, o4, hl, AV.zero]) rfl ⟨rfl, ?_⟩
  repeat (first | exact hF3 | refine Fr.setCell ?_ (Or.inl (by first | (dsimp only; omega) | (simp; omega))) _ | refine Fr.alloc ?_ _)
end Go.Proofs.YtlimgecmolhdhaaGreatDoor
