/- Get of a thing. -/
import Derived.Test.YtlimgecmolhdhaaGreatDoorFi
set_option linter.unusedVariables false
set_option linter.unusedSimpArgs false
namespace Go.Proofs.YtlimgecmolhdhaaGreatDoor
open Go.RowKit

theorem Says.old {w w' : World} {f : Nat} {args : Array Value} {v : Value} (h : Says w nowhere anyW f args v) (hO : Old w w') : Says w' nowhere anyW f args v := fun W hF hA => h W (hO.old hF) hA

theorem Finds.old {w w' : World} {key : ByteArray} {r : Option AV} (hO : Old w w') : ∀ {d : Nat} {t : Value}, Finds w key r d t → Finds w' key r d t
  | 0, _, h => h
  | d + 1, _, h => by
    rcases h with ⟨mm, wh, pr, o, h1, h2, h3⟩ | ⟨q, o, h1, h2, h3⟩
    · refine Or.inl ⟨mm, wh, pr, o, h1, h2.old hO, ?_⟩
      rcases h3 with h3 | ⟨h3, h4⟩
      · exact Or.inl h3
      · exact Or.inr ⟨h3, Finds.old hO h4⟩
    · exact Or.inr ⟨q, o, h1, h2.old hO, h3⟩

theorem find_open (w : World) (t : Value) (key : ByteArray) (r : Option AV) (d : Nat) (h : Finds w key r d t) {xk xn : Int} {xs : ByteArray} (hx : r.getD AV.zero = ⟨xk, xn, xs⟩) :
    Calls Tryz.prog 48 #[t, .string key] w fun e w' => e = .returned (.tuple #[.agg #[.int .i64 xk, .int .i64 xn, .string xs], .bool r.isSome]) ∧ Old w w' := by
  have h1 := find_any w t key r d h
  unfold ownV at h1
  rw [hx] at h1
  exact h1

set_option maxRecDepth 100000 in
set_option maxHeartbeats 1000000 in
theorem get_ref (w : World) (h : Value) (n : Int) (s : ByteArray) (key : ByteArray) (t : Value) (r : Option AV) (d : Nat)
    (hP : Says w nowhere anyW 35 #[h, .agg #[.int .i64 5, .int .i64 n, .string s]] (.agg #[.int .i64 5, .int .i64 n, .string ⟨#[]⟩]))
    (hT : Says w nowhere anyW 40 #[h, .agg #[.int .i64 5, .int .i64 n, .string ⟨#[]⟩]] t) (hF : Finds w key r d t) :
    Calls Tryz.prog 22 #[h, .agg #[.int .i64 5, .int .i64 n, .string s], .string key] w fun e w' => e = .returned (.tuple #[(r.getD AV.zero).v, .string ⟨#[]⟩, .int .i64 0]) ∧ Old w w' := by
  have HF := Lib.hid hF; clear hF
  obtain ⟨xk, xn, xs, hx⟩ : ∃ xk xn xs, r.getD AV.zero = ⟨xk, xn, xs⟩ := ⟨_, _, _, rfl⟩
  rw [hx]
  replace hx := Lib.hid hx
  go_enter Tryz.func22, Tryz.ntmps22
  go_wp2_with (first | (go_at_call 35; refine (hP _ (((Fr.refl _ _).alloc _).alloc _) trivial).mono ?_; rintro e w1 ⟨rfl, hO1⟩; have hF1 := (((Fr.refl nowhere w).alloc _).alloc _).old hO1; have b4 := hO1.at (heapAlloc (heapNew w (.cells #[.int .i64 5, .int .i64 n, .string s] 34)) (.cells #[.int .i64 0, .int .i64 0, .string ⟨#[]⟩] 34)) (fun f => f); have b6 := hO1.at (heapNew1 w (.cells #[.int .i64 5, .int .i64 n, .string s] 34) (.cells #[.int .i64 0, .int .i64 0, .string ⟨#[]⟩] 34)) (fun f => f); have hl4 := ltOf b4; obtain ⟨d0, d1, d2, f0, f1, f2⟩ := cells3 b4; have B6 := Lib.hid b6; clear b6 b4) | (go_at_call 40; refine (hT _ (((hF1.setCell (Or.inl (Nat.le_refl _)) _).setCell (Or.inl (Nat.le_refl _)) _).setCell (Or.inl (Nat.le_refl _)) _) trivial).mono ?_; rintro e w2 ⟨rfl, hO2⟩; have hF2 := (((hF1.setCell (Or.inl (Nat.le_refl _)) (.int .i64 5)).setCell (Or.inl (Nat.le_refl _)) (.int .i64 n)).setCell (Or.inl (Nat.le_refl _)) (.string ⟨#[]⟩)).old hO2; have C6 := Lib.hid (hO2.at (heapSet (heapSet (heapSet B6.out (p := ⟨w.heap.size, 0, none⟩) (by simp) (.int .i64 5)) (p := ⟨w.heap.size, 1, none⟩) (by simp) (.int .i64 n)) (p := ⟨w.heap.size, 2, none⟩) (by simp) (.string ⟨#[]⟩)) (fun f => f))) | (go_at_call 48; refine (find_open _ t key r d (HF.out.old hF2) hx.out).mono ?_; rintro e w3 ⟨rfl, hO3⟩; have c6 := hO3.at C6.out (fun f => f); have hl6 := ltOf c6; obtain ⟨e0, e1, e2, g0, g1, g2⟩ := cells3 c6; clear c6))
  refine bodyPost_ret (v := .tuple #[.agg #[.int .i64 xk, .int .i64 xn, .string xs], .string ⟨#[]⟩, .int .i64 0]) (by simp [results, Tryz.results22, go_sem, e0, e1, e2, hl6]) rfl ⟨rfl, ?_⟩
  exact ((((hF2.old hO3).setCell (Or.inl (by simp)) _).setCell (Or.inl (by simp)) _).setCell (Or.inl (by simp)) _).alloc _
end Go.Proofs.YtlimgecmolhdhaaGreatDoor
