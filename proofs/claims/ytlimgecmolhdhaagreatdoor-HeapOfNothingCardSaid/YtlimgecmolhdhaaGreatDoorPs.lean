/- The program's Show of what is no thing. -/
import Derived.Test.YtlimgecmolhdhaaGreatDoorSw
import Derived.Test.YtlimgecmolhdhaaGreatDoorPa
set_option linter.unusedVariables false
set_option linter.unusedSimpArgs false
namespace Go.Proofs.YtlimgecmolhdhaaGreatDoor
open Go.RowKit

set_option maxRecDepth 100000 in
set_option maxHeartbeats 1000000 in
theorem pshow_str (w : World) (h : Value) (xk xn : Int) (xs : ByteArray) (yn : Int) (ys : ByteArray)
    (hP : Says w nowhere anyW 35 #[h, .agg #[.int .i64 xk, .int .i64 xn, .string xs]] (.agg #[.int .i64 4, .int .i64 yn, .string ys])) :
    Says w nowhere anyW 12 #[h, .agg #[.int .i64 xk, .int .i64 xn, .string xs]] (.string ys) := by
  intro W hW _
  have HW := Lib.hid hW; clear hW
  have hP' : ∀ W', Old W W' → Calls Tryz.prog 35 #[h, .agg #[.int .i64 xk, .int .i64 xn, .string xs]] W' fun e w' => e = .returned (.agg #[.int .i64 4, .int .i64 yn, .string ys]) ∧ Old W' w' := fun W' h' => hP W' (HW.out.old h') trivial
  have HP := Lib.hid hP'; clear hP hP'
  go_enter Tryz.func12, Tryz.ntmps12
  go_upto_region 2 with ((go_at_call 35; ((with_reducible refine (HP.out _ ?_).mono ?_)); (exact (Fr.refl _ _).alloc _); rintro e w1 ⟨rfl, hO1⟩; have hB := (Boxes.start1 W (.cells #[.int .i64 xk, .int .i64 xn, .string xs] 34 (0, 0))).later hO1; obtain ⟨p0, p1, p2, e0, e1, e2⟩ := cells3 hB.g0; have hl := ltOf hB.g0; have HB := Lib.hid hB; clear hB))
  refine wp_gen (R := fun V => Boxes W V [(.cells #[.int .i64 4, .int .i64 yn, .string ys] 34 (0, 0))]) (HB.out.three0 _ _ _) ?_
  intro V hV
  clear p0 p1 p2 e0 e1 e2 hl HB
  obtain ⟨p0, p1, p2, -⟩ := cells3 hV.g0
  have HV := Lib.hid hV; clear hV
  go_wp2
  go_ret
  exact ⟨rfl, HV.out.old⟩

set_option maxRecDepth 100000 in
set_option maxHeartbeats 1000000 in
/-- Show of a value that is no text, whatever a shower says of it. -/
theorem pshow_says (w : World) (hp' : Option Addr) (xk xn : Int) (xs : ByteArray) (yk yn : Int) (ys : ByteArray) (T : List UInt8) (hT : T ≠ []) (hTl : T.length ≤ 65536) (hk : (yk == 4) = false)
    (hP : Says w nowhere anyW 35 #[.pointer hp', .agg #[.int .i64 xk, .int .i64 xn, .string xs]] (.agg #[.int .i64 yk, .int .i64 yn, .string ys]))
    (hV : ∀ W sb, Old w W → Shw W sb (.pointer hp') (.slice none 0 0) [] → w.heap.size ≤ sb → Calls Tryz.prog 36 #[.pointer (some ⟨sb, 0, none⟩), .agg #[.int .i64 yk, .int .i64 yn, .string ys], .int .i64 0] W (ValPost W sb (.pointer hp') (.slice none 0 0) [] T)) :
    Calls Tryz.prog 12 #[.pointer hp', .agg #[.int .i64 xk, .int .i64 xn, .string xs]] w fun e w' => e = .returned (.string ⟨T.toArray⟩) ∧ Old w w' := by
  go_enter Tryz.func12, Tryz.ntmps12
  have HV := Lib.hid hV; clear hV
  go_wp2_with (first | (go_at_call 35; refine (hP _ ((Fr.refl _ _).alloc _) trivial).mono ?_; rintro e w1 ⟨rfl, hO1⟩; have b3 := hO1.at (heapNew w (.cells #[.int .i64 xk, .int .i64 xn, .string xs] 34)) (fun f => f); have hF1 := ((Fr.refl nowhere w).alloc _).old hO1; have hlt1 := ltOf b3; obtain ⟨d0, d1, d2, _, _, _⟩ := cells3 b3; have B3 := Lib.hid b3; clear b3) | (go_at_call 36; refine (HV.out _ w1.heap.size ?_ ?_ (by omega)).mono ?_; (exact (((hF1.setCell (Or.inl (Nat.le_refl _)) _).setCell (Or.inl (Nat.le_refl _)) _).setCell (Or.inl (Nat.le_refl _)) _).alloc _); (exact Shw_at _ _ _ (by simp)); rintro e w3 ⟨ok, rfl, hok, l', hl', he, u, hS3, hg3⟩; have hF3 := ((((hF1.setCell (Or.inl (Nat.le_refl _)) (.int .i64 yk)).setCell (Or.inl (Nat.le_refl _)) (.int .i64 yn)).setCell (Or.inl (Nat.le_refl _)) (.string ys)).alloc (.cells #[.pointer hp', .pointer none, .slice none 0 0] 74)).trans hg3.fr (fun b hb e => by rcases e with e | e; omega; simp [Value.ownBlock] at e); have hu := hg3.loc; rw [decide_eq_true (by simpa using hTl)] at hok; subst hok; have hl := he rfl; subst hl; obtain ⟨addr, hB⟩ := hS3; clear d0 d1 d2 he) | (go_at_call 37; refine (bstring_any _ 1 74 _ _ _ hB (by simpa using hT)).mono ?_; rintro e w4 ⟨rfl, hF4⟩))
  go_ret
  refine ⟨by simp, hF3.trans hF4 (fun b hb e => ?_)⟩
  obtain ⟨v, hv, hvb⟩ := e
  simp at hv
  subst hv
  rcases hu b hvb with h | h
  · simp at h; omega
  · simp [Value.ownBlock] at h

theorem textB_small (y : AV) (h4 : y.k ≠ 4) (h5 : y.k ≠ 5) (hy : isPlain y) : (textB y).data.toList ≠ [] ∧ (textB y).data.toList.length ≤ 65536 := by
  obtain ⟨k, n, s⟩ := y
  unfold isPlain at hy
  dsimp only at *
  unfold textB
  dsimp only
  rcases hy with rfl | rfl | ⟨rfl, rfl | rfl⟩ | ⟨rfl, hn1, hn2⟩ | rfl | rfl
  · exact ⟨by simp, by simp⟩
  · exact ⟨by simp, by simp⟩
  · exact ⟨by simp, by simp⟩
  · exact ⟨by simp, by simp⟩
  · rw [if_neg (by omega), if_neg (by omega), if_pos rfl]
    have h1 : (Lib.itoa n).length ≤ 21 ∧ Lib.itoa n ≠ [] := by
      unfold Lib.itoa
      split
      · rw [List.length_cons, Lib.decDigits_length]
        exact ⟨by have := nDigits_le 19 n.natAbs (by omega); omega, by simp⟩
      · rw [Lib.decDigits_length]
        refine ⟨by have := nDigits_le 19 n.toNat (by omega); omega, fun e => ?_⟩
        have := congrArg List.length e
        rw [Lib.decDigits_length] at this
        have h2 := Lib.nDigits_pos n.toNat
        simp at this; omega
    exact ⟨h1.2, by have := h1.1; show (Lib.itoa n).length ≤ 65536; omega⟩
  · exact absurd rfl h4
  · exact absurd rfl h5

/-- Show of a value that is neither text nor thing. -/
theorem pshow_plain (w : World) (hp' : Option Addr) (xk xn : Int) (xs : ByteArray) (y : AV) (h4 : y.k ≠ 4) (h5 : y.k ≠ 5) (hy : isPlain y) (hidem : plainV true y = y) (hTab : Tab w)
    (hP : Says w nowhere anyW 35 #[.pointer hp', .agg #[.int .i64 xk, .int .i64 xn, .string xs]] y.v)
    (hth : Says w nowhere anyW 40 #[.pointer hp', y.v] .nilIface) :
    Says w nowhere anyW 12 #[.pointer hp', .agg #[.int .i64 xk, .int .i64 xn, .string xs]] (.string (textB y)) := by
  intro W hW _
  obtain ⟨hT, hTl⟩ := textB_small y h4 h5 hy
  have hx : textP y = textB y := by unfold textP; rw [hidem]
  have := pshow_says W hp' xk xn xs y.k y.n y.s (textB y).data.toList hT hTl (by simpa using h4) (fun V hV _ => hP V (hW.old hV) trivial) (fun V sb hV hS hsb =>
    value_plain V sb (.pointer hp') (.slice none 0 0) y.k y.n y.s 0 [] (textB y) hp' rfl (by simpa using h4) hS (by simp) (by
      have e : (textB y).data.toList.length = (textB y).size := by rw [Array.length_toList]; rfl
      omega)
      (fun V' hV' _ => hth V' ((hW.old hV).old hV') trivial)
      (fun V' hV' _ => by have := ptext_any y V' (hTab.old ((hW.old hV).old hV')); rw [hx] at this; exact this))
  have e : (⟨(textB y).data.toList.toArray⟩ : ByteArray) = textB y := by
    apply ByteArray.ext; simp
  rw [e] at this
  exact this
end Go.Proofs.YtlimgecmolhdhaaGreatDoor
