/- Show of a thing. -/
import Derived.Test.YtlimgecmolhdhaaGreatDoorVo
set_option linter.unusedVariables false
set_option linter.unusedSimpArgs false
namespace Go.Proofs.YtlimgecmolhdhaaGreatDoor
open Go.RowKit

theorem Shw_new (w : World) (hp : Value) : Shw (w.alloc (.cells #[hp, .pointer none, .slice none 0 0] 74)) w.heap.size hp (.slice none 0 0) [] :=
  ⟨.pointer none, heapNew w _, by show 1 + 1 < 3; omega, Or.inl rfl, by kernel_rfl, .slice none 0 0, rfl, ⟨rfl, Or.inl ⟨rfl, rfl⟩⟩, by simp [Value.ownBlock]⟩

theorem Shw_at (w : World) (hp : Value) (sb : Nat) (h : w.heap.size = sb) : Shw (w.alloc (.cells #[hp, .pointer none, .slice none 0 0] 74)) sb hp (.slice none 0 0) [] := by
  subst h; exact Shw_new w hp

set_option maxRecDepth 100000 in
set_option maxHeartbeats 1000000 in
/-- Show of a value that stands for a thing. -/
theorem show_ref (w : World) (hp' : Option Addr) (n : Int) (s : ByteArray) (T : List UInt8) (hT : T ≠ []) (hTl : T.length ≤ 65536)
    (hP : Says w nowhere anyW 35 #[.pointer hp', .agg #[.int .i64 5, .int .i64 n, .string s]] (.agg #[.int .i64 5, .int .i64 n, .string ⟨#[]⟩]))
    (hV : ∀ W sb, Old w W → Shw W sb (.pointer hp') (.slice none 0 0) [] → w.heap.size ≤ sb → Calls Tryz.prog 36 #[.pointer (some ⟨sb, 0, none⟩), .agg #[.int .i64 5, .int .i64 n, .string ⟨#[]⟩], .int .i64 0] W (ValPost W sb (.pointer hp') (.slice none 0 0) [] T)) :
    Calls Tryz.prog 12 #[.pointer hp', .agg #[.int .i64 5, .int .i64 n, .string s]] w fun e w' => e = .returned (.string ⟨T.toArray⟩) ∧ Old w w' := by
  go_enter Tryz.func12, Tryz.ntmps12
  have HV := Lib.hid hV; clear hV
  go_wp2_with (first | (go_at_call 35; refine (hP _ ((Fr.refl _ _).alloc _) trivial).mono ?_; rintro e w1 ⟨rfl, hO1⟩; have b3 := hO1.at (heapNew w (.cells #[.int .i64 5, .int .i64 n, .string s] 34)) (fun f => f); have hF1 := ((Fr.refl nowhere w).alloc _).old hO1; have hlt1 := ltOf b3; obtain ⟨d0, d1, d2, _, _, _⟩ := cells3 b3; have B3 := Lib.hid b3; clear b3) | (go_at_call 36; refine (HV.out _ w1.heap.size ?_ ?_ (by omega)).mono ?_; (exact (((hF1.setCell (Or.inl (Nat.le_refl _)) _).setCell (Or.inl (Nat.le_refl _)) _).setCell (Or.inl (Nat.le_refl _)) _).alloc _); (exact Shw_at _ _ _ (by simp)); rintro e w3 ⟨ok, rfl, hok, l', hl', he, u, hS3, hg3⟩; have hF3 := ((((hF1.setCell (Or.inl (Nat.le_refl _)) (.int .i64 5)).setCell (Or.inl (Nat.le_refl _)) (.int .i64 n)).setCell (Or.inl (Nat.le_refl _)) (.string ⟨#[]⟩)).alloc (.cells #[.pointer hp', .pointer none, .slice none 0 0] 74)).trans hg3.fr (fun b hb e => by rcases e with e | e; omega; simp [Value.ownBlock] at e); have hu := hg3.loc; rw [decide_eq_true (by simpa using hTl)] at hok; subst hok; have hl := he rfl; subst hl; obtain ⟨addr, hB⟩ := hS3; clear d0 d1 d2 he) | (go_at_call 37; refine (bstring_any _ 1 74 _ _ _ hB (by simpa using hT)).mono ?_; rintro e w4 ⟨rfl, hF4⟩))
  go_ret
  refine ⟨by simp, hF3.trans hF4 (fun b hb e => ?_)⟩
  obtain ⟨v, hv, hvb⟩ := e
  simp at hv
  subst hv
  rcases hu b hvb with h | h
  · simp at h; omega
  · simp [Value.ownBlock] at h
end Go.Proofs.YtlimgecmolhdhaaGreatDoor
