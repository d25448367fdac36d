/- The text of the number 3. -/
import Derived.Test.YtlimgecmolhdhaaDoorHo
set_option linter.unusedVariables false
set_option linter.unusedSimpArgs false
namespace Go.Proofs.YtlimgecmolhdhaaDoor
open Go.RowKit

set_option maxRecDepth 100000 in
set_option maxHeartbeats 400000 in
theorem small3 (w : World) : Calls Tryd.prog 56 #[.int .i64 3] w fun e w' => e = .returned (.string ⟨#[51]⟩) ∧ w = w' := by
  go_enter Tryd.func56, Tryd.ntmps56
  go_wp2
  go_ret
  exact ⟨rfl, rfl⟩

set_option maxRecDepth 100000 in
set_option maxHeartbeats 400000 in
theorem format3 (w : World) : Calls Tryd.prog 49 #[.int .i64 3, .int .i64 10] w fun e w' => e = .returned (.string ⟨#[51]⟩) ∧ w = w' := by
  go_enter Tryd.func49, Tryd.ntmps49
  go_wp2_with (go_at_call 56; refine (small3 _).mono ?_; rintro e w1 ⟨rfl, rfl⟩)
  go_ret
  exact ⟨rfl, rfl⟩

set_option maxHeartbeats 400000 in
theorem iitoa3 (w : World) : Calls Tryd.prog 53 #[.int .i64 3] w fun e w' => e = .returned (.string ⟨#[51]⟩) ∧ w = w' := by
  go_enter Tryd.func53, Tryd.ntmps53
  go_wp2_with (go_at_call 49; refine (format3 _).mono ?_; rintro e w1 ⟨rfl, rfl⟩)
  go_ret
  exact ⟨rfl, rfl⟩

set_option maxHeartbeats 400000 in
theorem itoa3 (w : World) : Calls Tryd.prog 45 #[.int .i64 3] w fun e w' => e = .returned (.string ⟨#[51]⟩) ∧ w = w' := by
  go_enter Tryd.func45, Tryd.ntmps45
  go_wp2_with (go_at_call 53; refine (iitoa3 _).mono ?_; rintro e w1 ⟨rfl, rfl⟩)
  go_ret
  exact ⟨rfl, rfl⟩

set_option maxHeartbeats 400000 in
theorem vnumber_any (n : Int) (w : World) :
    Calls Tryd.prog 51 #[.int .i64 n] w fun e w' => e = .returned (.agg #[.int .i64 3, .int .i64 n, .string ⟨#[]⟩]) ∧ Old w w' := by
  go_enter Tryd.func51, Tryd.ntmps51
  go_wp2
  refine bodyPost_ret (v := .agg #[.int .i64 3, .int .i64 n, .string ⟨#[]⟩]) (by simp [results, Tryd.results51, go_sem]) rfl ⟨rfl, ?_⟩
  exact (Fr.refl _ _).alloc _

set_option maxRecDepth 100000 in
set_option maxHeartbeats 400000 in
theorem vplain_num (n : Int) (s : ByteArray) (w : World) (h1 : -9007199254740991 < n) (h2 : n < 9007199254740991) :
    Calls Tryd.prog 43 #[.agg #[.int .i64 3, .int .i64 n, .string s]] w fun e w' => e = .returned (.agg #[.int .i64 3, .int .i64 n, .string ⟨#[]⟩]) ∧ Old w w' := by
  go_enter Tryd.func43, Tryd.ntmps43
  go_wp2_with (go_at_call 51; refine (vnumber_any _ _).mono ?_; rintro e w1 ⟨rfl, hO⟩; have hb := hO.at (heapNew1 w (.cells #[.int .i64 3, .int .i64 n, .string s] 35) (.cells #[.int .i64 0, .int .i64 0, .string ⟨#[]⟩] 35)) (fun f => f); obtain ⟨c0, c1, c2, f0, f1, f2⟩ := cells3 hb; clear hb)
  refine bodyPost_ret (v := .agg #[.int .i64 3, .int .i64 n, .string ⟨#[]⟩]) (by simp [results, Tryd.results43, go_sem, c0, c1, c2]) rfl ⟨rfl, ?_⟩
  exact Fr.setCell (Fr.setCell (Fr.setCell ((((Fr.refl _ _).alloc _).alloc _).old hO) (Or.inl (by simp)) _) (Or.inl (by simp)) _) (Or.inl (by simp)) _

set_option maxRecDepth 100000 in
set_option maxHeartbeats 400000 in
theorem text3 (s : ByteArray) (w : World) :
    Calls Tryd.prog 34 #[.agg #[.int .i64 3, .int .i64 3, .string s]] w fun e w' => e = .returned (.string ⟨#[51]⟩) ∧ Old w w' := by
  go_enter Tryd.func34, Tryd.ntmps34
  go_wp2_with (first | (go_at_call 43; refine (vplain_num 3 s _ (by omega) (by omega)).mono ?_; rintro e w1 ⟨rfl, hO⟩; have hb := hO.at (heapNew w (.cells #[.int .i64 3, .int .i64 3, .string s] 35)) (fun f => f); obtain ⟨c0, c1, c2, f0, f1, f2⟩ := cells3 hb; clear hb) | (go_at_call 45; refine (itoa3 _).mono ?_; rintro e w2 ⟨rfl, rfl⟩))
  go_ret
  exact ⟨rfl, Fr.setCell (Fr.setCell (Fr.setCell (((Fr.refl _ _).alloc _).old hO) (Or.inl (by simp)) _) (Or.inl (by simp)) _) (Or.inl (by simp)) _⟩
end Go.Proofs.YtlimgecmolhdhaaDoor
