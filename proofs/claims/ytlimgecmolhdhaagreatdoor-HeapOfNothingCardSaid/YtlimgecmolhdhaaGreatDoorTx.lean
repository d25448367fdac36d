/- The text of the number 3. -/
import Derived.Test.YtlimgecmolhdhaaGreatDoorHo
set_option linter.unusedVariables false
set_option linter.unusedSimpArgs false
namespace Go.Proofs.YtlimgecmolhdhaaGreatDoor
open Go.RowKit

set_option maxRecDepth 100000 in
set_option maxHeartbeats 400000 in
theorem small3 (w : World) : Calls Tryz.prog 91 #[.int .i64 3] w fun e w' => e = .returned (.string ⟨#[51]⟩) ∧ w = w' := by
  go_enter Tryz.func91, Tryz.ntmps91
  go_wp2
  go_ret
  exact ⟨rfl, rfl⟩

set_option maxRecDepth 100000 in
set_option maxHeartbeats 400000 in
theorem format3 (w : World) : Calls Tryz.prog 83 #[.int .i64 3, .int .i64 10] w fun e w' => e = .returned (.string ⟨#[51]⟩) ∧ w = w' := by
  go_enter Tryz.func83, Tryz.ntmps83
  go_wp2_with (go_at_call 91; refine (small3 _).mono ?_; rintro e w1 ⟨rfl, rfl⟩)
  go_ret
  exact ⟨rfl, rfl⟩

set_option maxHeartbeats 400000 in
theorem iitoa3 (w : World) : Calls Tryz.prog 87 #[.int .i64 3] w fun e w' => e = .returned (.string ⟨#[51]⟩) ∧ w = w' := by
  go_enter Tryz.func87, Tryz.ntmps87
  go_wp2_with (go_at_call 83; refine (format3 _).mono ?_; rintro e w1 ⟨rfl, rfl⟩)
  go_ret
  exact ⟨rfl, rfl⟩

set_option maxHeartbeats 400000 in
theorem itoa3 (w : World) : Calls Tryz.prog 73 #[.int .i64 3] w fun e w' => e = .returned (.string ⟨#[51]⟩) ∧ w = w' := by
  go_enter Tryz.func73, Tryz.ntmps73
  go_wp2_with (go_at_call 87; refine (iitoa3 _).mono ?_; rintro e w1 ⟨rfl, rfl⟩)
  go_ret
  exact ⟨rfl, rfl⟩

set_option maxHeartbeats 400000 in
theorem vnumber_any (n : Int) (w : World) :
    Calls Tryz.prog 85 #[.int .i64 n] w fun e w' => e = .returned (.agg #[.int .i64 3, .int .i64 n, .string ⟨#[]⟩]) ∧ Old w w' := by
  go_enter Tryz.func85, Tryz.ntmps85
  go_wp2
  refine bodyPost_ret (v := .agg #[.int .i64 3, .int .i64 n, .string ⟨#[]⟩]) (by simp [results, Tryz.results85, go_sem]) rfl ⟨rfl, ?_⟩
  exact (Fr.refl _ _).alloc _

set_option maxRecDepth 100000 in
set_option maxHeartbeats 400000 in
theorem vplain_num (n : Int) (s : ByteArray) (w : World) (h1 : -9007199254740991 < n) (h2 : n < 9007199254740991) :
    Calls Tryz.prog 71 #[.agg #[.int .i64 3, .int .i64 n, .string s]] w fun e w' => e = .returned (.agg #[.int .i64 3, .int .i64 n, .string ⟨#[]⟩]) ∧ Old w w' := by
  go_enter Tryz.func71, Tryz.ntmps71
  go_wp2_with (go_at_call 85; refine (vnumber_any _ _).mono ?_; rintro e w1 ⟨rfl, hO⟩; have hb := hO.at (heapNew1 w (.cells #[.int .i64 3, .int .i64 n, .string s] 34) (.cells #[.int .i64 0, .int .i64 0, .string ⟨#[]⟩] 34)) (fun f => f); obtain ⟨c0, c1, c2, f0, f1, f2⟩ := cells3 hb; clear hb)
  refine bodyPost_ret (v := .agg #[.int .i64 3, .int .i64 n, .string ⟨#[]⟩]) (by simp [results, Tryz.results71, go_sem, c0, c1, c2]) rfl ⟨rfl, ?_⟩
  exact Fr.setCell (Fr.setCell (Fr.setCell ((((Fr.refl _ _).alloc _).alloc _).old hO) (Or.inl (by simp)) _) (Or.inl (by simp)) _) (Or.inl (by simp)) _

set_option maxRecDepth 100000 in
set_option maxHeartbeats 400000 in
theorem text3 (s : ByteArray) (w : World) :
    Calls Tryz.prog 58 #[.agg #[.int .i64 3, .int .i64 3, .string s]] w fun e w' => e = .returned (.string ⟨#[51]⟩) ∧ Old w w' := by
  go_enter Tryz.func58, Tryz.ntmps58
  go_wp2_with (first | (go_at_call 71; refine (vplain_num 3 s _ (by omega) (by omega)).mono ?_; rintro e w1 ⟨rfl, hO⟩; have hb := hO.at (heapNew w (.cells #[.int .i64 3, .int .i64 3, .string s] 34)) (fun f => f); obtain ⟨c0, c1, c2, f0, f1, f2⟩ := cells3 hb; clear hb) | (go_at_call 73; refine (itoa3 _).mono ?_; rintro e w2 ⟨rfl, rfl⟩))
  go_ret
  exact ⟨rfl, Fr.setCell (Fr.setCell (Fr.setCell (((Fr.refl _ _).alloc _).old hO) (Or.inl (by simp)) _) (Or.inl (by simp)) _) (Or.inl (by simp)) _⟩
end Go.Proofs.YtlimgecmolhdhaaGreatDoor
