/- An arena that is nothing, and one that has nothing. -/
import Derived.Test.YtmheonaddidbjaaGreatDoorKk
import Derived.Test.YtmheonaddidbjaaGreatDoorHv
set_option linter.unusedVariables false
set_option linter.unusedSimpArgs false
namespace Go.Proofs.YtmheonaddidbjaaGreatDoor
open Go.RowKit

theorem has_zero (w : World) (A : Nat) (id : Int) (hA : w.heap[A]? = some (.cells #[.slice none 0 0, .map none, .map none] 59 (0, 0))) : Calls Tryz.prog 38 #[ptr A, .int .i64 id] w fun e w' => e = .returned (.bool false) ∧ w = w' := by
  have c0 := cellOf hA 0 _ rfl
  clear hA
  rcases Int.lt_or_le id 0 with h | h
  · have d0 : decide (0 ≤ id) = false := decide_eq_false (by omega)
    go_enter Tryz.func38, Tryz.ntmps38
    go_wp2
    go_ret
    exact ⟨rfl, rfl⟩
  · have d0 : decide (0 ≤ id) = true := decide_eq_true h
    have d1 : decide (id < 0) = false := decide_eq_false (by omega)
    go_enter Tryz.func38, Tryz.ntmps38
    go_wp2
    go_ret
    exact ⟨rfl, rfl⟩

set_option maxRecDepth 100000 in
set_option maxHeartbeats 400000 in
theorem find_nil (w : World) (x0 x1 x2 x3 x4 x5 : Value) : Calls Tryz.prog 11 #[.pointer none, .agg #[x0, x1, x2, x3, x4, x5]] w fun e w' => e = .returned (.tuple #[.int .i64 0, .int .i64 1]) ∧ Old w w' := by
  go_enter Tryz.func11, Tryz.ntmps11
  go_wp2_with (first | (go_at_call 38; refine (has_nil _).mono ?_; rintro e w1 ⟨rfl, rfl⟩) | go_in)
  go_ret2
  exact ⟨rfl, by first | exact Fr.refl _ _ | exact (Fr.refl _ _).alloc _ | exact ((Fr.refl _ _).alloc _).alloc _⟩

set_option maxRecDepth 100000 in
set_option maxHeartbeats 400000 in
theorem union_nil (w : World) (v : Value) : Calls Tryz.prog 16 #[.pointer none, v] w fun e w' => e = .returned (.tuple #[.int .i64 0, .int .i64 1]) ∧ Old w w' := by
  go_enter Tryz.func16, Tryz.ntmps16
  go_wp2_with (first | (go_at_call 38; refine (has_nil _).mono ?_; rintro e w1 ⟨rfl, rfl⟩) | go_in)
  go_ret2
  exact ⟨rfl, by first | exact Fr.refl _ _ | exact (Fr.refl _ _).alloc _ | exact ((Fr.refl _ _).alloc _).alloc _⟩

set_option maxRecDepth 100000 in
set_option maxHeartbeats 400000 in
theorem subst_nil (w : World) (id : Int) (v u : Value) : Calls Tryz.prog 13 #[.pointer none, .int .i64 id, v, u] w fun e w' => e = .returned (.tuple #[.int .i64 0, .int .i64 1]) ∧ Old w w' := by
  go_enter Tryz.func13, Tryz.ntmps13
  go_wp2_with (first | (go_at_call 38; refine (has_nil _).mono ?_; rintro e w1 ⟨rfl, rfl⟩) | go_in)
  go_ret2
  exact ⟨rfl, by first | exact Fr.refl _ _ | exact (Fr.refl _ _).alloc _ | exact ((Fr.refl _ _).alloc _).alloc _⟩

set_option maxRecDepth 100000 in
set_option maxHeartbeats 400000 in
theorem widen_nil (w : World) (id : Int) : Calls Tryz.prog 12 #[.pointer none, .int .i64 id] w fun e w' => e = .returned (.tuple #[.int .i64 0, .int .i64 1]) ∧ Old w w' := by
  go_enter Tryz.func12, Tryz.ntmps12
  go_wp2_with (first | (go_at_call 38; refine (has_nil _).mono ?_; rintro e w1 ⟨rfl, rfl⟩) | go_in)
  go_ret2
  exact ⟨rfl, by first | exact Fr.refl _ _ | exact (Fr.refl _ _).alloc _ | exact ((Fr.refl _ _).alloc _).alloc _⟩

set_option maxRecDepth 100000 in
set_option maxHeartbeats 400000 in
theorem at_nil (w : World) (id : Int) : Calls Tryz.prog 17 #[.pointer none, .int .i64 id] w fun e w' => e = .returned (.tuple #[.agg #[.int .i64 0, .int .i64 0, .string ⟨#[]⟩, .slice none 0 0, .slice none 0 0, .slice none 0 0], .int .i64 1]) ∧ Old w w' := by
  go_enter Tryz.func17, Tryz.ntmps17
  go_wp2
  go_step3
  go_wp2_with (first | (go_at_call 38; refine (has_nil _).mono ?_; rintro e w1 ⟨rfl, rfl⟩) | go_in)
  rw [Exit.noGoto_ret]
  refine bodyPost_ret (v := _) (by simp [results, Tryz.f17, go_sem]; rfl) rfl ?_
  exact ⟨rfl, by first | exact Fr.refl _ _ | exact (Fr.refl _ _).alloc _ | exact ((Fr.refl _ _).alloc _).alloc _⟩

set_option maxRecDepth 100000 in
set_option maxHeartbeats 400000 in
theorem pieces_nil (w : World) (id : Int) : Calls Tryz.prog 18 #[.pointer none, .int .i64 id] w fun e w' => e = .returned (.tuple #[.slice none 0 0, .int .i64 1]) ∧ Old w w' := by
  go_enter Tryz.func18, Tryz.ntmps18
  go_wp2_with (first | (go_at_call 38; refine (has_nil _).mono ?_; rintro e w1 ⟨rfl, rfl⟩) | go_in)
  go_ret2
  exact ⟨rfl, by first | exact Fr.refl _ _ | exact (Fr.refl _ _).alloc _ | exact ((Fr.refl _ _).alloc _).alloc _⟩

set_option maxRecDepth 100000 in
set_option maxHeartbeats 400000 in
theorem define_nil (w : World) (id : Int) (v u : Value) : Calls Tryz.prog 19 #[.pointer none, .int .i64 id, v, u] w fun e w' => e = .returned (.int .i64 1) ∧ Old w w' := by
  go_enter Tryz.func19, Tryz.ntmps19
  go_wp2_with (first | (go_at_call 38; refine (has_nil _).mono ?_; rintro e w1 ⟨rfl, rfl⟩) | go_in)
  go_ret
  exact ⟨rfl, by first | exact Fr.refl _ _ | exact (Fr.refl _ _).alloc _ | exact ((Fr.refl _ _).alloc _).alloc _⟩

set_option maxRecDepth 100000 in
set_option maxHeartbeats 400000 in
theorem len_nil (w : World)  : Calls Tryz.prog 20 #[.pointer none] w fun e w' => e = .returned (.int .i64 0) ∧ Old w w' := by
  go_enter Tryz.func20, Tryz.ntmps20
  go_wp2_with (first | (go_at_call 38; refine (has_nil _).mono ?_; rintro e w1 ⟨rfl, rfl⟩) | go_in)
  go_ret
  exact ⟨rfl, by first | exact Fr.refl _ _ | exact (Fr.refl _ _).alloc _ | exact ((Fr.refl _ _).alloc _).alloc _⟩

set_option maxRecDepth 100000 in
set_option maxHeartbeats 400000 in
theorem text_nil (w : World) (id : Int) : Calls Tryz.prog 21 #[.pointer none, .int .i64 id] w fun e w' => e = .returned (.string ⟨#[]⟩) ∧ Old w w' := by
  go_enter Tryz.func21, Tryz.ntmps21
  go_wp2_with (first | (go_at_call 38; refine (has_nil _).mono ?_; rintro e w1 ⟨rfl, rfl⟩) | go_in)
  go_ret
  exact ⟨rfl, by first | exact Fr.refl _ _ | exact (Fr.refl _ _).alloc _ | exact ((Fr.refl _ _).alloc _).alloc _⟩

set_option maxRecDepth 100000 in
set_option maxHeartbeats 400000 in
theorem widen_zero (w : World) (A : Nat) (id : Int) (hA : w.heap[A]? = some (.cells #[.slice none 0 0, .map none, .map none] 59 (0, 0))) : Calls Tryz.prog 12 #[ptr A, .int .i64 id] w fun e w' => e = .returned (.tuple #[.int .i64 0, .int .i64 11]) ∧ Old w w' := by
  have HH : Hid (∀ W, Old w W → Calls Tryz.prog 38 #[ptr A, .int .i64 id] W fun e w' => e = .returned (.bool false) ∧ W = w') := Lib.hid (fun W hO => has_zero W A id (hO.at hA (fun f => f)))
  clear hA
  go_enter Tryz.func12, Tryz.ntmps12
  go_wp2_with (first | (go_at_call 38; refine Calls.mono (HH.out _ (by first | exact Fr.refl _ _ | exact (Fr.refl _ _).alloc _ | exact ((Fr.refl _ _).alloc _).alloc _)) ?_; rintro e w1 ⟨rfl, rfl⟩) | go_in)
  go_ret2
  exact ⟨rfl, by first | exact Fr.refl _ _ | exact (Fr.refl _ _).alloc _ | exact ((Fr.refl _ _).alloc _).alloc _⟩

set_option maxRecDepth 100000 in
set_option maxHeartbeats 400000 in
theorem at_zero (w : World) (A : Nat) (id : Int) (hA : w.heap[A]? = some (.cells #[.slice none 0 0, .map none, .map none] 59 (0, 0))) : Calls Tryz.prog 17 #[ptr A, .int .i64 id] w fun e w' => e = .returned (.tuple #[.agg #[.int .i64 0, .int .i64 0, .string ⟨#[]⟩, .slice none 0 0, .slice none 0 0, .slice none 0 0], .int .i64 11]) ∧ Old w w' := by
  have HH : Hid (∀ W, Old w W → Calls Tryz.prog 38 #[ptr A, .int .i64 id] W fun e w' => e = .returned (.bool false) ∧ W = w') := Lib.hid (fun W hO => has_zero W A id (hO.at hA (fun f => f)))
  clear hA
  go_enter Tryz.func17, Tryz.ntmps17
  go_wp2
  go_step3
  go_wp2_with (first | (go_at_call 38; refine Calls.mono (HH.out _ (by first | exact Fr.refl _ _ | exact (Fr.refl _ _).alloc _ | exact ((Fr.refl _ _).alloc _).alloc _)) ?_; rintro e w1 ⟨rfl, rfl⟩) | go_in)
  rw [Exit.noGoto_ret]
  refine bodyPost_ret (v := _) (by simp [results, Tryz.f17, go_sem]; rfl) rfl ?_
  exact ⟨rfl, by first | exact Fr.refl _ _ | exact (Fr.refl _ _).alloc _ | exact ((Fr.refl _ _).alloc _).alloc _⟩

set_option maxRecDepth 100000 in
set_option maxHeartbeats 400000 in
theorem pieces_zero (w : World) (A : Nat) (id : Int) (hA : w.heap[A]? = some (.cells #[.slice none 0 0, .map none, .map none] 59 (0, 0))) : Calls Tryz.prog 18 #[ptr A, .int .i64 id] w fun e w' => e = .returned (.tuple #[.slice none 0 0, .int .i64 11]) ∧ Old w w' := by
  have HH : Hid (∀ W, Old w W → Calls Tryz.prog 38 #[ptr A, .int .i64 id] W fun e w' => e = .returned (.bool false) ∧ W = w') := Lib.hid (fun W hO => has_zero W A id (hO.at hA (fun f => f)))
  clear hA
  go_enter Tryz.func18, Tryz.ntmps18
  go_wp2_with (first | (go_at_call 38; refine Calls.mono (HH.out _ (by first | exact Fr.refl _ _ | exact (Fr.refl _ _).alloc _ | exact ((Fr.refl _ _).alloc _).alloc _)) ?_; rintro e w1 ⟨rfl, rfl⟩) | go_in)
  go_ret2
  exact ⟨rfl, by first | exact Fr.refl _ _ | exact (Fr.refl _ _).alloc _ | exact ((Fr.refl _ _).alloc _).alloc _⟩

set_option maxRecDepth 100000 in
set_option maxHeartbeats 400000 in
theorem text_zero (w : World) (A : Nat) (id : Int) (hA : w.heap[A]? = some (.cells #[.slice none 0 0, .map none, .map none] 59 (0, 0))) : Calls Tryz.prog 21 #[ptr A, .int .i64 id] w fun e w' => e = .returned (.string ⟨#[]⟩) ∧ Old w w' := by
  have HH : Hid (∀ W, Old w W → Calls Tryz.prog 38 #[ptr A, .int .i64 id] W fun e w' => e = .returned (.bool false) ∧ W = w') := Lib.hid (fun W hO => has_zero W A id (hO.at hA (fun f => f)))
  clear hA
  go_enter Tryz.func21, Tryz.ntmps21
  go_wp2_with (first | (go_at_call 38; refine Calls.mono (HH.out _ (by first | exact Fr.refl _ _ | exact (Fr.refl _ _).alloc _ | exact ((Fr.refl _ _).alloc _).alloc _)) ?_; rintro e w1 ⟨rfl, rfl⟩) | go_in)
  go_ret
  exact ⟨rfl, by first | exact Fr.refl _ _ | exact (Fr.refl _ _).alloc _ | exact ((Fr.refl _ _).alloc _).alloc _⟩

theorem len_zero (w : World) (A : Nat) (hA : w.heap[A]? = some (.cells #[.slice none 0 0, .map none, .map none] 59 (0, 0))) : Calls Tryz.prog 20 #[ptr A] w fun e w' => e = .returned (.int .i64 0) ∧ Old w w' := by
  have c0 := cellOf hA 0 _ rfl
  clear hA
  go_enter Tryz.func20, Tryz.ntmps20
  go_wp2
  go_ret
  exact ⟨rfl, by first | exact Fr.refl _ _ | exact (Fr.refl _ _).alloc _ | exact ((Fr.refl _ _).alloc _).alloc _⟩
end Go.Proofs.YtmheonaddidbjaaGreatDoor
