/- known, of chapter 8's laws. -/
import Derived.Test.YtmheonaddidbjaaGreatDoorUk
set_option linter.unusedVariables false
set_option linter.unusedSimpArgs false
namespace Go.Proofs.YtmheonaddidbjaaGreatDoor
open Go.RowKit

theorem text_at {B : Nat} {w : World} {A : Nat} {N : Nat → Prop} {ts : List Ty} (h : Ar B w A N ts) (i : Nat) (t : Ty) (ht : ts[i]? = some t) (hx : TextOk t) :
    Calls Tryz.prog 21 #[ptr A, .int .i64 (i : Int)] w fun e w' => e = .returned (strV (tx t)) ∧ Same B w w' := by
  obtain ⟨tv, mv, bs, kvs, h⟩ := h
  obtain ⟨hi, e⟩ := List.getElem?_eq_some_iff.1 ht
  have := text_in h i hi (by rw [e]; exact hx)
  rwa [e] at this
theorem len_at {B : Nat} {w : World} {A : Nat} {N : Nat → Prop} {ts : List Ty} (h : Ar B w A N ts) :
    Calls Tryz.prog 20 #[ptr A] w fun e w' => e = .returned (.int .i64 (ts.length : Int)) ∧ w = w' := by
  obtain ⟨tv, mv, bs, kvs, h⟩ := h
  exact len_ok h
theorem Ar.same {B : Nat} {w w' : World} {A : Nat} {N : Nat → Prop} {ts : List Ty} (h : Ar B w A N ts) (hU : Same B w w') : Ar B w' A N ts := by
  obtain ⟨tv, mv, bs, kvs, h⟩ := h
  exact ⟨tv, mv, bs, kvs, h.same hU⟩

set_option maxRecDepth 100000 in
set_option maxHeartbeats 1000000 in
theorem known_true (w : World) : Calls Tryz.prog 8 #[] w fun e w' => e = .returned (.bool true) ∧ Old w w' := by
  have hun : ∀ (w1 : World) (N : Nat → Prop), Ar w.heap.size w1 w.heap.size N (tens 10) → Calls Tryz.prog 16 #[ptr w.heap.size, .slice (some ⟨w1.heap.size, 0, none⟩) 3 3] (w1.alloc (.cells #[.int .i64 9, .int .i64 8, .int .i64 2] 3))
      fun e w' => ∃ N', e = .returned (.tuple #[.int .i64 10, .int .i64 0]) ∧ Ar w.heap.size w' w.heap.size N' (tens 10 ++ [ft]) ∧ Up w.heap.size (fun i => w.heap.size ≤ i) w1 w' := fun w1 N hA => by
    obtain ⟨tv, mv, bs, kvs, h⟩ := hA
    have hO : Old w1 (w1.alloc (.cells #[.int .i64 9, .int .i64 8, .int .i64 2] 3)) := (Fr.refl _ _).alloc _
    refine (aunion_in (w1.alloc (.cells #[.int .i64 9, .int .i64 8, .int .i64 2] 3)) (h.same hO.up) (.slice (some ⟨w1.heap.size, 0, none⟩) 3 3) 3 [9, 8, 2] ⟨rfl, Or.inr ⟨_, _, _, rfl, heapNew w1 _, fun f => f, Nat.le_refl _, rfl⟩⟩ (by decide) (by decide) ?_ (by rw [pick_ft]; decide) (by rw [pick_ft]; decide) ?_).mono ?_
    · rw [pick_ft]
      intro t ht
      rcases List.mem_cons.1 ht with rfl | ht
      · exact fine_bas 10 (by decide)
      rcases List.mem_cons.1 ht with rfl | ht
      · exact fine_bas 9 (by decide)
      rw [List.mem_singleton.1 ht]; exact fine_bas 3 (by decide)
    · rw [pick_ft]
      intro q hq
      rw [un_ft' q hq, lay_ft, tsz_ft]
      exact ⟨lok_ft, by decide, by decide⟩
    · rw [pick_ft]
      rintro e w' ⟨q, r, N', hq, rfl, hi, hA', hU, _⟩
      rw [un_ft' q hq] at hi hA'
      rw [idx_ft] at hi
      cases hi
      rw [lay_ft] at hA'
      exact ⟨N', rfl, hA', (hO.up.mono (fun _ _ f => f.elim)).trans hU (fun i _ f => f.2)⟩
  have HN := Lib.hid (new_ok w)
  have HUN := Lib.hid hun; clear hun
  have x1 := tx_ft
  have x2 := tx_bas 7 (by decide)
  have e10 : (tens 10 ++ [ft]).length = 11 := rfl
  have ht10 : ∀ (w2 : World) (N' : Nat → Prop), Ar w.heap.size w2 w.heap.size N' (tens 10 ++ [ft]) → Calls Tryz.prog 21 #[ptr w.heap.size, .int .i64 10] w2 fun e w' => e = .returned (.string ⟨#[102, 97, 108, 115, 101, 32, 124, 32, 116, 114, 117, 101]⟩) ∧ Same w.heap.size w2 w' := fun w2 N' h => by
    have := text_at h 10 ft rfl text_ft
    rw [x1] at this; exact this
  have ht6 : ∀ (w2 : World) (N' : Nat → Prop), Ar w.heap.size w2 w.heap.size N' (tens 10 ++ [ft]) → Calls Tryz.prog 21 #[ptr w.heap.size, .int .i64 6] w2 fun e w' => e = .returned (.string ⟨#[110, 117, 109, 98, 101, 114]⟩) ∧ Same w.heap.size w2 w' := fun w2 N' h => by
    have := text_at h 6 (bas 7) rfl (text_bas 7 (by decide))
    rw [x2] at this; exact this
  have hlen : ∀ (w2 : World) (N' : Nat → Prop), Ar w.heap.size w2 w.heap.size N' (tens 10 ++ [ft]) → Calls Tryz.prog 20 #[ptr w.heap.size] w2 fun e w' => e = .returned (.int .i64 11) ∧ w2 = w' := fun w2 N' h => len_at h
  have H10 := Lib.hid ht10
  have H6 := Lib.hid ht6
  have HLEN := Lib.hid hlen
  clear x1 x2 e10 ht10 ht6 hlen
  go_enter Tryz.func8, Tryz.ntmps8
  go_wp2_with (first
    | (go_at_call 9; refine Calls.mono HN.out ?_; rintro e w1 ⟨rfl, N, hA, hU⟩; have HA := Lib.hid hA; have HU := Lib.hid hU; clear hA hU)
    | (go_at_call 16; refine Calls.mono (HUN.out _ N HA.out) ?_; rintro e w2 ⟨N', rfl, hA2, hU2⟩; have HA2 := Lib.hid hA2; have HU2 := Lib.hid hU2; clear hA2 hU2)
    | (go_at_call 21; first | ((with_reducible refine Calls.mono (H10.out _ N' HA2.out) ?_); rintro e w3 ⟨rfl, hS3⟩; have HA3 := Lib.hid (HA2.out.same hS3); have HS3 := Lib.hid hS3; clear hS3) | ((with_reducible refine Calls.mono (H6.out _ N' HA3.out) ?_); rintro e w4 ⟨rfl, hS4⟩; have HS4 := Lib.hid hS4; clear hS4))
    | (go_at_call 20; refine Calls.mono (HLEN.out _ N' HA3.out) ?_; rintro e w5 ⟨rfl, rfl⟩))
  go_ret
  refine ⟨rfl, Up.old_of (F := fun i => w.heap.size ≤ i) ?_ (fun i h => h)⟩
  exact ((((HU.out.mono (fun _ _ f => f.elim)).trans HU2.out (fun _ _ f => f)).same HS3.out).same HS4.out)
end Go.Proofs.YtmheonaddidbjaaGreatDoor
