/- text, spelled: of the ten. -/
import Derived.Test.YtmheonaddidbjaaGreatDoorTy
import Derived.Deep.RegionWith
import Derived.Deep.DeepCutAuto
import Derived.Deep.RegionHeld3
set_option linter.unusedVariables false
set_option linter.unusedSimpArgs false
namespace Go.Proofs.YtmheonaddidbjaaGreatDoor
open Go.RowKit

/-- What text answers, and spelled. -/
def TextOk (t : Ty) : Prop := ∀ B w N b, (∀ i, i < B → N i) → TY w N t b → Calls Tryz.prog 43 #[ptr b] w fun e w' => e = .returned (strV (tx t)) ∧ Same B w w'
def SpelledOk (t : Ty) : Prop := ∀ B w N b, (∀ i, i < B → N i) → TY w N t b → Calls Tryz.prog 71 #[ptr b] w fun e w' => e = .returned (strV (tx t)) ∧ Same B w w'

theorem TY.said {w : World} {N : Nat → Prop} {t : Ty} {b : Nat} (h : TY w N t b) : ∃ said, w.cell? ⟨b, 7, none⟩ = some (.string said) ∧ w.frozen? ⟨b, 7, none⟩ = false ∧ b < w.heap.size ∧ (said = S [] ∨ said = S (tx t)) := by
  cases t with
  | mk k n nm ps ns ms =>
    obtain ⟨pv, nv, mv, said, bs, h1, _, h2, _⟩ := h
    exact ⟨said, cellOf h1 7 _ rfl, freeOf h1 7, ltOf h1, h2⟩

theorem TY.not_in {w : World} {N : Nat → Prop} {t : Ty} {b : Nat} (h : TY w N t b) : ¬ N b := by
  cases t with
  | mk k n nm ps ns ms =>
    obtain ⟨pv, nv, mv, said, bs, _, h1, _⟩ := h
    exact h1

set_option maxHeartbeats 400000 in
theorem text_of (t : Ty) (hs : SpelledOk t) : TextOk t := by
  intro B w N b hlow h
  have hB : B ≤ b := by
    rcases Nat.lt_or_ge b B with h1 | h1
    · exact absurd (hlow b h1) h.not_in
    · exact h1
  obtain ⟨said, c7, f7, hb, hsd⟩ := h.said
  have HS := Lib.hid hs; clear hs
  have HH := Lib.hid h; clear h
  rcases hsd with rfl | rfl
  · have e0 : S [] = ⟨#[]⟩ := rfl
    rw [e0] at c7
    go_enter Tryz.func43, Tryz.ntmps43
    go_wp2_with (go_at_call 71; refine (HS.out B _ _ _ hlow HH.out).mono ?_; rintro e w1 ⟨rfl, hS1⟩; obtain ⟨said1, d7, g7, hb1, -⟩ := (HH.out.same hS1).said)
    go_ret
    exact ⟨rfl, hS1.same (Up.said (HH.out.same hS1) hB)⟩
  · go_enter Tryz.func43, Tryz.ntmps43
    go_wp2_with (go_at_call 71; refine (HS.out B _ _ _ hlow HH.out).mono ?_; rintro e w1 ⟨rfl, hS1⟩; obtain ⟨said1, d7, g7, hb1, -⟩ := (HH.out.same hS1).said)
    · go_ret
      exact ⟨rfl, hS1.same (Up.said (HH.out.same hS1) hB)⟩
    · go_ret
      exact ⟨rfl, Up.refl _ _⟩

set_option maxRecDepth 100000 in
set_option maxHeartbeats 1000000 in
theorem word_ok (k : Int) (h : 1 ≤ k ∧ k ≤ 10) (w : World) : Calls Tryz.prog 108 #[.int .i64 k] w fun e w' => e = .returned (strV (wordB k)) ∧ w = w' := by
  have i0 : ∀ w, (Instr.index 219 (.agg #[.string ⟨#[97, 110, 121]⟩, .string ⟨#[117, 110, 107, 110, 111, 119, 110]⟩, .string ⟨#[110, 101, 118, 101, 114]⟩, .string ⟨#[118, 111, 105, 100]⟩, .string ⟨#[117, 110, 100, 101, 102, 105, 110, 101, 100]⟩, .string ⟨#[110, 117, 108, 108]⟩, .string ⟨#[110, 117, 109, 98, 101, 114]⟩, .string ⟨#[115, 116, 114, 105, 110, 103]⟩, .string ⟨#[116, 114, 117, 101]⟩, .string ⟨#[102, 97, 108, 115, 101]⟩]) (.int .i64 0)).run Tryz.prog w = .ok (.string ⟨#[97, 110, 121]⟩) w := fun _ => by kernel_rfl
  have i1 : ∀ w, (Instr.index 219 (.agg #[.string ⟨#[97, 110, 121]⟩, .string ⟨#[117, 110, 107, 110, 111, 119, 110]⟩, .string ⟨#[110, 101, 118, 101, 114]⟩, .string ⟨#[118, 111, 105, 100]⟩, .string ⟨#[117, 110, 100, 101, 102, 105, 110, 101, 100]⟩, .string ⟨#[110, 117, 108, 108]⟩, .string ⟨#[110, 117, 109, 98, 101, 114]⟩, .string ⟨#[115, 116, 114, 105, 110, 103]⟩, .string ⟨#[116, 114, 117, 101]⟩, .string ⟨#[102, 97, 108, 115, 101]⟩]) (.int .i64 1)).run Tryz.prog w = .ok (.string ⟨#[117, 110, 107, 110, 111, 119, 110]⟩) w := fun _ => by kernel_rfl
  have i2 : ∀ w, (Instr.index 219 (.agg #[.string ⟨#[97, 110, 121]⟩, .string ⟨#[117, 110, 107, 110, 111, 119, 110]⟩, .string ⟨#[110, 101, 118, 101, 114]⟩, .string ⟨#[118, 111, 105, 100]⟩, .string ⟨#[117, 110, 100, 101, 102, 105, 110, 101, 100]⟩, .string ⟨#[110, 117, 108, 108]⟩, .string ⟨#[110, 117, 109, 98, 101, 114]⟩, .string ⟨#[115, 116, 114, 105, 110, 103]⟩, .string ⟨#[116, 114, 117, 101]⟩, .string ⟨#[102, 97, 108, 115, 101]⟩]) (.int .i64 2)).run Tryz.prog w = .ok (.string ⟨#[110, 101, 118, 101, 114]⟩) w := fun _ => by kernel_rfl
  have i3 : ∀ w, (Instr.index 219 (.agg #[.string ⟨#[97, 110, 121]⟩, .string ⟨#[117, 110, 107, 110, 111, 119, 110]⟩, .string ⟨#[110, 101, 118, 101, 114]⟩, .string ⟨#[118, 111, 105, 100]⟩, .string ⟨#[117, 110, 100, 101, 102, 105, 110, 101, 100]⟩, .string ⟨#[110, 117, 108, 108]⟩, .string ⟨#[110, 117, 109, 98, 101, 114]⟩, .string ⟨#[115, 116, 114, 105, 110, 103]⟩, .string ⟨#[116, 114, 117, 101]⟩, .string ⟨#[102, 97, 108, 115, 101]⟩]) (.int .i64 3)).run Tryz.prog w = .ok (.string ⟨#[118, 111, 105, 100]⟩) w := fun _ => by kernel_rfl
  have i4 : ∀ w, (Instr.index 219 (.agg #[.string ⟨#[97, 110, 121]⟩, .string ⟨#[117, 110, 107, 110, 111, 119, 110]⟩, .string ⟨#[110, 101, 118, 101, 114]⟩, .string ⟨#[118, 111, 105, 100]⟩, .string ⟨#[117, 110, 100, 101, 102, 105, 110, 101, 100]⟩, .string ⟨#[110, 117, 108, 108]⟩, .string ⟨#[110, 117, 109, 98, 101, 114]⟩, .string ⟨#[115, 116, 114, 105, 110, 103]⟩, .string ⟨#[116, 114, 117, 101]⟩, .string ⟨#[102, 97, 108, 115, 101]⟩]) (.int .i64 4)).run Tryz.prog w = .ok (.string ⟨#[117, 110, 100, 101, 102, 105, 110, 101, 100]⟩) w := fun _ => by kernel_rfl
  have i5 : ∀ w, (Instr.index 219 (.agg #[.string ⟨#[97, 110, 121]⟩, .string ⟨#[117, 110, 107, 110, 111, 119, 110]⟩, .string ⟨#[110, 101, 118, 101, 114]⟩, .string ⟨#[118, 111, 105, 100]⟩, .string ⟨#[117, 110, 100, 101, 102, 105, 110, 101, 100]⟩, .string ⟨#[110, 117, 108, 108]⟩, .string ⟨#[110, 117, 109, 98, 101, 114]⟩, .string ⟨#[115, 116, 114, 105, 110, 103]⟩, .string ⟨#[116, 114, 117, 101]⟩, .string ⟨#[102, 97, 108, 115, 101]⟩]) (.int .i64 5)).run Tryz.prog w = .ok (.string ⟨#[110, 117, 108, 108]⟩) w := fun _ => by kernel_rfl
  have i6 : ∀ w, (Instr.index 219 (.agg #[.string ⟨#[97, 110, 121]⟩, .string ⟨#[117, 110, 107, 110, 111, 119, 110]⟩, .string ⟨#[110, 101, 118, 101, 114]⟩, .string ⟨#[118, 111, 105, 100]⟩, .string ⟨#[117, 110, 100, 101, 102, 105, 110, 101, 100]⟩, .string ⟨#[110, 117, 108, 108]⟩, .string ⟨#[110, 117, 109, 98, 101, 114]⟩, .string ⟨#[115, 116, 114, 105, 110, 103]⟩, .string ⟨#[116, 114, 117, 101]⟩, .string ⟨#[102, 97, 108, 115, 101]⟩]) (.int .i64 6)).run Tryz.prog w = .ok (.string ⟨#[110, 117, 109, 98, 101, 114]⟩) w := fun _ => by kernel_rfl
  have i7 : ∀ w, (Instr.index 219 (.agg #[.string ⟨#[97, 110, 121]⟩, .string ⟨#[117, 110, 107, 110, 111, 119, 110]⟩, .string ⟨#[110, 101, 118, 101, 114]⟩, .string ⟨#[118, 111, 105, 100]⟩, .string ⟨#[117, 110, 100, 101, 102, 105, 110, 101, 100]⟩, .string ⟨#[110, 117, 108, 108]⟩, .string ⟨#[110, 117, 109, 98, 101, 114]⟩, .string ⟨#[115, 116, 114, 105, 110, 103]⟩, .string ⟨#[116, 114, 117, 101]⟩, .string ⟨#[102, 97, 108, 115, 101]⟩]) (.int .i64 7)).run Tryz.prog w = .ok (.string ⟨#[115, 116, 114, 105, 110, 103]⟩) w := fun _ => by kernel_rfl
  have i8 : ∀ w, (Instr.index 219 (.agg #[.string ⟨#[97, 110, 121]⟩, .string ⟨#[117, 110, 107, 110, 111, 119, 110]⟩, .string ⟨#[110, 101, 118, 101, 114]⟩, .string ⟨#[118, 111, 105, 100]⟩, .string ⟨#[117, 110, 100, 101, 102, 105, 110, 101, 100]⟩, .string ⟨#[110, 117, 108, 108]⟩, .string ⟨#[110, 117, 109, 98, 101, 114]⟩, .string ⟨#[115, 116, 114, 105, 110, 103]⟩, .string ⟨#[116, 114, 117, 101]⟩, .string ⟨#[102, 97, 108, 115, 101]⟩]) (.int .i64 8)).run Tryz.prog w = .ok (.string ⟨#[116, 114, 117, 101]⟩) w := fun _ => by kernel_rfl
  have i9 : ∀ w, (Instr.index 219 (.agg #[.string ⟨#[97, 110, 121]⟩, .string ⟨#[117, 110, 107, 110, 111, 119, 110]⟩, .string ⟨#[110, 101, 118, 101, 114]⟩, .string ⟨#[118, 111, 105, 100]⟩, .string ⟨#[117, 110, 100, 101, 102, 105, 110, 101, 100]⟩, .string ⟨#[110, 117, 108, 108]⟩, .string ⟨#[110, 117, 109, 98, 101, 114]⟩, .string ⟨#[115, 116, 114, 105, 110, 103]⟩, .string ⟨#[116, 114, 117, 101]⟩, .string ⟨#[102, 97, 108, 115, 101]⟩]) (.int .i64 9)).run Tryz.prog w = .ok (.string ⟨#[102, 97, 108, 115, 101]⟩) w := fun _ => by kernel_rfl
  have hk : k = 1 ∨ k = 2 ∨ k = 3 ∨ k = 4 ∨ k = 5 ∨ k = 6 ∨ k = 7 ∨ k = 8 ∨ k = 9 ∨ k = 10 := by omega
  rcases hk with rfl | rfl | rfl | rfl | rfl | rfl | rfl | rfl | rfl | rfl
  all_goals
    go_enter Tryz.func108, Tryz.ntmps108
    go_wp2
    go_ret
    exact ⟨rfl, rfl⟩

set_option maxRecDepth 100000 in
set_option maxHeartbeats 1000000 in
theorem spelled_bas (k : Int) (h : 1 ≤ k ∧ k ≤ 10) : SpelledOk (bas k) := by
  intro B w N b hlow hT
  have hx : tx (bas k) = wordB k := by
    have hk : k = 1 ∨ k = 2 ∨ k = 3 ∨ k = 4 ∨ k = 5 ∨ k = 6 ∨ k = 7 ∨ k = 8 ∨ k = 9 ∨ k = 10 := by omega
    rcases hk with rfl | rfl | rfl | rfl | rfl | rfl | rfl | rfl | rfl | rfl <;> simp [bas, tx, body]
  rw [hx]
  obtain ⟨pv, nv, mv, said, bs, h1, _⟩ := hT
  have c0 := cellOf h1 0 _ rfl
  clear h1
  replace hx := Lib.hid hx
  have e11 : (k == 11) = false := beq_eq_false_iff_ne.2 (by omega)
  have e12 : (k == 12) = false := beq_eq_false_iff_ne.2 (by omega)
  have e13 : (k == 13) = false := beq_eq_false_iff_ne.2 (by omega)
  have e14 : (k == 14) = false := beq_eq_false_iff_ne.2 (by omega)
  have e15 : (k == 15) = false := beq_eq_false_iff_ne.2 (by omega)
  have e16 : (k == 16) = false := beq_eq_false_iff_ne.2 (by omega)
  have e17 : (k == 17) = false := beq_eq_false_iff_ne.2 (by omega)
  have e18 : (k == 18) = false := beq_eq_false_iff_ne.2 (by omega)
  have e19 : (k == 19) = false := beq_eq_false_iff_ne.2 (by omega)
  have e20 : (k == 20) = false := beq_eq_false_iff_ne.2 (by omega)
  have e21 : (k == 21) = false := beq_eq_false_iff_ne.2 (by omega)
  have e22 : (k == 22) = false := beq_eq_false_iff_ne.2 (by omega)
  have e23 : (k == 23) = false := beq_eq_false_iff_ne.2 (by omega)
  go_enter Tryz.func71, Tryz.ntmps71
  go_wp2_with (go_at_call 108; refine (word_ok k h _).mono ?_; rintro e w1 ⟨rfl, rfl⟩)
  go_ret
  exact ⟨rfl, Up.refl _ _⟩

theorem text_bas (k : Int) (h : 1 ≤ k ∧ k ≤ 10) : TextOk (bas k) := text_of _ (spelled_bas k h)
end Go.Proofs.YtmheonaddidbjaaGreatDoor
