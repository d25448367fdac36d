/- The union of false, true and never. -/
import Derived.Test.YtmheonaddidbjaaGreatDoorSp
set_option linter.unusedVariables false
set_option linter.unusedSimpArgs false
namespace Go.Proofs.YtmheonaddidbjaaGreatDoor
open Go.RowKit

/-- false | true. -/
def ft : Ty := .mk 16 0 [] [bas 10, bas 9] [] []
theorem tx_ft : tx ft = [102, 97, 108, 115, 101, 32, 124, 32, 116, 114, 117, 101] := by kernel_rfl
theorem un_ft (b1 b2 b3 : Nat) : unionQ [(bas 10, b1), (bas 9, b2), (bas 3, b3)] = ft := by kernel_rfl
theorem pick_ft : (pick (tens 10) [9, 8, 2]).flatMap flatT = [bas 10, bas 9, bas 3] := by kernel_rfl
theorem lay_ft : layP (tens 10) ft = tens 10 ++ [ft] := by kernel_rfl
theorem idx_ft : idx (tx ft) (layP (tens 10) ft) = some 10 := by kernel_rfl
theorem tsz_ft : tsz ft = 3 := by kernel_rfl

theorem un_ft' (q : List (Ty × Nat)) (h : q.map (·.1) = [bas 10, bas 9, bas 3]) : unionQ q = ft := by
  match q, h with
  | [(t1, b1), (t2, b2), (t3, b3)], h =>
    simp only [List.map_cons, List.map_nil, List.cons.injEq, and_true] at h
    obtain ⟨rfl, rfl, rfl⟩ := h
    exact un_ft b1 b2 b3

theorem fine_bas (k : Int) (h : 1 ≤ k ∧ k ≤ 10) : Fine (bas k) ∧ Ask (bas k) := by
  refine ⟨⟨text_bas k h, ?_⟩, fun e => ?_⟩
  · have hk : k = 1 ∨ k = 2 ∨ k = 3 ∨ k = 4 ∨ k = 5 ∨ k = 6 ∨ k = 7 ∨ k = 8 ∨ k = 9 ∨ k = 10 := by omega
    rw [tx_bas k h]
    rcases hk with rfl | rfl | rfl | rfl | rfl | rfl | rfl | rfl | rfl | rfl <;> decide
  · have : k = 20 := e
    omega
theorem text_ft : TextOk ft := text_of _ (spelled_union ft rfl (fun p hp => by
  have hp : p ∈ [bas 10, bas 9] := hp
  rcases List.mem_cons.1 hp with rfl | hp
  · exact (fine_bas 10 (by decide)).1
  · rw [List.mem_singleton.1 hp]; exact (fine_bas 9 (by decide)).1) (by decide) (by rw [tx_ft]; decide))
theorem gd_ft : Gd ft := ⟨text_ft, gd_bas 10 (by decide), gd_bas 9 (by decide), trivial⟩
theorem sh_ft : Sh ft := by
  show (2 ≤ 1099511627776) ∧ Shs (tx ft).length [bas 10, bas 9]
  refine ⟨by decide, sh_bas 10, ?_, sh_bas 9, ?_, trivial⟩
  · rw [tx_ft, tx_bas 10 (by decide)]; decide
  · rw [tx_ft, tx_bas 9 (by decide)]; decide
theorem lok_ft : LayOk ft := lay_any ft gd_ft sh_ft
end Go.Proofs.YtmheonaddidbjaaGreatDoor
