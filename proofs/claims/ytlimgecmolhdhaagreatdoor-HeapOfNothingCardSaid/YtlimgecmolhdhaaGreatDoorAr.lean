/- Arrays. -/
import Derived.Test.YtlimgecmolhdhaaGreatDoorGe
set_option linter.unusedVariables false
set_option linter.unusedSimpArgs false
namespace Go.Proofs.YtlimgecmolhdhaaGreatDoor
open Go.RowKit

theorem array_is (w : World) (h : Value) (k n : Int) (s : ByteArray) (q : Option Addr)
    (hT : Says w nowhere anyW 40 #[h, .agg #[.int .i64 k, .int .i64 n, .string s]] (.iface 86 (.pointer q))) :
    Says w nowhere anyW 42 #[h, .agg #[.int .i64 k, .int .i64 n, .string s]] (.pointer q) := by
  intro W hO _
  have q1 := ta_arr_arr
  go_enter Tryz.func42, Tryz.ntmps42
  go_wp2_with (go_at_call 40; refine (hT _ (hO.alloc _) trivial).mono ?_; rintro e w1 ⟨rfl, hO1⟩)
  go_ret
  exact ⟨rfl, ((Fr.refl _ _).alloc _).old hO1⟩

theorem own_len (w : World) (b : Nat) (av : Value) (n : Nat) (xs : List Value) (hb : w.heap[b]? = some (.cells #[av] 89 (0, 0))) (hr : w.ownsRow 0 34 3 av n xs) :
    Says w nowhere anyW 121 #[.pointer (some ⟨b, 0, none⟩), .string ⟨#[108, 101, 110, 103, 116, 104]⟩] (ownV (some ⟨3, n, ⟨#[]⟩⟩)) := by
  intro W hO _
  have hb' := hO.at hb (fun f => f)
  have hlt := ltOf hb'
  obtain ⟨a, c, rfl⟩ : ∃ a c, av = .slice a n c := by
    rcases hr.2 with ⟨rfl, e⟩ | ⟨g, cap, _, rfl, _⟩
    · exact ⟨none, 0, by rw [e]⟩
    · exact ⟨_, _, rfl⟩
  have c0 := cellOf hb' 0 _ rfl
  have HB := Lib.hid hb'; clear hb' hb
  go_enter Tryz.func121, Tryz.ntmps121
  go_wp2_with (go_at_call 47; refine (number_any _ _).mono ?_; rintro e w1 ⟨rfl, hO1⟩; have b4 := hO1.at (heapNew W (.cells #[.int .i64 0, .int .i64 0, .string ⟨#[]⟩] 34)) (fun f => f); obtain ⟨d0, d1, d2, _, _, _⟩ := cells3 b4; have hl4 := ltOf b4; clear b4)
  refine bodyPost_ret (v := .tuple #[.agg #[.int .i64 3, .int .i64 n, .string ⟨#[]⟩], .bool true]) (by simp [results, Tryz.results121, go_sem, d0, d1, d2, hl4]) rfl ⟨rfl, ?_⟩
  exact ((((Fr.refl _ _).alloc _).old hO1).setCell (Or.inl (Nat.le_refl _)) _).setCell (Or.inl (Nat.le_refl _)) _ |>.setCell (Or.inl (Nat.le_refl _)) _

end Go.Proofs.YtlimgecmolhdhaaGreatDoor
