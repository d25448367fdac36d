/- slices.SortStableFunc of types (fewer than 20), Clip. -/
import Derived.Test.YtmheonaddidbjaaGreatDoorIn
set_option linter.unusedVariables false
set_option linter.unusedSimpArgs false
namespace Go.Proofs.YtmheonaddidbjaaGreatDoor
open Go.RowKit

variable {B : Nat}

/-- The order in which SortStableFunc leaves (fewer than 20). -/
def sortQ (q : List Pq) : List Pq := insN 0 (q.length - 1) q
theorem sortQ_perm (q : List Pq) : (sortQ q).Perm q := insN_perm 0 _ q

set_option maxRecDepth 100000 in
set_option maxHeartbeats 2000000 in
theorem stable_any (w W : World) (N : Nat → Prop) (g cap C n : Nat) (q : List Pq) (hlow : ∀ i, i < B → N i) (hN : N g) (hgC : g ≠ C) (h : SSt B w N g cap C q W) (hq : q.length = n) (hn : n < 20) :
    Calls Tryz.prog 135 #[.slice (some ⟨g, 0, none⟩) n cap, .int .i64 (n : Int), cmpF C] W fun e w' => e = .returned (.tuple #[]) ∧ SSt B w N g cap C (sortQ q) w' := by
  have hs : sortQ q = insN 0 (n - (0 + 1)) q := by unfold sortQ; rw [hq]
  rw [hs]
  clear hs
  have hi := fun (a b : Nat) (hb : b ≤ n) (ha : a ≤ n) (q' : List Pq) (hq' : q'.length = n) (W' : World) (h' : SSt B w N g cap C q' W') => insertion_any w W' N g cap C n a b q' hlow hN hgC h' hq' (by omega) hb ha
  have hl := (insN_perm 0 (n - (0 + 1)) q).length_eq
  have H0 := Lib.hid h; clear h
  have HIN := Lib.hid hi; clear hi hlow
  have C1 := Lib.hid (HIN.out 0 n (Nat.le_refl _) (Nat.zero_le _) q hq W H0.out)
  clear hl hq
  have d1 : decide ((20 : Int) ≤ (n : Int)) = false := decide_eq_false (by omega)
  have d2 : decide ((20 : Int) < (n : Int)) = false := decide_eq_false (by omega)
  go_enter Tryz.func135, Tryz.ntmps135
  go_wp2
  refine wp_loop_once ?_
  go_wp2_with (go_at_call 160; refine Calls.mono C1.out ?_; rintro e w1 ⟨rfl, hS⟩; have HS := Lib.hid hS; clear hS)
  refine wp_loop_once ?_
  go_wp2
  go_end0
  exact ⟨rfl, HS.out⟩

set_option maxHeartbeats 400000 in
theorem sortstable_any (w W : World) (N : Nat → Prop) (g cap C n : Nat) (q : List Pq) (hlow : ∀ i, i < B → N i) (hN : N g) (hgC : g ≠ C) (h : SSt B w N g cap C q W) (hq : q.length = n) (hn : n < 20) :
    Calls Tryz.prog 96 #[.slice (some ⟨g, 0, none⟩) n cap, cmpF C] W fun e w' => e = .returned (.tuple #[]) ∧ SSt B w N g cap C (sortQ q) w' := by
  have HC := Lib.hid (stable_any w W N g cap C n q hlow hN hgC h hq hn)
  clear h hlow hq
  go_enter Tryz.func96, Tryz.ntmps96
  go_wp2_with (go_at_call 135; refine Calls.mono HC.out ?_; rintro e w1 ⟨rfl, hS⟩; have HS := Lib.hid hS; clear hS)
  go_end0
  exact ⟨rfl, HS.out⟩

set_option maxHeartbeats 400000 in
theorem clip_any (w : World) (g cap n : Nat) (h : n ≤ cap) :
    Calls Tryz.prog 70 #[.slice (some ⟨g, 0, none⟩) n cap] w fun e w' => e = .returned (.slice (some ⟨g, 0, none⟩) n n) ∧ w = w' := by
  have h2 : (n : Int) ≤ (cap : Int) := by omega
  go_enter Tryz.func70, Tryz.ntmps70
  go_wp2
  go_ret
  exact ⟨rfl, rfl⟩
end Go.Proofs.YtmheonaddidbjaaGreatDoor
