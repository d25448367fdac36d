/- The closures of union and sorted. -/
import Derived.Test.YtmheonaddidbjaaGreatDoorRn
set_option linter.unusedVariables false
set_option linter.unusedSimpArgs false
namespace Go.Proofs.YtmheonaddidbjaaGreatDoor
open Go.RowKit

variable {B : Nat}

/-- What is asked of a type that is sorted. -/
def Fine (t : Ty) : Prop := TextOk t ∧ (tx t).length ≤ 1099511627776
def key (t : Ty) : Bs := rndT [15] t
theorem toList_S (l : Bs) : (S l).toList = l := by simp [S]

abbrev byV : Value := .func (.func 68) #[] #[]

set_option maxHeartbeats 400000 in
theorem by_any (w : World) (N : Nat → Prop) (t : Ty) (b : Nat) (hf : Fine t) (hlow : ∀ i, i < B → N i) (hT : TY w N t b) (hN : ∀ i, N i → i < w.heap.size) :
    Calls Tryz.prog 68 #[ptr b] w fun e w' => e = .returned (strV (key t)) ∧ Same B w w' := by
  have hO : Old w (w.alloc (.cells #[.int .i64 15] 3)) := (Fr.refl _ _).alloc _
  have hr : Rd (w.alloc (.cells #[.int .i64 15] 3)) N 3 (.slice (some ⟨w.heap.size, 0, none⟩) 1 1) 1 (([15] : List Int).map (Value.int .i64)) :=
    ⟨rfl, Or.inr ⟨_, _, _, rfl, heapNew w _, fun f => by (have := hN _ f; omega), Nat.le_refl _, rfl⟩⟩
  have HC := Lib.hid (round_any (B := B) _ N t b _ 1 [15] hf.1 hlow (hT.same (B := B) hO.up) hr (by decide) hf.2)
  clear hr hT hf hlow
  go_enter Tryz.func68, Tryz.ntmps68
  go_wp2_with (go_at_call 69; refine Calls.mono HC.out ?_; rintro e w1 ⟨rfl, hS⟩)
  go_ret
  exact ⟨rfl, hO.up.same hS⟩

set_option maxHeartbeats 1000000 in
theorem cmp_any (w : World) (N : Nat → Prop) (t u : Ty) (b c C : Nat) (hf : Fine t) (hg : Fine u) (hlow : ∀ i, i < B → N i) (hT : TY w N t b) (hU : TY w N u c) (hN : ∀ i, N i → i < w.heap.size)
    (hC : w.heap[C]? = some (.cells #[byV] 148 (0, 0))) :
    Calls Tryz.prog 97 #[ptr b, ptr c, ptr C] w fun e w' => e = .returned (.int .i64 (cmpV (key t) (key u))) ∧ Same B w w' := by
  have h1 : ∀ W, Same B w W → Calls Tryz.prog 68 #[ptr b] W fun e w' => e = .returned (strV (key t)) ∧ Same B W w' := fun W hS => by_any W N t b hf hlow (hT.same hS) (fun i hi => Nat.lt_of_lt_of_le (hN i hi) hS.size)
  have h2 : ∀ W, Same B w W → Calls Tryz.prog 68 #[ptr c] W fun e w' => e = .returned (strV (key u)) ∧ Same B W w' := fun W hS => by_any W N u c hg hlow (hU.same hS) (fun i hi => Nat.lt_of_lt_of_le (hN i hi) hS.size)
  have H1 := Lib.hid h1; clear h1
  have H2 := Lib.hid h2; clear h2 hT hU hlow hN hf hg
  have HC := Lib.hid hC; clear hC
  have cC := cellOf HC.out 0 _ rfl
  have hS0 := Lib.hid ((Fr.refl (fun _ => False) w).drew.up (B := B))
  have hk := cmp_string (S (key t)) (S (key u))
  rw [toList_S, toList_S] at hk
  have HK := Lib.hid hk; clear hk
  go_enter Tryz.func97, Tryz.ntmps97
  go_wp2_with fail
  go_region_with (first | (go_at_call 68; first | ((with_reducible refine Calls.mono (H1.out _ ?_) ?_); (exact hS0.out); rintro e w1 ⟨rfl, hS1⟩; have hS01 := Lib.hid (hS0.out.same hS1); have cC1 := cellOf (hS01.out.at HC.out (fun f => f) (fun c e => by cases e)) 0 _ rfl) | ((with_reducible refine Calls.mono (H2.out _ ?_) ?_); (exact hS01.out); rintro e w2 ⟨rfl, hS2⟩; have hS02 := Lib.hid (hS01.out.same hS2))) | (go_at_call 78; refine Calls.mono (HK.out _) ?_; rintro e w3 ⟨rfl, rfl⟩))
  all_goals (go_wp2_with fail; go_ret; exact ⟨rfl, hS02.out⟩)

set_option maxHeartbeats 1000000 in
theorem eq_any (w : World) (N : Nat → Prop) (t u : Ty) (b c C : Nat) (hf : Fine t) (hg : Fine u) (hlow : ∀ i, i < B → N i) (hT : TY w N t b) (hU : TY w N u c) (hN : ∀ i, N i → i < w.heap.size)
    (hC : w.heap[C]? = some (.cells #[byV] 148 (0, 0))) :
    Calls Tryz.prog 99 #[ptr b, ptr c, ptr C] w fun e w' => e = .returned (.bool (key t == key u)) ∧ Same B w w' := by
  have h1 : ∀ W, Same B w W → Calls Tryz.prog 68 #[ptr b] W fun e w' => e = .returned (strV (key t)) ∧ Same B W w' := fun W hS => by_any W N t b hf hlow (hT.same hS) (fun i hi => Nat.lt_of_lt_of_le (hN i hi) hS.size)
  have h2 : ∀ W, Same B w W → Calls Tryz.prog 68 #[ptr c] W fun e w' => e = .returned (strV (key u)) ∧ Same B W w' := fun W hS => by_any W N u c hg hlow (hU.same hS) (fun i hi => Nat.lt_of_lt_of_le (hN i hi) hS.size)
  have H1 := Lib.hid h1; clear h1
  have H2 := Lib.hid h2; clear h2 hT hU hlow hN hf hg
  have HC := Lib.hid hC; clear hC
  have cC := cellOf HC.out 0 _ rfl
  have hS0 := Lib.hid ((Fr.refl (fun _ => False) w).drew.up (B := B))
  have hk : (S (key t)).toList = key t := toList_S _
  have hk2 : (S (key u)).toList = key u := toList_S _
  go_enter Tryz.func99, Tryz.ntmps99
  go_wp2_with fail
  go_region_with (go_at_call 68; first | ((with_reducible refine Calls.mono (H1.out _ ?_) ?_); (exact hS0.out); rintro e w1 ⟨rfl, hS1⟩; have hS01 := Lib.hid (hS0.out.same hS1); have cC1 := cellOf (hS01.out.at HC.out (fun f => f) (fun c e => by cases e)) 0 _ rfl) | ((with_reducible refine Calls.mono (H2.out _ ?_) ?_); (exact hS01.out); rintro e w2 ⟨rfl, hS2⟩; have hS02 := Lib.hid (hS01.out.same hS2)))
  all_goals (go_wp2_with fail; go_ret; exact ⟨rfl, hS02.out⟩)
end Go.Proofs.YtmheonaddidbjaaGreatDoor
