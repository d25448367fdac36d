/- sorted, of types by their texts. -/
import Derived.Test.YtmheonaddidbjaaGreatDoorCp
set_option linter.unusedVariables false
set_option linter.unusedSimpArgs false
namespace Go.Proofs.YtmheonaddidbjaaGreatDoor
open Go.RowKit

variable {B : Nat}

def SdPost (B : Nat) (w : World) (g cap : Nat) (q : List Pq) (e : Ending) (w' : World) : Prop :=
  e = .returned (.slice (some ⟨g, 0, none⟩) (compQ (sortQ q)).length cap) ∧ (∃ cur, Rw w' g cap (compQ (sortQ q)) cur) ∧ Up B (· = g) w w'

set_option maxRecDepth 100000 in
set_option maxHeartbeats 1000000 in
theorem sorted_any (w : World) (N : Nat → Prop) (g cap n : Nat) (q : List Pq) (cur : List Value) (hlow : ∀ i, i < B → N i) (hN : N g) (hr : Rw w g cap q cur) (hT : TQ w N q) (hf : ∀ p ∈ q, Fine p.1) (hlt : ∀ i, N i → i < w.heap.size) (hq : q.length = n) (hn : n < 20) (hcap : cap ≤ 9223372036854775807) :
    Calls Tryz.prog 66 #[.slice (some ⟨g, 0, none⟩) n cap, byV] w (SdPost B w g cap q) := by
  have hgw := ltOf hr.at_
  have hO : Old w (w.alloc (.cells #[byV] 148)) := (Fr.refl _ _).alloc _
  have h0 : SSt B w N g cap w.heap.size q (w.alloc (.cells #[byV] 148)) :=
    ⟨⟨cur, hr.up (B := B) hO.up (fun f => f)⟩, (Fr.refl _ _).up.old hO, hT.up (B := B) hO.up (fun _ f => f.elim) (fun _ _ f => f), hf, heapNew w _, fun i hi => Nat.lt_of_lt_of_le (hlt i hi) hO.size⟩
  have H0 := Lib.hid h0; clear h0
  have hgC : g ≠ w.heap.size := by omega
  have hp := (sortQ_perm q).length_eq
  have C1 := Lib.hid (sortstable_any w _ N g cap w.heap.size n q hlow hN hgC H0.out hq hn)
  have hc2 : ∀ W', SSt B w N g cap w.heap.size (sortQ q) W' → Calls Tryz.prog 98 #[.slice (some ⟨g, 0, none⟩) n cap, eqF w.heap.size] W' (CompPost B w N g cap w.heap.size (sortQ q)) := fun W' h => compact_any w W' N g cap w.heap.size n (sortQ q) hlow hN hgC h (by rw [hp, hq]) (by omega) hcap
  have C2 := Lib.hid hc2
  clear hc2 hp hlow hr hT hf hlt hq
  have hmf : ∀ (fn : Fn) (first cap : Array Value) (w : World), (Instr.makeFunc fn first cap).run Tryz.prog w = .ok (.func fn first cap) w := fun _ _ _ _ => rfl
  go_enter Tryz.func66, Tryz.ntmps66
  go_wp2_with (first | (go_at_call 96; refine Calls.mono C1.out ?_; rintro e w1 ⟨rfl, hS⟩; have HS := Lib.hid hS; clear hS) | (go_at_call 98; refine Calls.mono (C2.out _ HS.out) ?_; rintro e w2 ⟨rfl, hS2⟩; have HS2 := Lib.hid hS2; clear hS2))
  go_ret
  exact ⟨rfl, HS2.out.rw_, HS2.out.up⟩
end Go.Proofs.YtmheonaddidbjaaGreatDoor
