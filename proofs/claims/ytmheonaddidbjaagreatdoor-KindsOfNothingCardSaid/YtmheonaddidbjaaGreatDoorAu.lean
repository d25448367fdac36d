/- Arena.Union. -/
import Derived.Test.YtmheonaddidbjaaGreatDoorAl
set_option linter.unusedVariables false
set_option linter.unusedSimpArgs false
namespace Go.Proofs.YtmheonaddidbjaaGreatDoor
open Go.RowKit

variable {B : Nat}

theorem row_rd {w : World} {N : Nat → Prop} {base e n : Nat} {v : Value} {xs : List Value} (h : w.ownsRow base e 1 v n xs) (hN : ∀ i, N i → i < base) : Rd w N e v n xs := by
  refine ⟨by simpa using h.1, ?_⟩
  rcases h.2 with ⟨rfl, rfl⟩ | ⟨g, cap, cur, rfl, h1, h2, h3, _, _, h6⟩
  · exact Or.inl ⟨rfl, _, _, rfl⟩
  · exact Or.inr ⟨g, cap, cur, rfl, h2, fun f => by (have := hN g f; omega), h3, by simpa using h6⟩

/-- What Union answers. -/
def AUPost (B : Nat) (w : World) (A : Nat) (N : Nat → Prop) (ts fl : List Ty) (e : Ending) (w' : World) : Prop :=
  ∃ (q : List (Ty × Nat)) (r : Nat) (N' : Nat → Prop), q.map (·.1) = fl ∧ e = .returned (.tuple #[.int .i64 (r : Int), .int .i64 0]) ∧ idx (tx (unionQ q)) (layP ts (unionQ q)) = some r ∧ Ar B w' A N' (layP ts (unionQ q)) ∧ Up B (Own B N) w w' ∧ ∀ i, N' i → N i ∨ w.heap.size ≤ i

set_option maxHeartbeats 1000000 in
theorem aunion_in {A : Nat} {N : Nat → Prop} {ts : List Ty} {tv mv : Value} {bs : List Nat} {kvs : List (ByteArray × Value)} (w : World) (h : AR B w A N ts tv mv bs kvs) (v : Value) (n : Nat) (ids : List Int)
    (hr : Rd w (fun _ => False) 3 v n (ids.map (Value.int .i64))) (hin : ∀ i ∈ ids, 0 ≤ i ∧ i < ts.length) (hn : n ≤ 1099511627776)
    (hf : ∀ t ∈ (pick ts ids).flatMap flatT, Fine t ∧ Ask t) (hne : (pick ts ids).flatMap flatT ≠ []) (hlen : ((pick ts ids).flatMap flatT).length < 20)
    (hu : ∀ q : List (Ty × Nat), q.map (·.1) = (pick ts ids).flatMap flatT → LayOk (unionQ q) ∧ tsz (unionQ q) ≤ 500 ∧ (layP ts (unionQ q)).length ≤ 1099511627776) :
    Calls Tryz.prog 16 #[ptr A, v] w (AUPost B w A N ts ((pick ts ids).flatMap flatT)) := by
  obtain ⟨a, c, rfl⟩ := hr.slice
  have HALL := Lib.hid (all_in w h _ n ids hr hin hn)
  have HA := Lib.hid h; clear h
  have hU : ∀ w1 sv pbs, w1.ownsRow w.heap.size 74 1 sv n (pbs.map ptr) → TYs w1 N (pick ts ids) pbs → Old w w1 → Calls Tryz.prog 42 #[sv] w1 (UnPost B w1 N ((pick ts ids).flatMap flatT)) := fun w1 sv pbs h1 h2 h3 => by
    have hrd := row_rd h1 HA.out.lt
    obtain ⟨a1, c1, rfl⟩ := hrd.slice
    exact union_any w1 N a1 n c1 _ pbs HA.out.low (fun i hi => Nat.lt_of_lt_of_le (HA.out.lt i hi) h3.size) hrd h2 hf hne hlen hn
  have HU := Lib.hid hU; clear hU
  have HQ := Lib.hid hu; clear hu hr hin hf hne hlen
  generalize (pick ts ids).flatMap flatT = fl at *
  go_enter Tryz.func16, Tryz.ntmps16
  go_wp2_with (first
    | (go_at_call 32; refine Calls.mono HALL.out ?_; rintro e w1 ⟨sv, pbs, rfl, h1, h2, h3⟩; have H1 := Lib.hid h1; have H2 := Lib.hid h2; have H3 := Lib.hid h3; clear h1 h2 h3)
    | (go_at_call 42; refine Calls.mono (HU.out _ _ _ H1.out H2.out H3.out) ?_; rintro e w2 ⟨q, b, hq, rfl, hT, hS⟩; have HQ1 := Lib.hid hq; have HT := Lib.hid hT; have HS := Lib.hid hS; clear hq hT hS)
    | (go_at_call 34; refine Calls.mono (keep_ok w2 A N ts (unionQ q) b (HQ.out q HQ1.out).1 ⟨_, _, _, _, (HA.out.same (H3.out.up)).same HS.out⟩ HT.out (HQ.out q HQ1.out).2.1 (HQ.out q HQ1.out).2.2) ?_; rintro e w3 ⟨r, N', rfl, k1, k2, k3, k4⟩; have K1 := Lib.hid k1; have K2 := Lib.hid k2; have K3 := Lib.hid k3; have K4 := Lib.hid k4; clear k1 k2 k3 k4))
  go_ret2
  have hsz : w.heap.size ≤ w2.heap.size := Nat.le_trans H3.out.size HS.out.size
  exact ⟨q, r, N', HQ1.out, rfl, K1.out, K2.out, ((H3.out.up (B := B)).same HS.out).mono (fun _ _ f => f.elim) |>.trans K3.out (fun _ _ f => f), fun i hi => (K4.out i hi).imp id (fun h => Nat.le_trans hsz h)⟩
end Go.Proofs.YtmheonaddidbjaaGreatDoor
