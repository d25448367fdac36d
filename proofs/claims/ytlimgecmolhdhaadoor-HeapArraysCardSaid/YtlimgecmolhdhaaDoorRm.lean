/- HeapRoom. -/
import Derived.Test.YtlimgecmolhdhaaDoorGd
set_option linter.unusedVariables false
set_option linter.unusedSimpArgs false
namespace Go.Proofs.YtlimgecmolhdhaaDoor
open Go.RowKit

theorem add_block (a : Addr) (i : Nat) : (a.add i).block = a.block := by unfold Addr.add; split <;> rfl
theorem cell_lt {W : World} {a : Addr} {i : Nat} {v : Value} (h : W.cell? (a.add i) = some v) : a.block < W.heap.size := by
  rcases Nat.lt_or_ge a.block W.heap.size with h1 | h1
  · exact h1
  · rw [← add_block a i] at h1
    simp [World.cell?, Array.getElem?_eq_none h1] at h
theorem used_inv' {w W : World} {H m : Nat} {room : Int} (h : HInv w H room (m + 1) W) :
    Calls Tryd.prog 9 #[.pointer (some ⟨H, 0, none⟩)] W fun e W' => e = .returned (.int .i64 ((m : Int) + 1)) ∧ W = W' := used_inv h
theorem used_full {w W : World} {H m : Nat} {room : Int} (h : HInv w H room m W) (hm : (m : Int) = room) :
    Calls Tryd.prog 9 #[.pointer (some ⟨H, 0, none⟩)] W fun e W' => e = .returned (.int .i64 room) ∧ W = W' := by
  have := used_inv h
  rwa [hm] at this
theorem and3 (x : Int) : 0 ≤ bits .and .i64 x 3 ∧ bits .and .i64 x 3 ≤ 3 := by
  show 0 ≤ IntKind.i64.wrap ((BitVec.ofInt 64 x &&& BitVec.ofInt 64 3).toNat : Int) ∧ IntKind.i64.wrap ((BitVec.ofInt 64 x &&& BitVec.ofInt 64 3).toNat : Int) ≤ 3
  have h : (BitVec.ofInt 64 x &&& BitVec.ofInt 64 3).toNat ≤ 3 := by
    rw [BitVec.toNat_and]
    exact Nat.and_le_right
  rw [IntKind.wrap_i64]
  omega

set_option maxRecDepth 100000 in
set_option maxHeartbeats 1000000 in
theorem room_any (w : World) (cells : Int) (A : Option Addr) (n c : Nat) (ls : Nat → Int) (hls : ∀ i, i < n → ∃ ad, A = some ad ∧ ad.block < w.heap.size ∧ w.cell? (ad.add i) = some (.int .i64 (ls i))) :
    Calls Tryd.prog 3 #[.int .i64 cells, .slice A n c] w fun e w' => e = .returned (.bool true) ∧ Old w w' := by
  have HLS := Lib.hid hls; clear hls
  go_enter Tryd.func3, Tryd.ntmps3
  by_cases hout : cells < 0 ∨ 300 < cells ∨ 300 < n
  · rcases hout with h | h | h
    all_goals (go_wp2_with (go_at_call 7; refine (known_true _).mono ?_; rintro e w' ⟨rfl, hO⟩))
    all_goals (first | (go_ret; exact ⟨rfl, hO⟩) | omega)
  · have hc0 : 0 ≤ cells := by omega
    have hc1 : cells ≤ 300 := by omega
    have hn1 : n ≤ 300 := by omega
    clear hout
    have hI0 := HInv.start w cells
    go_wp2_with (go_at_call 8; refine (new_ok cells _ hc0 (by omega)).mono ?_; rintro e w1 ⟨rfl, rfl⟩)
    clear hI0
    have hI0 := Lib.hid (HInv.start w cells)
    go_loopw [7] (fun t wr => ∃ k : Nat, t = .int .i64 k ∧ k ≤ n ∧ HInv w w.heap.size cells (min k cells.toNat) wr) (fun t _ => n - (intOf t).toNat)
    case atStart => exact ⟨0, rfl, Nat.zero_le _, by simpa using hI0.out⟩
    case round =>
      obtain ⟨k, rfl, hkn, hI⟩ := hrel
      clear hI0
      rcases Nat.lt_or_ge k n with hlt | hge
      · obtain ⟨ad, rfl, hb, hcell⟩ := HLS.out k hlt
        have hO : Old w wr := by obtain ⟨_, _, _, _, _, _, _, _, hO⟩ := hI; exact hO
        have hc3 := and3 (ls k)
        have hcell' : wr.cell? (ad.add k) = some (.int .i64 (ls k)) := (World.cell?_of_block (hO.block (ad.add k).block (by rw [add_block]; exact hb) (fun f => f))).trans hcell
        clear hcell
        have hw : 1 ≤ IntKind.i64.wrap (1 + bits .and .i64 (ls k) 3) ∧ IntKind.i64.wrap (1 + bits .and .i64 (ls k) 3) ≤ 4 := by rw [IntKind.wrap_i64]; omega
        replace hw := Lib.hid hw
        clear hc3
        have hp1 : -5 < (ls k).tmod 5 := Int.lt_tmod_of_pos _ (by decide)
        have hp2 : (ls k).tmod 5 < 5 := Int.tmod_lt_of_pos _ (by decide)
        rcases Nat.lt_or_ge k cells.toNat with hm | hm
        · have hmin : min k cells.toNat = k := by omega
          rw [hmin] at hI
          have hm' : (k : Int) < cells := by omega
          go_wp2_with (go_at_call 9; refine (used_inv hI).mono ?_; rintro e w3 ⟨rfl, rfl⟩)
          go_region_with (go_at_call 10; refine (make_good w _ w.heap.size k cells _ _ ?_ hm' ?_ ?_).mono ?_; (exact hw.out); (omega); (exact hI.old ((Fr.refl _ _).drew)); rintro e w2 ⟨rfl, hI2⟩)
          go_wp2_with (first | (go_at_call 9; refine (used_inv' hI2).mono ?_; rintro e w3 ⟨rfl, rfl⟩))
          all_goals exact ⟨⟨k + 1, by push_cast; rfl, by omega, by rw [show min (k + 1) cells.toNat = k + 1 by omega]; exact hI2⟩, by simp [intOf]; omega⟩
        · have hmin : min k cells.toNat = cells.toNat := by omega
          rw [hmin] at hI
          have hme : ((cells.toNat : Nat) : Int) = cells := by omega
          go_wp2_with (go_at_call 9; refine (used_full hI hme).mono ?_; rintro e w3 ⟨rfl, rfl⟩)
          go_region_with (go_at_call 10; refine (make_not w _ w.heap.size cells.toNat cells _ _ ?_ ?_).mono ?_; (omega); (exact hI.old ((Fr.refl _ _).drew)); rintro e w2 ⟨rfl, hI2⟩)
          go_wp2_with (first | (go_at_call 9; refine (used_full hI2 hme).mono ?_; rintro e w3 ⟨rfl, rfl⟩))
          all_goals exact ⟨⟨k + 1, by push_cast; rfl, by omega, by rw [show min (k + 1) cells.toNat = cells.toNat by omega]; exact hI2⟩, by simp [intOf]; omega⟩
      · have hkn' : k = n := by omega
        subst hkn'
        have hmin : ((min k cells.toNat : Nat) : Int) = min cells k := by omega
        have hwr : Old w wr := by obtain ⟨_, _, _, _, _, _, _, _, hO⟩ := hI; exact hO
        go_wp2_with (first | (go_at_call 9; refine (used_inv hI).mono ?_; rintro e w3 ⟨rfl, rfl⟩) | (go_at_call 7; refine (known_true _).mono ?_; rintro e w' ⟨rfl, hO⟩))
        all_goals (go_ret; exact ⟨rfl, hwr.old hO⟩)
end Go.Proofs.YtlimgecmolhdhaaDoor
