/- HeapBehind. -/
import Derived.Test.YtlimgecmolhdhaaDoorBs
set_option linter.unusedVariables false
set_option linter.unusedSimpArgs false
namespace Go.Proofs.YtlimgecmolhdhaaDoor
open Go.RowKit

set_option maxRecDepth 100000 in
set_option maxHeartbeats 2000000 in
theorem behind_law (w : World) (n : Int) (key : ByteArray) (hk : key.size ≤ 9223372036854775807) :
    Calls Tryd.prog 4 #[.int .i64 n, .string key] w fun e w' => e = .returned (.bool true) ∧ Old w w' := by
  go_enter Tryd.func4, Tryd.ntmps4
  by_cases hout : n < 1 ∨ 60 < n ∨ 100 < key.size
  · rcases hout with h | h | h
    all_goals (go_wp2_with (first | (go_at_call 8; refine (new_ok 5000 _ (by decide) (by decide)).mono ?_; rintro e w1 ⟨rfl, rfl⟩) | (go_at_call 7; refine (known_true _).mono ?_; rintro e w' ⟨rfl, hO⟩)))
    all_goals (first | (go_ret; exact ⟨rfl, ((Fr.refl _ _).alloc _).old hO⟩) | omega)
  · have hn0 : 1 ≤ n := by omega
    have hn1 : n ≤ 60 := by omega
    have hk1 : key.size ≤ 100 := by omega
    clear hout
    obtain ⟨N, rfl⟩ := Int.eq_ofNat_of_zero_le (show 0 ≤ n by omega)
    have hI0 := Lib.hid (BH.start w key)
    go_wp2_with (go_at_call 8; refine (new_ok 5000 _ (by decide) (by decide)).mono ?_; rintro e w1 ⟨rfl, rfl⟩)
    go_loopw [7, 8] (fun s7 s8 wr => ∃ (j : Nat) (bs : Nat → Nat) (tv : Value), s7 = .int .i64 ((j : Int) - 1) ∧ s8 = .int .i64 ((j : Nat) : Int) ∧ j ≤ N ∧ BH w wr w.heap.size bs j j key 0 tv) (fun _ s8 _ => N - (intOf s8).toNat)
    case atStart => exact ⟨0, _, _, rfl, rfl, Nat.zero_le _, hI0.out⟩
    case round =>
      obtain ⟨j, bs, tv, rfl, rfl, hjN, hI⟩ := hrel
      clear hI0
      rcases Nat.lt_or_ge j N with hlt | hge
      · have HI := Lib.hid hI; clear hI
        go_wp2_with (go_at_call 10; refine ((HI.out).make (by omega)).mono ?_; rintro e w2 ⟨rfl, bs', tv', hI2⟩)
        exact ⟨⟨j + 1, bs', tv', by congr 1; omega, by push_cast; rfl, by omega, hI2⟩, by simp [intOf]; omega⟩
      · have hjN' : j = N := by omega
        subst hjN'
        have HI := Lib.hid hI; clear hI
        go_wp2
        go_loopw [9] (fun s9 wr => ∃ (i : Nat), s9 = .int .i64 ((i : Nat) : Int) ∧ i ≤ j ∧ BH w wr w.heap.size bs j (j + i) key i tv) (fun s9 _ => j - (intOf s9).toNat)
        case atStart => exact ⟨0, rfl, Nat.zero_le _, HI.out⟩
        case round =>
          obtain ⟨i, rfl, hij, hI⟩ := hrel
          clear HI
          have HI := Lib.hid hI; clear hI
          rcases Nat.lt_or_ge i j with hlt | hge
          · go_wp2_with (go_at_call 11; refine ((HI.out).set hlt (by omega) (by omega)).mono ?_; rintro e w2 ⟨rfl, hI2⟩)
            have HI2 := Lib.hid hI2; clear hI2 HI
            go_loopw [10] (fun s10 wr => ∃ (k : Nat), s10 = .int .i64 ((k : Nat) : Int) ∧ k ≤ j ∧ BH w wr w.heap.size bs j (j + i + 1) key (i + 1) tv) (fun s10 _ => j - (intOf s10).toNat)
            case atStart => exact ⟨0, rfl, Nat.zero_le _, HI2.out⟩
            case round =>
              obtain ⟨k, rfl, hkj, hI⟩ := hrel
              clear HI2
              have HI := Lib.hid hI; clear hI
              rcases Nat.lt_or_ge k j with hlt2 | hge2
              · rcases Nat.lt_or_ge i k with hik | hik
                · have hget := (HI.out).get (Nat.succ_pos i) hlt2 (by omega)
                  rw [show min (i + 1 - 1) k = i by omega] at hget
                  have HG := Lib.hid hget; clear hget
                  go_wp2_with (go_at_call 12; refine Calls.mono (HG.out) ?_; rintro e w3 ⟨rfl, hO3⟩)
                  exact ⟨⟨k + 1, by push_cast; rfl, by omega, ((HI.out).later hO3).later ((Fr.refl _ _).alloc _)⟩, by simp [intOf]; omega⟩
                · have hget := (HI.out).get (Nat.succ_pos i) hlt2 (by omega)
                  rw [show min (i + 1 - 1) k = k by omega] at hget
                  have HG := Lib.hid hget; clear hget
                  go_wp2_with (go_at_call 12; refine Calls.mono (HG.out) ?_; rintro e w3 ⟨rfl, hO3⟩)
                  exact ⟨⟨k + 1, by push_cast; rfl, by omega, ((HI.out).later hO3).later ((Fr.refl _ _).alloc _)⟩, by simp [intOf]; omega⟩
              · have hkj' : k = j := by omega
                subst hkj'
                go_wp2
                exact ⟨⟨i + 1, by push_cast; rfl, by omega, HI.out⟩, by simp [intOf]; omega⟩
          · have hij' : i = j := by omega
            subst hij'
            go_wp2_with (first | (go_at_call 9; refine (used_any _ _ _ _ _ HI.out.hp).mono ?_; rintro e w3 ⟨rfl, rfl⟩) | (go_at_call 7; refine (known_true _).mono ?_; rintro e w' ⟨rfl, hO⟩))
            go_ret
            exact ⟨rfl, (HI.out).old.old hO⟩
end Go.Proofs.YtlimgecmolhdhaaDoor
