/- The reference's digits. -/
import Derived.Test.YtlimgecmolhdhaaGreatDoorFr
import Derived.Lib.ItoaNum
import Derived.Laws.IdiomStrings
set_option linter.unusedVariables false
set_option linter.unusedSimpArgs false
namespace Go.Proofs.YtlimgecmolhdhaaGreatDoor
open Go.RowKit

theorem nDigits_le : ∀ (k u : Nat), u < 10 ^ (k + 1) → Lib.nDigits u ≤ k + 1
  | 0, u, h => by rw [Lib.nDigits_small (by simpa using h)]; omega
  | k + 1, u, h => by
    by_cases h1 : u < 10
    · rw [Lib.nDigits_small h1]; omega
    · rw [Lib.nDigits_big h1]
      have := nDigits_le k (u / 10) (by rw [Nat.pow_succ] at h; omega)
      omega

theorem digit_u8 (u : Nat) : (UInt8.ofNat (48 + u % 10)).toNat = 48 + u % 10 := by
  simp [UInt8.ofNat, UInt8.toNat]; omega

theorem cons_bytes (c : UInt8) (S : List UInt8) : ((⟨#[c]⟩ : ByteArray) ++ (⟨S.toArray⟩ : ByteArray)) = ⟨(c :: S).toArray⟩ := by
  apply ByteArray.ext
  rw [ByteArray.data_append]
  simp
theorem ret_str {a b : ByteArray} (h : a = b) : Ending.returned (.string a) = .returned (.string b) := by rw [h]

set_option maxRecDepth 100000 in
set_option maxHeartbeats 1000000 in
theorem rnat_any (v : Nat) (hv : v < 18446744073709551616) (w : World) :
    Calls Tryz.prog 88 #[.int .u64 v] w fun e w' => e = .returned (.string ⟨(Lib.decDigits v).toArray⟩) ∧ Old w w' := by
  have hD : (Lib.decDigits v).length ≤ 20 := by rw [Lib.decDigits_length]; exact nDigits_le 19 v (by omega)
  have HV : Hid (v < 18446744073709551616) := Lib.hid hv; clear hv
  go_enter Tryz.func88, Tryz.ntmps88
  go_wp2
  go_loopw [0, 3] (fun t0 t3 wr => ∃ (u : Nat) (S : List UInt8), Hid (u ≤ v) ∧ t0 = .int .u64 u ∧ t3 = .string ⟨S.toArray⟩ ∧ Hid (Lib.decDigits v = Lib.decDigits u ++ S) ∧ Hid (Old w wr)) (fun t0 _ _ => (intOf t0).toNat)
  case atStart => exact ⟨v, [], Lib.hid (Nat.le_refl _), rfl, rfl, Lib.hid (by simp), Lib.hid (Fr.refl _ _)⟩
  case round =>
    obtain ⟨u, S, hu, rfl, rfl, hS, hO⟩ := hrel
    have hcv : (convert 70 9 (.slice (some ⟨wr.heap.size, 0, none⟩) 1 1)).run Tryz.prog (wr.alloc (.cells #[.int .u8 (48 + (u : Int) % 10)] 5)) = .ok (.string ⟨#[UInt8.ofNat (48 + u % 10)]⟩) (wr.alloc (.cells #[.int .u8 (48 + (u : Int) % 10)] 5)) := run_convert_bytes_back (P := Tryz.prog) (wr.alloc (.cells #[.int .u8 (48 + (u : Int) % 10)] 5)) 70 9 5 ⟨wr.heap.size, 0, none⟩ 1 [UInt8.ofNat (48 + u % 10)] Tryz.underlying70 Tryz.underlying5 Tryz.underlying9 (fun j hj => by
      have : j = 0 := by simpa using hj
      subst this
      simp [Addr.add, digit_u8]; omega)
    have hlen : S.length ≤ 20 := by
      have := congrArg List.length hS.out
      rw [List.length_append] at this
      omega
    have hb : ((⟨S.toArray⟩ : ByteArray)).size ≤ 20 := by show S.toArray.size ≤ 20; simpa using hlen
    have hu2 : u < 18446744073709551616 := Nat.lt_of_le_of_lt hu.out HV.out
    generalize hcq : UInt8.ofNat (48 + u % 10) = c at hcv
    have HCQ := Lib.hid hcq; clear hcq
    by_cases h : u < 10
    · have h0 : ((u : Int) / 10 == 0) = true := by simp; omega
      go_wp2
      go_ret
      refine ⟨ret_str ?_, hO.out.alloc _⟩
      rw [cons_bytes, hS.out, Lib.decDigits_one h, ← HCQ.out, Nat.mod_eq_of_lt h]
      rfl
    · have h0 : ((u : Int) / 10 == 0) = false := by simp; omega
      go_wp2
      go_roundw
      case rel =>
        refine ⟨u / 10, c :: S, Lib.hid (Nat.le_trans (Nat.div_le_self _ _) hu.out), rfl, by rw [cons_bytes], Lib.hid ?_, Lib.hid (hO.out.alloc _)⟩
        rw [hS.out, ← HCQ.out]
        conv => lhs; rw [Lib.decDigits, dif_neg h]
        simp
      case measure => simp [intOf]; omega

set_option maxRecDepth 100000 in
set_option maxHeartbeats 1000000 in
theorem rdigits_any (n : Int) (h0 : -9223372036854775808 ≤ n) (h1 : n ≤ 9223372036854775807) (w : World) :
    Calls Tryz.prog 77 #[.int .i64 n] w fun e w' => e = .returned (.string ⟨(Lib.itoa n).toArray⟩) ∧ Old w w' := by
  by_cases hn : n < 0
  · have hd : ∀ w, Calls Tryz.prog 88 #[.int .u64 (-(n + 1) + 1)] w fun e w' => e = .returned (.string ⟨(Lib.decDigits n.natAbs).toArray⟩) ∧ Old w w' := fun w => by
      rw [show -(n + 1) + 1 = (n.natAbs : Int) by omega]; exact rnat_any n.natAbs (by omega) w
    have hl : ((⟨(Lib.decDigits n.natAbs).toArray⟩ : ByteArray)).size ≤ 20 := by
      show (Lib.decDigits n.natAbs).toArray.size ≤ 20
      simp only [List.size_toArray]
      rw [Lib.decDigits_length]; exact nDigits_le 19 _ (by omega)
    have hl2 : (Lib.decDigits n.natAbs).length ≤ 20 := by rw [Lib.decDigits_length]; exact nDigits_le 19 _ (by omega)
    have he : Hid ((⟨(Lib.itoa n).toArray⟩ : ByteArray) = (⟨#[45]⟩ : ByteArray) ++ ⟨(Lib.decDigits n.natAbs).toArray⟩) := Lib.hid (by rw [cons_bytes]; unfold Lib.itoa; rw [if_pos hn])
    generalize Lib.decDigits n.natAbs = D at *
    go_enter Tryz.func77, Tryz.ntmps77
    go_wp2_with (go_at_call 88; (with_reducible refine (hd _).mono ?_); rintro e w1 ⟨rfl, hO⟩)
    go_ret
    exact ⟨ret_str he.out.symm, hO⟩
  · have hd : ∀ w, Calls Tryz.prog 88 #[.int .u64 n] w fun e w' => e = .returned (.string ⟨(Lib.itoa n).toArray⟩) ∧ Old w w' := fun w => by
      have := rnat_any n.toNat (by omega) w
      rw [show ((n.toNat : Nat) : Int) = n by omega] at this
      unfold Lib.itoa; rw [if_neg hn]; exact this
    go_enter Tryz.func77, Tryz.ntmps77
    go_wp2_with (go_at_call 88; (with_reducible refine (hd _).mono ?_); rintro e w1 ⟨rfl, hO⟩)
    go_ret
    exact ⟨rfl, hO⟩
end Go.Proofs.YtlimgecmolhdhaaGreatDoor
