/- heavy, of one step. -/
import Derived.Test.YtmheonaddidbjaaGreatDoorFr
set_option linter.unusedVariables false
set_option linter.unusedSimpArgs false
namespace Go.Proofs.YtmheonaddidbjaaGreatDoor
open Go.RowKit

/-- A step's cells. -/
abbrev stepC (k tk tn id nd : Int) (tt : ByteArray) (p n m i v q : Value) : Array Value := #[.int .i64 k, .int .i64 tk, .int .i64 tn, .string tt, p, n, m, .int .i64 id, i, .int .i64 nd, v, q]

/-- Cells, size apart, that hold strings. -/
def Strs (w : World) (a : Option Addr) (n size : Nat) : Prop := ∀ i, i < n → ∃ b s, a = some b ∧ w.cell? (b.add (i * size)) = some (.string s) ∧ b.block < w.heap.size
theorem Strs.old {w w' : World} {a : Option Addr} {n size : Nat} (h : Strs w a n size) (hO : Old w w') : Strs w' a n size := fun i hi => by
  obtain ⟨b, s, e, hc, hl⟩ := h i hi
  refine ⟨b, s, e, ?_, Nat.lt_of_lt_of_le hl hO.size⟩
  have := hO.block b.block hl (fun f => f)
  unfold World.cell? at hc ⊢
  have e2 : (b.add (i * size)).block = b.block := by unfold Addr.add; split <;> rfl
  rw [e2] at hc ⊢
  rw [this]; exact hc

set_option maxRecDepth 100000 in
set_option maxHeartbeats 1000000 in
theorem heavy_any (w : World) (R : Nat) (k tk tn id nd : Int) (tt : ByteArray) (pa na ma ia va qa : Option Addr) (pn pc nn nc mn mc in_ ic vn vc qn qc : Nat)
    (hR : w.heap[R]? = some (.cells (stepC k tk tn id nd tt (.slice pa pn pc) (.slice na nn nc) (.slice ma mn mc) (.slice ia in_ ic) (.slice va vn vc) (.slice qa qn qc)) 44 (0, 0)))
    (hN : Strs w na nn 1) (hQ : Strs w qa qn 3) (hn : nn ≤ 9223372036854775807) (hq : qn ≤ 9223372036854775807) :
    Calls Tryz.prog 15 #[.slice (some ⟨R, 0, none⟩) 1 1] w fun e w' => ∃ b, e = .returned (.bool b) ∧ Old w w' := by
  have HR := Lib.hid hR; clear hR
  have HN := Lib.hid hN; clear hN
  have HQ := Lib.hid hQ; clear hQ
  go_enter Tryz.func15, Tryz.ntmps15
  go_wp2
  go_loopw [3, 4] (fun s3 s4 wr => ∃ (m : Int) (j : Nat), s3 = .int .i64 m ∧ s4 = .int .i64 (j : Int) ∧ j ≤ 1 ∧ Old w wr) (fun _ s4 _ => 1 - (intOf s4).toNat)
  case atStart => exact ⟨0, 0, rfl, rfl, by decide, Fr.refl _ _⟩
  case round =>
    obtain ⟨m, j, rfl, rfl, hj, hO⟩ := hrel
    rcases (show j = 0 ∨ j = 1 by omega) with rfl | rfl
    · have hr := hO.at HR.out (fun f => f)
      have c0 := cellOf hr 0 _ rfl
      have c1 := cellOf hr 1 _ rfl
      have c2 := cellOf hr 2 _ rfl
      have c3 := cellOf hr 3 _ rfl
      have c4 := cellOf hr 4 _ rfl
      have c5 := cellOf hr 5 _ rfl
      have c6 := cellOf hr 6 _ rfl
      have c7 := cellOf hr 7 _ rfl
      have c8 := cellOf hr 8 _ rfl
      have c9 := cellOf hr 9 _ rfl
      have c10 := cellOf hr 10 _ rfl
      have c11 := cellOf hr 11 _ rfl
      have hlR := ltOf hr
      have HO := Lib.hid hO; clear hO hr
      go_wp2
      have hx := heapNew wr (.cells (stepC k tk tn id nd tt (.slice pa pn pc) (.slice na nn nc) (.slice ma mn mc) (.slice ia in_ ic) (.slice va vn vc) (.slice qa qn qc)) 44)
      have hO2 : Old w (wr.alloc (.cells (stepC k tk tn id nd tt (.slice pa pn pc) (.slice na nn nc) (.slice ma mn mc) (.slice ia in_ ic) (.slice va vn vc) (.slice qa qn qc)) 44)) := HO.out.alloc _
      clear c0 c1 c2 c3 c4 c5 c6 c7 c8 c9 c10 c11
      generalize wr.alloc (.cells (stepC k tk tn id nd tt (.slice pa pn pc) (.slice na nn nc) (.slice ma mn mc) (.slice ia in_ ic) (.slice va vn vc) (.slice qa qn qc)) 44) = W1 at *
      generalize wr.heap.size = X at *
      have d5 := cellOf hx 5 _ rfl
      have d11 := cellOf hx 11 _ rfl
      have HO2 := Lib.hid hO2; clear hO2 hx HO
      go_loopw [3, 6] (fun s3 s6 wr => wr = W1 ∧ ∃ (m : Int) (j : Nat), s3 = .int .i64 m ∧ s6 = .int .i64 (j : Int) ∧ j ≤ nn) (fun _ s6 _ => nn - (intOf s6).toNat)
      case atStart => exact ⟨rfl, _, 0, rfl, rfl, Nat.zero_le _⟩
      case round =>
        obtain ⟨rfl, m1, j1, rfl, rfl, hj1⟩ := hrel
        rcases Nat.lt_or_ge j1 nn with hlt | hge
        · obtain ⟨ba, s1, rfl, hc, hbl⟩ := HN.out.old HO2.out j1 hlt
          have i0 : (0 : Int) ≤ (j1 : Int) := by omega
          have i1 : (j1 : Int) < (nn : Int) := by omega
          rw [Nat.mul_one] at hc
          by_cases h6 : m1 ≤ 6000
          · go_wp2
            go_roundw
            case rel => exact ⟨(by first | trivial | rfl), _, j1 + 1, rfl, by go_num, by omega⟩
            case measure => simp [intOf]; omega
          · go_wp2
            go_loopw [3, 7] (fun s3 s7 wr' => wr' = wr ∧ ∃ (m : Int) (j : Nat), s3 = .int .i64 m ∧ s7 = .int .i64 (j : Int) ∧ j ≤ qn) (fun _ s7 _ => qn - (intOf s7).toNat)
            case atStart => exact ⟨rfl, _, 0, rfl, rfl, Nat.zero_le _⟩
            case round =>
              obtain ⟨rfl, m2, j2, rfl, rfl, hj2⟩ := hrel
              rcases Nat.lt_or_ge j2 qn with hlt2 | hge2
              · obtain ⟨ba2, s2, rfl, hc2, hbl2⟩ := HQ.out.old HO2.out j2 hlt2
                have i02 : (0 : Int) ≤ (j2 : Int) := by omega
                have i12 : (j2 : Int) < (qn : Int) := by omega
                by_cases h62 : m2 ≤ 6000
                · go_wp2
                  go_roundw
                  case rel => exact ⟨(by first | trivial | rfl), _, j2 + 1, rfl, by go_num, by omega⟩
                  case measure => simp [intOf]; omega
                · have h8 : (6000 : Int) < m2 := by omega
                  go_wp2
                  go_ret
                  first | exact ⟨true, rfl, HO2.out⟩ | (refine ⟨?_, HO2.out⟩; first | rfl | simp | kernel_rfl)
              · have hje2 : j2 = qn := by omega
                subst hje2
                by_cases h8 : (6000 : Int) < m2
                · go_wp2
                  go_ret
                  first | exact ⟨true, rfl, HO2.out⟩ | (refine ⟨?_, HO2.out⟩; first | rfl | simp | kernel_rfl)
                · have h9 : m2 ≤ 6000 := by omega
                  go_wp2
                  go_roundw
                  case rel => exact ⟨_, 1, rfl, by go_num, by omega, HO2.out⟩
                  case measure => simp [intOf]
        · have hje : j1 = nn := by omega
          subst hje
          go_wp2
          go_loopw [3, 7] (fun s3 s7 wr' => wr' = wr ∧ ∃ (m : Int) (j : Nat), s3 = .int .i64 m ∧ s7 = .int .i64 (j : Int) ∧ j ≤ qn) (fun _ s7 _ => qn - (intOf s7).toNat)
          case atStart => exact ⟨rfl, _, 0, rfl, rfl, Nat.zero_le _⟩
          case round =>
            obtain ⟨rfl, m2, j2, rfl, rfl, hj2⟩ := hrel
            rcases Nat.lt_or_ge j2 qn with hlt2 | hge2
            · obtain ⟨ba2, s2, rfl, hc2, hbl2⟩ := HQ.out.old HO2.out j2 hlt2
              have i02 : (0 : Int) ≤ (j2 : Int) := by omega
              have i12 : (j2 : Int) < (qn : Int) := by omega
              by_cases h62 : m2 ≤ 6000
              · go_wp2
                go_roundw
                case rel => exact ⟨(by first | trivial | rfl), _, j2 + 1, rfl, by go_num, by omega⟩
                case measure => simp [intOf]; omega
              · have h8 : (6000 : Int) < m2 := by omega
                go_wp2
                go_ret
                first | exact ⟨true, rfl, HO2.out⟩ | (refine ⟨?_, HO2.out⟩; first | rfl | simp | kernel_rfl)
            · have hje2 : j2 = qn := by omega
              subst hje2
              by_cases h8 : (6000 : Int) < m2
              · go_wp2
                go_ret
                first | exact ⟨true, rfl, HO2.out⟩ | (refine ⟨?_, HO2.out⟩; first | rfl | simp | kernel_rfl)
              · have h9 : m2 ≤ 6000 := by omega
                go_wp2
                go_roundw
                case rel => exact ⟨_, 1, rfl, by go_num, by omega, HO2.out⟩
                case measure => simp [intOf]
    · go_wp2
      go_ret
      exact ⟨_, rfl, hO⟩
end Go.Proofs.YtmheonaddidbjaaGreatDoor
