/- The reference's runes: shuckref1.Runes. -/
import Derived.Test.YtlimgecmolhdhaaGreatDoorRs
import Derived.Maps.AppendAt
set_option linter.unusedVariables false
set_option linter.unusedSimpArgs false
namespace Go.Proofs.YtlimgecmolhdhaaGreatDoor
open Go.RowKit

theorem infoRow : (Tryz.prog.info? 115).map (fun i => (i.zero, i.size, i.bytes)) = some (some (.agg #[.int .i64 0, .int .i32 0, .int .i64 0, .bool false]), 4, 32) := by kernel_rfl

def rowCells (r : Nat × Nat × Nat × Bool) : List Value := [.int .i64 r.1, .int .i32 r.2.1, .int .i64 r.2.2.1, .bool r.2.2.2]
/-- The cells of the first k rows. -/
def rowsC (l : List UInt8) (k : Nat) : List Value := ((rowsP 0 l).take k).flatMap rowCells
theorem rowsC_succ (l : List UInt8) (k p : Nat) (q : Nat × Nat × Bool) (hk : k < (rowsP 0 l).length) (h : (rowsP 0 l)[k] = (p, q)) : rowsC l (k + 1) = rowsC l k ++ [.int .i64 p, .int .i32 q.1, .int .i64 q.2.1, .bool q.2.2] := by
  unfold rowsC
  rw [List.take_succ_eq_append_getElem hk, List.flatMap_append, h]
  simp [rowCells]

def RunesPost (w : World) (l : List UInt8) (e : Ending) (w' : World) : Prop :=
  ∃ v, e = .returned v ∧ w'.ownsRow w.heap.size 115 4 v (rowsP 0 l).length (rowsC l (rowsP 0 l).length) ∧ Old w w'

theorem news4 (w : World) (a b c d : Value) (t : TypeId) : ∀ j u, [a, b, c, d][j]? = some u → (w.alloc (.cells #[a, b, c, d] t)).cell? (Addr.add ⟨w.heap.size, 0, none⟩ j) = some u
  | 0, u, h => by simpa [Addr.add] using h
  | 1, u, h => by simpa [Addr.add] using h
  | 2, u, h => by simpa [Addr.add] using h
  | 3, u, h => by simpa [Addr.add] using h
  | j + 4, u, h => by simp at h

set_option maxRecDepth 100000 in
set_option maxHeartbeats 2000000 in
theorem rrunes_any (g cap : Nat) (l : List UInt8) (w : World) (hb : BytesAt w g l) (hg : g < w.heap.size) (hm : l.length ≤ 1000000) :
    Calls Tryz.prog 51 #[.slice (some ⟨g, 0, none⟩) l.length cap] w (RunesPost w l) := by
  obtain ⟨i0, hi, hz0, hz1, hz2⟩ := info_parts infoRow
  have HB := Lib.hid hb; clear hb
  go_enter Tryz.func51, Tryz.ntmps51
  go_wp2
  go_loopw [3, 4] (fun v t wr => ∃ (k p : Nat) (V : Value), Hid (Gone l k p) ∧ p ≤ l.length ∧ k ≤ p ∧ t = .int .i64 p ∧ V = v ∧ Hid (wr.ownsRow w.heap.size 115 4 V k (rowsC l k)) ∧ Hid (Old w wr)) (fun _ t _ => l.length - (intOf t).toNat)
  case atStart => exact ⟨0, 0, _, Lib.hid (Gone.start l), Nat.zero_le _, Nat.le_refl _, rfl, rfl, Lib.hid ⟨rfl, Or.inl ⟨rfl, rfl⟩⟩, Lib.hid (Fr.refl _ _)⟩
  case round =>
    obtain ⟨k, p, v, hG, hpl, hkp, rfl, rfl, hR, hO⟩ := hrel
    by_cases hlt : p < l.length
    · have hdec := rdecode_any g cap p l wr hlt (HB.out.old hg hO.out) (by omega)
      obtain ⟨hk, hrow, hG2⟩ := hG.out.at hlt
      have hsz := decP_size (l.drop p) (by simp; omega)
      rw [List.length_drop] at hsz
      have hrc := rowsC_succ l k _ _ hk hrow
      generalize hdq : decP (l.drop p) = q at *
      obtain ⟨r, m, ok⟩ := q
      unfold rowV at hdec
      dsimp only at hdec hsz hrc hG2
      have HDQ := Lib.hid hdq; clear hdq
      have HRC := Lib.hid hrc; clear hrc
      have HG2 := Lib.hid hG2; clear hG2
      clear hk hrow
      have HDEC := Lib.hid hdec; clear hdec
      go_wp2_with (first | (go_at_call 65; (with_reducible refine (HDEC.out).mono ?_); rintro e w1 ⟨rfl, hO1⟩) | (at_builtin; go_loud (refine wpList_append_own_at _ rfl (.tmp 13) (.tmp 15) 107 rfl w.heap.size 115 i0 (.agg #[.int .i64 0, .int .i32 0, .int .i64 0, .bool false]) 4 32 Tryz.underlying107 hi hz0 hz1 hz2 rfl (by decide) v k (rowsC l k) rfl (((hO1.row hR.out (fun _ _ f => f)).alloc _).alloc _) ⟨w1.heap.size + 1, 0, none⟩ 1 1 [.int .i64 p, .int .i32 r, .int .i64 m, .bool ok] rfl rfl ?c1 ?c2 ?c3 ?c4 ?c5 ?_)))
      case c1 => simpa using news4 (w1.alloc (.cells #[.int .i64 p, .int .i32 r, .int .i64 m, .bool ok] 115)) (.int .i64 p) (.int .i32 r) (.int .i64 m) (.bool ok) 115
      case c2 => intro u hu; simp at hu; rcases hu with rfl | rfl | rfl | rfl <;> rfl
      case c3 => unfold maxLen; omega
      case c4 => omega
      case c5 => have := hO.out.size; have := hO1.size; simp; omega
      intro v' w2 hown2 hg2 hnil hat
      have hb1 := heapNew w1 (.cells #[.int .i64 p, .int .i32 r, .int .i64 m, .bool ok] 115)
      have hnb : v.ownBlock ≠ some w1.heap.size := fun e => by have := ((hO1.row hR.out (fun _ _ f => f)).lt _ e).2; omega
      have hb2 := grownAt hg2 (heapAlloc hb1 _) hnb
      have c2 := cellOf hb2 2 _ rfl
      have hF : Hid (Old w w2) := Lib.hid (Fr.grown (((hO.out.old hO1).alloc _).alloc _) hg2 (fun k hk => Or.inl (hR.out.lt k hk).1))
      have HOWN := Lib.hid hown2; clear hown2 hg2 hnil hat hb1 hnb hb2
      go_wp2
      go_roundw
      case rel => exact ⟨k + 1, p + m, _, HG2, by omega, by omega, by go_num, rfl, Lib.hid (by rw [HRC.out]; exact HOWN.out), hF⟩
      case measure => simp [intOf]; omega
    · have hke := hG.out.end hlt
      have HKE := Lib.hid hke; clear hke
      go_wp2
      go_ret
      exact ⟨_, rfl, by rw [← HKE.out]; exact hR.out, hO.out⟩
end Go.Proofs.YtlimgecmolhdhaaGreatDoor
