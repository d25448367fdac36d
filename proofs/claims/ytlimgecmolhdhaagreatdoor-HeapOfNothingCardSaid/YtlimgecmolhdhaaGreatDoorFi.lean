/- find: a member of a thing or of what stands behind it. -/
import Derived.Test.YtlimgecmolhdhaaGreatDoorGd
set_option linter.unusedVariables false
set_option linter.unusedSimpArgs false
namespace Go.Proofs.YtlimgecmolhdhaaGreatDoor
open Go.RowKit

/-- What find comes to: r, within d steps. -/
def Finds (w : World) (key : ByteArray) (r : Option AV) : Nat → Value → Prop
  | 0, t => t = .nilIface ∧ r = none
  | d + 1, t =>
    (∃ mm wh pr o, t = .iface 96 (.agg #[.pointer mm, .int .i64 wh, pr]) ∧ Says w nowhere anyW 44 #[.pointer mm, .string key] (ownV o) ∧ ((o.isSome = true ∧ r = o) ∨ (o = none ∧ Finds w key r d pr))) ∨
    (∃ q o, t = .iface 86 (.pointer q) ∧ Says w nowhere anyW 121 #[.pointer q, .string key] (ownV o) ∧ r = o)

theorem deeper (a b pr : Value) (t : TypeId) : SizeOf.sizeOf pr < SizeOf.sizeOf (Value.iface t (.agg #[a, b, pr])) := by
  simp
  omega

set_option maxRecDepth 100000 in
set_option maxHeartbeats 1000000 in
theorem find_any (w : World) (t : Value) (key : ByteArray) (r : Option AV) (d : Nat) (h : Finds w key r d t) :
    Calls Tryz.prog 48 #[t, .string key] w fun e w' => e = .returned (ownV r) ∧ Old w w' := by
  have q1 := meth_own_obj
  have q2 := meth_own_arr
  have q3 := meth_behind_obj
  have q4 := meth_behind_arr
  have HF := Lib.hid h; clear h
  go_enter Tryz.func48, Tryz.ntmps48
  go_wp2
  go_loopw [0] (fun t wr => ∃ d, Finds w key r d t ∧ Old w wr ∧ wr.heap[w.heap.size]? = some (.cells #[.int .i64 0, .int .i64 0, .string ⟨#[]⟩] 34 (0, 0))) (fun t _ => SizeOf.sizeOf t)
  case atStart => exact ⟨d, HF.out, (Fr.refl _ _).alloc _, heapNew w _⟩
  case round =>
    obtain ⟨d, hF, hO, hB⟩ := hrel
    clear HF
    have hlt := ltOf hB
    obtain ⟨c0, c1, c2, f0, f1, f2⟩ := cells3 hB
    have HB := Lib.hid hB; clear hB
    cases d with
    | zero =>
      obtain ⟨rfl, rfl⟩ := hF
      go_wp2
      refine bodyPost_ret (v := ownV none) (by simp [results, Tryz.results48, go_sem, c0, c1, c2, ownV, AV.zero]) rfl ⟨rfl, ?_⟩
      exact ((hO.setCell (Or.inl (Nat.le_refl _)) _).setCell (Or.inl (Nat.le_refl _)) _).setCell (Or.inl (Nat.le_refl _)) _
    | succ d =>
      rcases hF with ⟨mm, wh, pr, o, rfl, hown, hr⟩ | ⟨q, o, rfl, hown, hr⟩
      · rcases o with _ | ⟨xk, xn, xs⟩
        · have hown' : Says w nowhere anyW 44 #[.pointer mm, .string key] (.tuple #[.agg #[.int .i64 0, .int .i64 0, .string ⟨#[]⟩], .bool false]) := hown
          have hr' : Finds w key r d pr := by
            rcases hr with ⟨h, _⟩ | ⟨_, h⟩
            · cases h
            · exact h
          replace hr' := Lib.hid hr'
          clear hown hr
          go_wp2_with (first | (go_at_call 44; refine (hown' _ hO trivial).mono ?_; rintro e w1 ⟨rfl, hO1⟩) | (go_at_call 122; refine (behind_obj _ _ _ _).mono ?_; rintro e w2 ⟨rfl, hO2⟩))
          exact ⟨⟨d, hr'.out, hO.old (((Fr.refl _ _).old hO1 |>.alloc _).old hO2), hO2.at (heapAlloc (hO1.at HB.out (fun f => f)) _) (fun f => f)⟩, deeper _ _ _ _⟩
        · have hown' : Says w nowhere anyW 44 #[.pointer mm, .string key] (.tuple #[.agg #[.int .i64 xk, .int .i64 xn, .string xs], .bool true]) := hown
          have hr' : r = some ⟨xk, xn, xs⟩ := by
            rcases hr with ⟨_, h⟩ | ⟨h, _⟩
            · exact h
            · cases h
          clear hown hr
          go_wp2_with (first | (go_at_call 44; refine (hown' _ hO trivial).mono ?_; rintro e w1 ⟨rfl, hO1⟩; have hB1 := hO1.at HB.out (fun f => f); have hl1 := ltOf hB1; obtain ⟨e0, e1, e2, g0, g1, g2⟩ := cells3 hB1; clear hB1))
          subst hr'
          refine bodyPost_ret (v := ownV (some ⟨xk, xn, xs⟩)) (by simp [results, Tryz.results48, go_sem, e0, e1, e2, hl1, ownV]) rfl ⟨rfl, ?_⟩
          exact ((((hO.old hO1).setCell (Or.inl (Nat.le_refl _)) _).setCell (Or.inl (Nat.le_refl _)) _).setCell (Or.inl (Nat.le_refl _)) _).alloc _
      · subst hr
        rcases r with _ | ⟨xk, xn, xs⟩
        · have hown' : Says w nowhere anyW 121 #[.pointer q, .string key] (.tuple #[.agg #[.int .i64 0, .int .i64 0, .string ⟨#[]⟩], .bool false]) := hown
          clear hown
          go_wp2_with (first | (go_at_call 121; refine (hown' _ hO trivial).mono ?_; rintro e w1 ⟨rfl, hO1⟩) | (go_at_call 119; refine (behind_arr _ _).mono ?_; rintro e w2 ⟨rfl, hO2⟩))
          exact ⟨⟨0, ⟨rfl, rfl⟩, hO.old (((Fr.refl _ _).old hO1 |>.alloc _).old hO2), hO2.at (heapAlloc (hO1.at HB.out (fun f => f)) _) (fun f => f)⟩, by simp; omega⟩
        · have hown' : Says w nowhere anyW 121 #[.pointer q, .string key] (.tuple #[.agg #[.int .i64 xk, .int .i64 xn, .string xs], .bool true]) := hown
          clear hown
          go_wp2_with (first | (go_at_call 121; refine (hown' _ hO trivial).mono ?_; rintro e w1 ⟨rfl, hO1⟩; have hB1 := hO1.at HB.out (fun f => f); have hl1 := ltOf hB1; obtain ⟨e0, e1, e2, g0, g1, g2⟩ := cells3 hB1; clear hB1))
          refine bodyPost_ret (v := ownV (some ⟨xk, xn, xs⟩)) (by simp [results, Tryz.results48, go_sem, e0, e1, e2, hl1, ownV]) rfl ⟨rfl, ?_⟩
          exact ((((hO.old hO1).setCell (Or.inl (Nat.le_refl _)) _).setCell (Or.inl (Nat.le_refl _)) _).setCell (Or.inl (Nat.le_refl _)) _).alloc _
end Go.Proofs.YtlimgecmolhdhaaGreatDoor
