/- The reference's heap: there, Sane, Kind, array, New. -/
import Derived.Test.YtlimgecmolhdhaaGreatDoorTt
set_option linter.unusedVariables false
set_option linter.unusedSimpArgs false
namespace Go.Proofs.YtlimgecmolhdhaaGreatDoor
open Go.RowKit

abbrev rp (R : Nat) : Value := .pointer (some ⟨R, 0, none⟩)
/-- The reference's heap in block R. -/
abbrev RBlk (w : World) (R : Nat) (room used : Int) (a : Option Addr) (n cap : Nat) : Prop := w.heap[R]? = some (.cells #[.int .i64 room, .int .i64 used, .slice a n cap] 40 (0, 0))

set_option maxRecDepth 100000 in
set_option maxHeartbeats 400000 in
theorem rthere_any (w : World) (R : Nat) (room used : Int) (a : Option Addr) (n cap : Nat) (hR : RBlk w R room used a n cap) (ref : Int) (th : Bool) (hth : th = (decide (0 ≤ ref) && decide (ref < n))) :
    Says w nowhere anyW 41 #[rp R, .int .i64 ref] (.bool th) := by
  intro W hW _
  have c2 := cellOf (hW.at hR (fun f => f)) 2 _ rfl
  have hO := Lib.hid (Fr.refl (fun _ => False) W)
  clear hW hR
  by_cases h0 : 0 ≤ ref
  · by_cases h1 : ref < n
    · have e : th = true := by rw [hth, decide_eq_true h0, decide_eq_true h1]; rfl
      subst e
      clear hth
      obtain ⟨k, rfl⟩ := Int.eq_ofNat_of_zero_le h0
      have h1' : k < n := by omega
      go_enter Tryz.func41, Tryz.ntmps41
      go_wp2
      go_ret
      exact ⟨rfl, hO.out⟩
    · have e : th = false := by rw [hth, decide_eq_true h0, decide_eq_false h1]; rfl
      subst e
      clear hth
      obtain ⟨k, rfl⟩ := Int.eq_ofNat_of_zero_le h0
      have h1' : ¬ k < n := by omega
      go_enter Tryz.func41, Tryz.ntmps41
      go_wp2
      go_ret
      exact ⟨rfl, hO.out⟩
  · have e : th = false := by rw [hth, decide_eq_false h0]; rfl
    subst e
    clear hth
    have h0' : ref < 0 := by omega
    go_enter Tryz.func41, Tryz.ntmps41
    go_wp2
    go_ret
    exact ⟨rfl, hO.out⟩

theorem plainV_ref (x : AV) (b : Bool) (h : x.k = 5) : plainV b x = if b then ⟨5, x.n, ⟨#[]⟩⟩ else AV.zero := by
  obtain ⟨k, n, s⟩ := x
  dsimp only at h
  subst h
  cases b <;> simp [plainV]
theorem plainV_nref (x : AV) (b c : Bool) (h : x.k ≠ 5) : plainV b x = plainV c x := by
  unfold plainV
  rw [if_neg (fun e : x.k = 5 ∧ b = true => h e.1), if_neg (fun e : x.k = 5 ∧ c = true => h e.1)]
theorem plainV_k5 (x : AV) (b : Bool) (h : x.k ≠ 5) : (plainV b x).k ≠ 5 := by
  unfold plainV
  split
  · simp
  split
  · simp
  split
  · simp
  split
  · simp
  split
  · rename_i hh; exact absurd hh.1 h
  · simp [AV.zero]

set_option maxRecDepth 100000 in
set_option maxHeartbeats 1000000 in
theorem rsane15_any (w : World) (R : Nat) (x : AV) (th : Bool) (hT : x.k = 5 → Says w nowhere anyW 41 #[rp R, .int .i64 x.n] (.bool th)) :
    Says w nowhere anyW 38 #[rp R, .agg #[.int .i64 x.k, .int .i64 x.n, .string x.s]] (plainV th x).v := by
  intro W hW _
  have HW := Lib.hid hW; clear hW
  have hS := fun w => rsane_any x w
  by_cases h5 : x.k = 5
  · have hT := hT h5
    have e1 : plainV true x = ⟨5, x.n, ⟨#[]⟩⟩ := by rw [plainV_ref x true h5]; rfl
    rw [e1] at hS
    cases th with
    | true =>
      have e2 : plainV true x = ⟨5, x.n, ⟨#[]⟩⟩ := e1
      rw [e2]
      clear e1 e2 h5
      go_enter Tryz.func38, Tryz.ntmps38
      go_wp2_with (first | (go_at_call 60; refine (hS _).mono ?_; rintro e w1 ⟨rfl, hO⟩; have b1 := hO.at (heapNew1 W (.cells #[.int .i64 x.k, .int .i64 x.n, .string x.s] 34) (.cells #[.int .i64 0, .int .i64 0, .string ⟨#[]⟩] 34)) (fun f => f); have hF := (((Fr.refl (fun _ => False) W).alloc (.cells #[.int .i64 x.k, .int .i64 x.n, .string x.s] 34)).alloc (.cells #[.int .i64 0, .int .i64 0, .string ⟨#[]⟩] 34)).old hO; have B1 := Lib.hid b1; clear b1; have hF1 := hF.alloc (.cells #[.int .i64 5, .int .i64 x.n, .string ⟨#[]⟩] 34); have b5 := heapNew w1 (.cells #[.int .i64 5, .int .i64 x.n, .string ⟨#[]⟩] 34); have B5 := Lib.hid b5; clear b5) | (go_at_call 41; refine (hT _ (HW.out.old hF1) trivial).mono ?_; rintro e w2 ⟨rfl, hO2⟩; obtain ⟨q0, q1, q2, _, _, _⟩ := cells3 (hO2.at B5.out (fun f => f)); have b1 := hO2.at (heapAlloc B1.out _) (fun f => f); obtain ⟨p0, p1, p2, e0, e1, e2⟩ := cells3 b1; have hl := ltOf b1; have hF2 := hF1.old hO2; clear b1))
      refine bodyPost_ret (v := .agg #[.int .i64 5, .int .i64 x.n, .string ⟨#[]⟩]) (by simp [results, Tryz.results38, go_sem, p0, p1, p2, hl]) rfl ⟨rfl, ?_⟩
      exact ((hF2.setCell (Or.inl (by simp)) _).setCell (Or.inl (by simp)) _).setCell (Or.inl (by simp)) _
    | false =>
      have e2 : plainV false x = ⟨0, 0, ⟨#[]⟩⟩ := by rw [plainV_ref x false h5]; rfl
      rw [e2]
      clear e1 e2 h5
      go_enter Tryz.func38, Tryz.ntmps38
      go_wp2_with (first | (go_at_call 60; refine (hS _).mono ?_; rintro e w1 ⟨rfl, hO⟩; have b1 := hO.at (heapNew1 W (.cells #[.int .i64 x.k, .int .i64 x.n, .string x.s] 34) (.cells #[.int .i64 0, .int .i64 0, .string ⟨#[]⟩] 34)) (fun f => f); have hF := (((Fr.refl (fun _ => False) W).alloc (.cells #[.int .i64 x.k, .int .i64 x.n, .string x.s] 34)).alloc (.cells #[.int .i64 0, .int .i64 0, .string ⟨#[]⟩] 34)).old hO; have B1 := Lib.hid b1; clear b1; have hF1 := hF.alloc (.cells #[.int .i64 5, .int .i64 x.n, .string ⟨#[]⟩] 34); have b5 := heapNew w1 (.cells #[.int .i64 5, .int .i64 x.n, .string ⟨#[]⟩] 34); have B5 := Lib.hid b5; clear b5) | (go_at_call 41; refine (hT _ (HW.out.old hF1) trivial).mono ?_; rintro e w2 ⟨rfl, hO2⟩; have b1 := hO2.at (heapAlloc B1.out _) (fun f => f); obtain ⟨p0, p1, p2, e0, e1, e2⟩ := cells3 b1; have hl := ltOf b1; have hF2 := hF1.old hO2; clear b1))
      refine bodyPost_ret (v := .agg #[.int .i64 0, .int .i64 0, .string ⟨#[]⟩]) (by simp [results, Tryz.results38, go_sem, p0, p1, p2, hl]) rfl ⟨rfl, ?_⟩
      exact ((hF2.setCell (Or.inl (by simp)) _).setCell (Or.inl (by simp)) _).setCell (Or.inl (by simp)) _
  · have e1 := plainV_nref x th true h5
    rw [e1]
    have hk := plainV_k5 x true h5
    clear hT e1 h5
    generalize plainV true x = y at *
    obtain ⟨yk, yn, ys⟩ := y
    have hk : (yk == 5) = false := by simpa using hk
    have hS : ∀ w, Calls Tryz.prog 60 #[.agg #[.int .i64 x.k, .int .i64 x.n, .string x.s]] w fun e w' => e = .returned (.agg #[.int .i64 yk, .int .i64 yn, .string ys]) ∧ Old w w' := hS
    go_enter Tryz.func38, Tryz.ntmps38
    go_wp2_with (go_at_call 60; refine (hS _).mono ?_; rintro e w1 ⟨rfl, hO⟩; have b1 := hO.at (heapNew1 W (.cells #[.int .i64 x.k, .int .i64 x.n, .string x.s] 34) (.cells #[.int .i64 0, .int .i64 0, .string ⟨#[]⟩] 34)) (fun f => f); have hF := (((Fr.refl (fun _ => False) W).alloc (.cells #[.int .i64 x.k, .int .i64 x.n, .string x.s] 34)).alloc (.cells #[.int .i64 0, .int .i64 0, .string ⟨#[]⟩] 34)).old hO; obtain ⟨p0, p1, p2, e0, e1, e2⟩ := cells3 b1; have hl := ltOf b1; have hl1 : W.heap.size + 1 < w1.heap.size + 1 := Nat.lt_succ_of_lt hl; have B1 := Lib.hid b1; clear b1)
    refine bodyPost_ret (v := .agg #[.int .i64 yk, .int .i64 yn, .string ys]) (by simp [results, Tryz.results38, go_sem, p0, p1, p2, hl, hl1]) rfl ⟨rfl, ?_⟩
    repeat (first | exact hF | refine Fr.setCell ?_ (Or.inl (by simp)) _ | refine Fr.alloc ?_ _)

set_option maxRecDepth 100000 in
set_option maxHeartbeats 400000 in
theorem rkind_no (w : World) (R : Nat) (ref : Int) (hT : Says w nowhere anyW 41 #[rp R, .int .i64 ref] (.bool false)) :
    Says w nowhere anyW 15 #[rp R, .int .i64 ref] (.int .i64 0) := by
  intro W hW _
  go_enter Tryz.func15, Tryz.ntmps15
  go_wp2_with (go_at_call 41; refine (hT _ hW trivial).mono ?_; rintro e w1 ⟨rfl, hO⟩)
  go_ret
  exact ⟨rfl, hO⟩

set_option maxRecDepth 100000 in
set_option maxHeartbeats 400000 in
/-- array of a value that is no reference. -/
theorem rarray_nref (w : World) (R : Nat) (k n : Int) (s : ByteArray) (hk : (k == 5) = false) :
    Says w nowhere anyW 52 #[rp R, .agg #[.int .i64 k, .int .i64 n, .string s]] (.bool false) := by
  intro W hW _
  go_enter Tryz.func52, Tryz.ntmps52
  go_wp2
  go_ret
  exact ⟨rfl, (Fr.refl _ _).alloc _⟩

set_option maxRecDepth 100000 in
set_option maxHeartbeats 400000 in
theorem rnew_ok (cells : Int) (w : World) (h0 : 0 ≤ cells) (h1 : cells ≤ 1048576) :
    Calls Tryz.prog 9 #[.int .i64 cells] w fun e w' => e = .returned (.tuple #[.pointer (some ⟨w.heap.size, 0, none⟩), .int .i64 0]) ∧
      w' = w.alloc (.cells #[.int .i64 cells, .int .i64 0, .slice none 0 0] 40) := by
  have h0' : ¬ cells < 0 := by omega
  have h1' : ¬ 1048576 < cells := by omega
  go_enter Tryz.func9, Tryz.ntmps9
  go_wp2
  go_ret2
  exact ⟨rfl, rfl⟩
end Go.Proofs.YtlimgecmolhdhaaGreatDoor
