/- The reference's values: Sane, and the small functions of shuckref14. -/
import Derived.Test.YtlimgecmolhdhaaGreatDoorHo
set_option linter.unusedVariables false
set_option linter.unusedSimpArgs false
namespace Go.Proofs.YtlimgecmolhdhaaGreatDoor
open Go.RowKit

set_option maxRecDepth 100000 in
set_option maxHeartbeats 400000 in
theorem rbool_any (b : Bool) (w : World) :
    Calls Tryz.prog 75 #[.bool b] w fun e w' => e = .returned (.agg #[.int .i64 2, .int .i64 (if b then 1 else 0), .string ⟨#[]⟩]) ∧ Old w w' := by
  cases b
  all_goals
    go_enter Tryz.func75, Tryz.ntmps75
    go_wp2
  · refine bodyPost_ret (v := .agg #[.int .i64 2, .int .i64 0, .string ⟨#[]⟩]) (by simp [results, Tryz.results75, go_sem]) rfl ⟨rfl, ?_⟩
    repeat (first | exact Fr.refl _ _ | refine Fr.setCell ?_ (Or.inl (by simp)) _ | refine Fr.alloc ?_ _)
  · refine bodyPost_ret (v := .agg #[.int .i64 2, .int .i64 1, .string ⟨#[]⟩]) (by simp [results, Tryz.results75, go_sem]) rfl ⟨rfl, ?_⟩
    repeat (first | exact Fr.refl _ _ | refine Fr.setCell ?_ (Or.inl (by simp)) _ | refine Fr.alloc ?_ _)

set_option maxRecDepth 100000 in
set_option maxHeartbeats 400000 in
theorem rnumber_any (n : Int) (w : World) :
    Calls Tryz.prog 50 #[.int .i64 n] w fun e w' => e = .returned (.agg #[.int .i64 3, .int .i64 n, .string ⟨#[]⟩]) ∧ Old w w' := by
  go_enter Tryz.func50, Tryz.ntmps50
  go_wp2
  refine bodyPost_ret (v := .agg #[.int .i64 3, .int .i64 n, .string ⟨#[]⟩]) (by simp [results, Tryz.results50, go_sem]) rfl ⟨rfl, ?_⟩
  repeat (first | exact Fr.refl _ _ | refine Fr.setCell ?_ (Or.inl (by simp)) _ | refine Fr.alloc ?_ _)

set_option maxRecDepth 100000 in
set_option maxHeartbeats 400000 in
theorem rstring_any (s : ByteArray) (w : World) :
    Calls Tryz.prog 54 #[.string s] w fun e w' => e = .returned (.agg #[.int .i64 4, .int .i64 0, .string s]) ∧ Old w w' := by
  go_enter Tryz.func54, Tryz.ntmps54
  go_wp2
  refine bodyPost_ret (v := .agg #[.int .i64 4, .int .i64 0, .string s]) (by simp [results, Tryz.results54, go_sem]) rfl ⟨rfl, ?_⟩
  repeat (first | exact Fr.refl _ _ | refine Fr.setCell ?_ (Or.inl (by simp)) _ | refine Fr.alloc ?_ _)

set_option maxRecDepth 100000 in
set_option maxHeartbeats 400000 in
theorem rthrow_any (s : ByteArray) (w : World) :
    Calls Tryz.prog 49 #[.string s] w fun e w' => e = .returned (.agg #[.int .i64 0, .int .i64 0, .string ⟨#[]⟩, .string s, .int .i64 1]) ∧ Old w w' := by
  go_enter Tryz.func49, Tryz.ntmps49
  go_wp2
  refine bodyPost_ret (v := .agg #[.int .i64 0, .int .i64 0, .string ⟨#[]⟩, .string s, .int .i64 1]) (by simp [results, Tryz.results49, go_sem]) rfl ⟨rfl, ?_⟩
  repeat (first | exact Fr.refl _ _ | refine Fr.setCell ?_ (Or.inl (by simp)) _ | refine Fr.alloc ?_ _)

set_option maxRecDepth 100000 in
set_option maxHeartbeats 1000000 in
theorem rsane_0 (n : Int) (s : ByteArray) (w : World) :
    Calls Tryz.prog 60 #[.agg #[.int .i64 0, .int .i64 n, .string s]] w fun e w' => e = .returned (.agg #[.int .i64 0, .int .i64 0, .string ⟨#[]⟩]) ∧ Old w w' := by
  go_enter Tryz.func60, Tryz.ntmps60
  go_wp2
  refine bodyPost_ret (v := .agg #[.int .i64 0, .int .i64 0, .string ⟨#[]⟩]) (by simp [results, Tryz.results60, go_sem]) rfl ⟨rfl, ?_⟩
  repeat (first | exact Fr.refl _ _ | refine Fr.setCell ?_ (Or.inl (by simp)) _ | refine Fr.alloc ?_ _)

set_option maxRecDepth 100000 in
set_option maxHeartbeats 1000000 in
theorem rsane_1 (n : Int) (s : ByteArray) (w : World) :
    Calls Tryz.prog 60 #[.agg #[.int .i64 1, .int .i64 n, .string s]] w fun e w' => e = .returned (.agg #[.int .i64 1, .int .i64 0, .string ⟨#[]⟩]) ∧ Old w w' := by
  go_enter Tryz.func60, Tryz.ntmps60
  go_wp2
  refine bodyPost_ret (v := .agg #[.int .i64 1, .int .i64 0, .string ⟨#[]⟩]) (by simp [results, Tryz.results60, go_sem]) rfl ⟨rfl, ?_⟩
  repeat (first | exact Fr.refl _ _ | refine Fr.setCell ?_ (Or.inl (by simp)) _ | refine Fr.alloc ?_ _)

set_option maxRecDepth 100000 in
set_option maxHeartbeats 1000000 in
theorem rsane_5 (n : Int) (s : ByteArray) (w : World) :
    Calls Tryz.prog 60 #[.agg #[.int .i64 5, .int .i64 n, .string s]] w fun e w' => e = .returned (.agg #[.int .i64 5, .int .i64 n, .string ⟨#[]⟩]) ∧ Old w w' := by
  go_enter Tryz.func60, Tryz.ntmps60
  go_wp2
  refine bodyPost_ret (v := .agg #[.int .i64 5, .int .i64 n, .string ⟨#[]⟩]) (by simp [results, Tryz.results60, go_sem]) rfl ⟨rfl, ?_⟩
  repeat (first | exact Fr.refl _ _ | refine Fr.setCell ?_ (Or.inl (by simp)) _ | refine Fr.alloc ?_ _)

set_option maxRecDepth 100000 in
set_option maxHeartbeats 1000000 in
theorem rsane_else (k n : Int) (s : ByteArray) (h0 : (k == 0) = false) (h1 : (k == 1) = false) (h2 : (k == 2) = false) (h3 : (k == 3) = false) (h4 : (k == 4) = false) (h5 : (k == 5) = false) (w : World) :
    Calls Tryz.prog 60 #[.agg #[.int .i64 k, .int .i64 n, .string s]] w fun e w' => e = .returned (.agg #[.int .i64 0, .int .i64 0, .string ⟨#[]⟩]) ∧ Old w w' := by
  go_enter Tryz.func60, Tryz.ntmps60
  go_wp2
  refine bodyPost_ret (v := .agg #[.int .i64 0, .int .i64 0, .string ⟨#[]⟩]) (by simp [results, Tryz.results60, go_sem]) rfl ⟨rfl, ?_⟩
  repeat (first | exact Fr.refl _ _ | refine Fr.setCell ?_ (Or.inl (by simp)) _ | refine Fr.alloc ?_ _)

set_option maxRecDepth 100000 in
set_option maxHeartbeats 1000000 in
theorem rsane_2f (s : ByteArray) (w : World) :
    Calls Tryz.prog 60 #[.agg #[.int .i64 2, .int .i64 0, .string s]] w fun e w' => e = .returned (.agg #[.int .i64 2, .int .i64 0, .string ⟨#[]⟩]) ∧ Old w w' := by
  go_enter Tryz.func60, Tryz.ntmps60
  go_wp2_with (go_at_call 75; refine (rbool_any false _).mono ?_; rintro e w1 ⟨rfl, hO⟩; have b1 := hO.at (heapNew1 w (.cells #[.int .i64 2, .int .i64 0, .string s] 34) (.cells #[.int .i64 0, .int .i64 0, .string ⟨#[]⟩] 34)) (fun f => f); have hF := (((Fr.refl (fun _ => False) w).alloc (.cells #[.int .i64 2, .int .i64 0, .string s] 34)).alloc (.cells #[.int .i64 0, .int .i64 0, .string ⟨#[]⟩] 34)).old hO; obtain ⟨p0, p1, p2, e0, e1, e2⟩ := cells3 b1; have hl := ltOf b1; have B1 := Lib.hid b1; clear b1)
  refine bodyPost_ret (v := .agg #[.int .i64 2, .int .i64 0, .string ⟨#[]⟩]) (by simp [results, Tryz.results60, go_sem, p0, p1, p2, hl]) rfl ⟨rfl, ?_⟩
  exact ((hF.setCell (Or.inl (by simp)) _).setCell (Or.inl (by simp)) _).setCell (Or.inl (by simp)) _

set_option maxRecDepth 100000 in
set_option maxHeartbeats 1000000 in
theorem rsane_2t (n : Int) (s : ByteArray) (hn : n ≠ 0) (w : World) :
    Calls Tryz.prog 60 #[.agg #[.int .i64 2, .int .i64 n, .string s]] w fun e w' => e = .returned (.agg #[.int .i64 2, .int .i64 1, .string ⟨#[]⟩]) ∧ Old w w' := by
  have hn1 : (n != 0) = true := by simpa using hn
  go_enter Tryz.func60, Tryz.ntmps60
  go_wp2_with (go_at_call 75; refine (rbool_any true _).mono ?_; rintro e w1 ⟨rfl, hO⟩; have b1 := hO.at (heapNew1 w (.cells #[.int .i64 2, .int .i64 n, .string s] 34) (.cells #[.int .i64 0, .int .i64 0, .string ⟨#[]⟩] 34)) (fun f => f); have hF := (((Fr.refl (fun _ => False) w).alloc (.cells #[.int .i64 2, .int .i64 n, .string s] 34)).alloc (.cells #[.int .i64 0, .int .i64 0, .string ⟨#[]⟩] 34)).old hO; obtain ⟨p0, p1, p2, e0, e1, e2⟩ := cells3 b1; have hl := ltOf b1; have B1 := Lib.hid b1; clear b1)
  refine bodyPost_ret (v := .agg #[.int .i64 2, .int .i64 1, .string ⟨#[]⟩]) (by simp [results, Tryz.results60, go_sem, p0, p1, p2, hl]) rfl ⟨rfl, ?_⟩
  exact ((hF.setCell (Or.inl (by simp)) _).setCell (Or.inl (by simp)) _).setCell (Or.inl (by simp)) _

set_option maxRecDepth 100000 in
set_option maxHeartbeats 1000000 in
theorem rsane_4 (n : Int) (s : ByteArray) (w : World) :
    Calls Tryz.prog 60 #[.agg #[.int .i64 4, .int .i64 n, .string s]] w fun e w' => e = .returned (.agg #[.int .i64 4, .int .i64 0, .string s]) ∧ Old w w' := by
  go_enter Tryz.func60, Tryz.ntmps60
  go_wp2_with (go_at_call 54; refine (rstring_any s _).mono ?_; rintro e w1 ⟨rfl, hO⟩; have b1 := hO.at (heapNew1 w (.cells #[.int .i64 4, .int .i64 n, .string s] 34) (.cells #[.int .i64 0, .int .i64 0, .string ⟨#[]⟩] 34)) (fun f => f); have hF := (((Fr.refl (fun _ => False) w).alloc (.cells #[.int .i64 4, .int .i64 n, .string s] 34)).alloc (.cells #[.int .i64 0, .int .i64 0, .string ⟨#[]⟩] 34)).old hO; obtain ⟨p0, p1, p2, e0, e1, e2⟩ := cells3 b1; have hl := ltOf b1; have B1 := Lib.hid b1; clear b1)
  refine bodyPost_ret (v := .agg #[.int .i64 4, .int .i64 0, .string s]) (by simp [results, Tryz.results60, go_sem, p0, p1, p2, hl]) rfl ⟨rfl, ?_⟩
  exact ((hF.setCell (Or.inl (by simp)) _).setCell (Or.inl (by simp)) _).setCell (Or.inl (by simp)) _

set_option maxRecDepth 100000 in
set_option maxHeartbeats 1000000 in
theorem rsane_3lo (n : Int) (s : ByteArray) (h : n < -9007199254740991) (w : World) :
    Calls Tryz.prog 60 #[.agg #[.int .i64 3, .int .i64 n, .string s]] w fun e w' => e = .returned (.agg #[.int .i64 3, .int .i64 (-9007199254740991), .string ⟨#[]⟩]) ∧ Old w w' := by
  go_enter Tryz.func60, Tryz.ntmps60
  go_wp2_with (go_at_call 50; refine (rnumber_any (-9007199254740991) _).mono ?_; rintro e w1 ⟨rfl, hO⟩; have b1 := hO.at (heapNew1 w (.cells #[.int .i64 3, .int .i64 n, .string s] 34) (.cells #[.int .i64 0, .int .i64 0, .string ⟨#[]⟩] 34)) (fun f => f); have hF := (((Fr.refl (fun _ => False) w).alloc (.cells #[.int .i64 3, .int .i64 n, .string s] 34)).alloc (.cells #[.int .i64 0, .int .i64 0, .string ⟨#[]⟩] 34)).old hO; obtain ⟨p0, p1, p2, e0, e1, e2⟩ := cells3 b1; have hl := ltOf b1; have B1 := Lib.hid b1; clear b1)
  refine bodyPost_ret (v := .agg #[.int .i64 3, .int .i64 (-9007199254740991), .string ⟨#[]⟩]) (by simp [results, Tryz.results60, go_sem, p0, p1, p2, hl]) rfl ⟨rfl, ?_⟩
  exact ((hF.setCell (Or.inl (by simp)) _).setCell (Or.inl (by simp)) _).setCell (Or.inl (by simp)) _

set_option maxRecDepth 100000 in
set_option maxHeartbeats 1000000 in
theorem rsane_3mid (n : Int) (s : ByteArray) (h : -9007199254740991 ≤ n) (h2 : n ≤ 9007199254740991) (w : World) :
    Calls Tryz.prog 60 #[.agg #[.int .i64 3, .int .i64 n, .string s]] w fun e w' => e = .returned (.agg #[.int .i64 3, .int .i64 n, .string ⟨#[]⟩]) ∧ Old w w' := by
  go_enter Tryz.func60, Tryz.ntmps60
  go_wp2_with (go_at_call 50; refine (rnumber_any n _).mono ?_; rintro e w1 ⟨rfl, hO⟩; have b1 := hO.at (heapNew1 w (.cells #[.int .i64 3, .int .i64 n, .string s] 34) (.cells #[.int .i64 0, .int .i64 0, .string ⟨#[]⟩] 34)) (fun f => f); have hF := (((Fr.refl (fun _ => False) w).alloc (.cells #[.int .i64 3, .int .i64 n, .string s] 34)).alloc (.cells #[.int .i64 0, .int .i64 0, .string ⟨#[]⟩] 34)).old hO; obtain ⟨p0, p1, p2, e0, e1, e2⟩ := cells3 b1; have hl := ltOf b1; have B1 := Lib.hid b1; clear b1)
  refine bodyPost_ret (v := .agg #[.int .i64 3, .int .i64 n, .string ⟨#[]⟩]) (by simp [results, Tryz.results60, go_sem, p0, p1, p2, hl]) rfl ⟨rfl, ?_⟩
  exact ((hF.setCell (Or.inl (by simp)) _).setCell (Or.inl (by simp)) _).setCell (Or.inl (by simp)) _

set_option maxRecDepth 100000 in
set_option maxHeartbeats 1000000 in
theorem rsane_3hi (n : Int) (s : ByteArray) (h : 9007199254740991 < n) (w : World) :
    Calls Tryz.prog 60 #[.agg #[.int .i64 3, .int .i64 n, .string s]] w fun e w' => e = .returned (.agg #[.int .i64 3, .int .i64 9007199254740991, .string ⟨#[]⟩]) ∧ Old w w' := by
  go_enter Tryz.func60, Tryz.ntmps60
  go_wp2_with (go_at_call 50; refine (rnumber_any 9007199254740991 _).mono ?_; rintro e w1 ⟨rfl, hO⟩; have b1 := hO.at (heapNew1 w (.cells #[.int .i64 3, .int .i64 n, .string s] 34) (.cells #[.int .i64 0, .int .i64 0, .string ⟨#[]⟩] 34)) (fun f => f); have hF := (((Fr.refl (fun _ => False) w).alloc (.cells #[.int .i64 3, .int .i64 n, .string s] 34)).alloc (.cells #[.int .i64 0, .int .i64 0, .string ⟨#[]⟩] 34)).old hO; obtain ⟨p0, p1, p2, e0, e1, e2⟩ := cells3 b1; have hl := ltOf b1; have B1 := Lib.hid b1; clear b1)
  refine bodyPost_ret (v := .agg #[.int .i64 3, .int .i64 9007199254740991, .string ⟨#[]⟩]) (by simp [results, Tryz.results60, go_sem, p0, p1, p2, hl]) rfl ⟨rfl, ?_⟩
  exact ((hF.setCell (Or.inl (by simp)) _).setCell (Or.inl (by simp)) _).setCell (Or.inl (by simp)) _


/-- Sane. -/
theorem rsane_any (x : AV) (w : World) :
    Calls Tryz.prog 60 #[.agg #[.int .i64 x.k, .int .i64 x.n, .string x.s]] w fun e w' => e = .returned (plainV true x).v ∧ Old w w' := by
  obtain ⟨k, n, s⟩ := x
  dsimp only
  unfold plainV
  dsimp only
  by_cases h1 : k = 1
  · subst h1; rw [if_pos rfl]; exact rsane_1 n s w
  rw [if_neg h1]
  by_cases h2 : k = 2
  · subst h2; rw [if_pos rfl]
    by_cases hn : n = 0
    · subst hn; rw [if_pos rfl]; exact rsane_2f s w
    · rw [if_neg hn]; exact rsane_2t n s hn w
  rw [if_neg h2]
  by_cases h3 : k = 3
  · subst h3; rw [if_pos rfl]
    by_cases a : n < -9007199254740991
    · rw [show max (-9007199254740991) (min 9007199254740991 n) = -9007199254740991 by omega]; exact rsane_3lo n s a w
    · by_cases b : n ≤ 9007199254740991
      · rw [show max (-9007199254740991) (min 9007199254740991 n) = n by omega]; exact rsane_3mid n s (by omega) b w
      · rw [show max (-9007199254740991) (min 9007199254740991 n) = 9007199254740991 by omega]; exact rsane_3hi n s (by omega) w
  rw [if_neg h3]
  by_cases h4 : k = 4
  · subst h4; rw [if_pos rfl]; exact rsane_4 n s w
  rw [if_neg h4]
  by_cases h5 : k = 5
  · subst h5; rw [if_pos ⟨rfl, rfl⟩]; exact rsane_5 n s w
  rw [if_neg (fun h => h5 h.1)]
  by_cases h0 : k = 0
  · subst h0; exact rsane_0 n s w
  exact rsane_else k n s (by simpa using h0) (by simpa using h1) (by simpa using h2) (by simpa using h3) (by simpa using h4) (by simpa using h5) w
end Go.Proofs.YtlimgecmolhdhaaGreatDoor
