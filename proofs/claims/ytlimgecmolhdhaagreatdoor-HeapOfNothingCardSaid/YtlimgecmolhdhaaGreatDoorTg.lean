/- A value as text, in the program and in the reference. -/
import Derived.Test.YtlimgecmolhdhaaGreatDoorSn
import Derived.Test.YtlimgecmolhdhaaGreatDoorDg
import Derived.Test.YtlimgecmolhdhaaGreatDoorSf
import Derived.Test.YtlimgecmolhdhaaGreatDoorHS
import Derived.Sort.Grow
set_option linter.unusedVariables false
set_option linter.unusedSimpArgs false
namespace Go.Proofs.YtlimgecmolhdhaaGreatDoor
open Go.RowKit

/-- The table of the powers of ten lies as the library's text lays it. -/
def Tab (w : World) : Prop := Lib.TabIs Tryz.prog w "internal/strconv.uint64pow10" .u64 Lib.pow10Tab
theorem Tab.at {F : Nat → Prop} {w W : World} (h : Tab w) (hO : Fr F w W) (hF : ∀ g, Tryz.prog.globalNamed "internal/strconv.uint64pow10" = some g → ¬ F g) : Tab W := by
  unfold Tab Lib.TabIs World.var? at h ⊢
  cases hg : Tryz.prog.globalNamed "internal/strconv.uint64pow10" with
  | none => rw [hg] at h; cases h
  | some g =>
    rw [hg] at h
    simp only [Option.bind_some] at h ⊢
    have hlt : g < w.heap.size := by
      rcases Nat.lt_or_ge g w.heap.size with h' | h'
      · exact h'
      · rw [Array.getElem?_eq_none h'] at h; cases h
    rw [hO.block g hlt (hF g hg)]
    exact h
theorem Tab.old {w W : World} (h : Tab w) (hO : Old w W) : Tab W := h.at hO (fun _ _ f => f)
theorem Old.grow (w : World) (k : Nat) (os : Array Obj) : Old w (Go.Sort.grow (w.drewN k) os) :=
  ⟨rfl, rfl, rfl, by simp [Go.Sort.grow], fun i hi _ => by
    show (w.heap ++ os)[i]? = w.heap[i]?
    rw [Array.getElem?_append_left hi]⟩

theorem pitoa_any (n : Int) (h0 : -9223372036854775808 ≤ n) (h1 : n ≤ 9223372036854775807) (w : World) (hT : Tab w) :
    Calls Tryz.prog 73 #[.int .i64 n] w fun e w' => e = .returned (.string ⟨(Lib.itoa n).toArray⟩) ∧ Old w w' :=
  (Tryz.strconv_Itoa n h0 h1 w hT).mono fun e w' ⟨h, k, os, hw⟩ => ⟨h, by rw [hw]; exact Old.grow w k os⟩

set_option maxRecDepth 100000 in
set_option maxHeartbeats 400000 in
theorem fbool_any (b : Bool) (w : World) :
    Calls Tryz.prog 72 #[.bool b] w fun e w' => e = .returned (.string (if b then ⟨#[116, 114, 117, 101]⟩ else ⟨#[102, 97, 108, 115, 101]⟩)) ∧ Old w w' := by
  have h : ∀ w, Calls Tryz.prog 86 #[.bool b] w fun e w' => e = .returned (.string (if b then ⟨#[116, 114, 117, 101]⟩ else ⟨#[102, 97, 108, 115, 101]⟩)) ∧ Old w w' := fun w => by
    cases b
    all_goals
      go_enter Tryz.func86, Tryz.ntmps86
      go_wp2
      go_ret
      exact ⟨rfl, Fr.refl _ _⟩
  cases b
  all_goals
    go_enter Tryz.func72, Tryz.ntmps72
    go_wp2_with (go_at_call 86; refine (h _).mono ?_; rintro e w1 ⟨rfl, hO⟩)
    go_ret
    exact ⟨rfl, hO⟩

set_option maxRecDepth 100000 in
set_option maxHeartbeats 400000 in
theorem vtruth_any (b : Bool) (w : World) :
    Calls Tryz.prog 84 #[.bool b] w fun e w' => e = .returned (.agg #[.int .i64 2, .int .i64 (if b then 1 else 0), .string ⟨#[]⟩]) ∧ Old w w' := by
  cases b
  all_goals
    go_enter Tryz.func84, Tryz.ntmps84
    go_wp2
  · refine bodyPost_ret (v := .agg #[.int .i64 2, .int .i64 0, .string ⟨#[]⟩]) (by simp [results, Tryz.results84, go_sem]) rfl ⟨rfl, ?_⟩
    repeat (first | exact Fr.refl _ _ | refine Fr.setCell ?_ (Or.inl (by simp)) _ | refine Fr.alloc ?_ _)
  · refine bodyPost_ret (v := .agg #[.int .i64 2, .int .i64 1, .string ⟨#[]⟩]) (by simp [results, Tryz.results84, go_sem]) rfl ⟨rfl, ?_⟩
    repeat (first | exact Fr.refl _ _ | refine Fr.setCell ?_ (Or.inl (by simp)) _ | refine Fr.alloc ?_ _)

set_option maxRecDepth 100000 in
set_option maxHeartbeats 400000 in
theorem vnum_any (n : Int) (w : World) :
    Calls Tryz.prog 85 #[.int .i64 n] w fun e w' => e = .returned (.agg #[.int .i64 3, .int .i64 n, .string ⟨#[]⟩]) ∧ Old w w' := by
  go_enter Tryz.func85, Tryz.ntmps85
  go_wp2
  refine bodyPost_ret (v := .agg #[.int .i64 3, .int .i64 n, .string ⟨#[]⟩]) (by simp [results, Tryz.results85, go_sem]) rfl ⟨rfl, ?_⟩
  repeat (first | exact Fr.refl _ _ | refine Fr.setCell ?_ (Or.inl (by simp)) _ | refine Fr.alloc ?_ _)

set_option maxRecDepth 100000 in
set_option maxHeartbeats 1000000 in
theorem vplain_1 (n : Int) (s : ByteArray) (w : World) :
    Calls Tryz.prog 71 #[.agg #[.int .i64 1, .int .i64 n, .string s]] w fun e w' => e = .returned (.agg #[.int .i64 1, .int .i64 0, .string ⟨#[]⟩]) ∧ Old w w' := by
  go_enter Tryz.func71, Tryz.ntmps71
  go_wp2
  refine bodyPost_ret (v := .agg #[.int .i64 1, .int .i64 0, .string ⟨#[]⟩]) (by simp [results, Tryz.results71, go_sem]) rfl ⟨rfl, ?_⟩
  repeat (first | exact Fr.refl _ _ | exact hF | refine Fr.setCell ?_ (Or.inl (by simp)) _ | refine Fr.alloc ?_ _)

set_option maxRecDepth 100000 in
set_option maxHeartbeats 1000000 in
theorem vplain_5 (n : Int) (s : ByteArray) (w : World) :
    Calls Tryz.prog 71 #[.agg #[.int .i64 5, .int .i64 n, .string s]] w fun e w' => e = .returned (.agg #[.int .i64 5, .int .i64 n, .string ⟨#[]⟩]) ∧ Old w w' := by
  go_enter Tryz.func71, Tryz.ntmps71
  go_wp2
  refine bodyPost_ret (v := .agg #[.int .i64 5, .int .i64 n, .string ⟨#[]⟩]) (by simp [results, Tryz.results71, go_sem]) rfl ⟨rfl, ?_⟩
  repeat (first | exact Fr.refl _ _ | exact hF | refine Fr.setCell ?_ (Or.inl (by simp)) _ | refine Fr.alloc ?_ _)

set_option maxRecDepth 100000 in
set_option maxHeartbeats 1000000 in
theorem vplain_4 (n : Int) (s : ByteArray) (w : World) :
    Calls Tryz.prog 71 #[.agg #[.int .i64 4, .int .i64 n, .string s]] w fun e w' => e = .returned (.agg #[.int .i64 4, .int .i64 0, .string s]) ∧ Old w w' := by
  go_enter Tryz.func71, Tryz.ntmps71
  go_wp2
  refine bodyPost_ret (v := .agg #[.int .i64 4, .int .i64 0, .string s]) (by simp [results, Tryz.results71, go_sem]) rfl ⟨rfl, ?_⟩
  repeat (first | exact Fr.refl _ _ | exact hF | refine Fr.setCell ?_ (Or.inl (by simp)) _ | refine Fr.alloc ?_ _)

set_option maxRecDepth 100000 in
set_option maxHeartbeats 1000000 in
theorem vplain_else (k n : Int) (s : ByteArray) (h1 : (k == 1) = false) (h2 : (k == 2) = false) (h3 : (k == 3) = false) (h4 : (k == 4) = false) (h5 : (k == 5) = false) (w : World) :
    Calls Tryz.prog 71 #[.agg #[.int .i64 k, .int .i64 n, .string s]] w fun e w' => e = .returned (.agg #[.int .i64 0, .int .i64 0, .string ⟨#[]⟩]) ∧ Old w w' := by
  go_enter Tryz.func71, Tryz.ntmps71
  go_wp2
  refine bodyPost_ret (v := .agg #[.int .i64 0, .int .i64 0, .string ⟨#[]⟩]) (by simp [results, Tryz.results71, go_sem]) rfl ⟨rfl, ?_⟩
  repeat (first | exact Fr.refl _ _ | exact hF | refine Fr.setCell ?_ (Or.inl (by simp)) _ | refine Fr.alloc ?_ _)

set_option maxRecDepth 100000 in
set_option maxHeartbeats 1000000 in
theorem vplain_2f (s : ByteArray) (w : World) :
    Calls Tryz.prog 71 #[.agg #[.int .i64 2, .int .i64 0, .string s]] w fun e w' => e = .returned (.agg #[.int .i64 2, .int .i64 0, .string ⟨#[]⟩]) ∧ Old w w' := by
  go_enter Tryz.func71, Tryz.ntmps71
  go_wp2_with (go_at_call 84; refine (vtruth_any false _).mono ?_; rintro e w1 ⟨rfl, hO⟩; have b1 := hO.at (heapNew1 w (.cells #[.int .i64 2, .int .i64 0, .string s] 34) (.cells #[.int .i64 0, .int .i64 0, .string ⟨#[]⟩] 34)) (fun f => f); have hF := (((Fr.refl (fun _ => False) w).alloc (.cells #[.int .i64 2, .int .i64 0, .string s] 34)).alloc (.cells #[.int .i64 0, .int .i64 0, .string ⟨#[]⟩] 34)).old hO; obtain ⟨p0, p1, p2, e0, e1, e2⟩ := cells3 b1; have hl := ltOf b1; have B1 := Lib.hid b1; clear b1)
  refine bodyPost_ret (v := .agg #[.int .i64 2, .int .i64 0, .string ⟨#[]⟩]) (by simp [results, Tryz.results71, go_sem, p0, p1, p2, hl]) rfl ⟨rfl, ?_⟩
  repeat (first | exact Fr.refl _ _ | exact hF | refine Fr.setCell ?_ (Or.inl (by simp)) _ | refine Fr.alloc ?_ _)

set_option maxRecDepth 100000 in
set_option maxHeartbeats 1000000 in
theorem vplain_2t (n : Int) (s : ByteArray) (hn : n ≠ 0) (w : World) :
    Calls Tryz.prog 71 #[.agg #[.int .i64 2, .int .i64 n, .string s]] w fun e w' => e = .returned (.agg #[.int .i64 2, .int .i64 1, .string ⟨#[]⟩]) ∧ Old w w' := by
  have hn1 : (n != 0) = true := by simpa using hn
  go_enter Tryz.func71, Tryz.ntmps71
  go_wp2_with (go_at_call 84; refine (vtruth_any true _).mono ?_; rintro e w1 ⟨rfl, hO⟩; have b1 := hO.at (heapNew1 w (.cells #[.int .i64 2, .int .i64 n, .string s] 34) (.cells #[.int .i64 0, .int .i64 0, .string ⟨#[]⟩] 34)) (fun f => f); have hF := (((Fr.refl (fun _ => False) w).alloc (.cells #[.int .i64 2, .int .i64 n, .string s] 34)).alloc (.cells #[.int .i64 0, .int .i64 0, .string ⟨#[]⟩] 34)).old hO; obtain ⟨p0, p1, p2, e0, e1, e2⟩ := cells3 b1; have hl := ltOf b1; have B1 := Lib.hid b1; clear b1)
  refine bodyPost_ret (v := .agg #[.int .i64 2, .int .i64 1, .string ⟨#[]⟩]) (by simp [results, Tryz.results71, go_sem, p0, p1, p2, hl]) rfl ⟨rfl, ?_⟩
  repeat (first | exact Fr.refl _ _ | exact hF | refine Fr.setCell ?_ (Or.inl (by simp)) _ | refine Fr.alloc ?_ _)

set_option maxRecDepth 100000 in
set_option maxHeartbeats 1000000 in
theorem vplain_3lo (n : Int) (s : ByteArray) (h : n ≤ -9007199254740991) (w : World) :
    Calls Tryz.prog 71 #[.agg #[.int .i64 3, .int .i64 n, .string s]] w fun e w' => e = .returned (.agg #[.int .i64 3, .int .i64 (-9007199254740991), .string ⟨#[]⟩]) ∧ Old w w' := by
  go_enter Tryz.func71, Tryz.ntmps71
  go_wp2_with (go_at_call 85; refine (vnum_any _ _).mono ?_; rintro e w1 ⟨rfl, hO⟩; have b1 := hO.at (heapNew1 w (.cells #[.int .i64 3, .int .i64 n, .string s] 34) (.cells #[.int .i64 0, .int .i64 0, .string ⟨#[]⟩] 34)) (fun f => f); have hF := (((Fr.refl (fun _ => False) w).alloc (.cells #[.int .i64 3, .int .i64 n, .string s] 34)).alloc (.cells #[.int .i64 0, .int .i64 0, .string ⟨#[]⟩] 34)).old hO; obtain ⟨p0, p1, p2, e0, e1, e2⟩ := cells3 b1; have hl := ltOf b1; have B1 := Lib.hid b1; clear b1)
  refine bodyPost_ret (v := .agg #[.int .i64 3, .int .i64 (-9007199254740991), .string ⟨#[]⟩]) (by simp [results, Tryz.results71, go_sem, p0, p1, p2, hl]; omega) rfl ⟨rfl, ?_⟩
  repeat (first | exact Fr.refl _ _ | exact hF | refine Fr.setCell ?_ (Or.inl (by simp)) _ | refine Fr.alloc ?_ _)

set_option maxRecDepth 100000 in
set_option maxHeartbeats 1000000 in
theorem vplain_3mid (n : Int) (s : ByteArray) (h : -9007199254740991 < n) (h2 : n < 9007199254740991) (w : World) :
    Calls Tryz.prog 71 #[.agg #[.int .i64 3, .int .i64 n, .string s]] w fun e w' => e = .returned (.agg #[.int .i64 3, .int .i64 n, .string ⟨#[]⟩]) ∧ Old w w' := by
  go_enter Tryz.func71, Tryz.ntmps71
  go_wp2_with (go_at_call 85; refine (vnum_any _ _).mono ?_; rintro e w1 ⟨rfl, hO⟩; have b1 := hO.at (heapNew1 w (.cells #[.int .i64 3, .int .i64 n, .string s] 34) (.cells #[.int .i64 0, .int .i64 0, .string ⟨#[]⟩] 34)) (fun f => f); have hF := (((Fr.refl (fun _ => False) w).alloc (.cells #[.int .i64 3, .int .i64 n, .string s] 34)).alloc (.cells #[.int .i64 0, .int .i64 0, .string ⟨#[]⟩] 34)).old hO; obtain ⟨p0, p1, p2, e0, e1, e2⟩ := cells3 b1; have hl := ltOf b1; have B1 := Lib.hid b1; clear b1)
  refine bodyPost_ret (v := .agg #[.int .i64 3, .int .i64 n, .string ⟨#[]⟩]) (by simp [results, Tryz.results71, go_sem, p0, p1, p2, hl]; omega) rfl ⟨rfl, ?_⟩
  repeat (first | exact Fr.refl _ _ | exact hF | refine Fr.setCell ?_ (Or.inl (by simp)) _ | refine Fr.alloc ?_ _)

set_option maxRecDepth 100000 in
set_option maxHeartbeats 1000000 in
theorem vplain_3hi (n : Int) (s : ByteArray) (h : 9007199254740991 ≤ n) (w : World) :
    Calls Tryz.prog 71 #[.agg #[.int .i64 3, .int .i64 n, .string s]] w fun e w' => e = .returned (.agg #[.int .i64 3, .int .i64 9007199254740991, .string ⟨#[]⟩]) ∧ Old w w' := by
  go_enter Tryz.func71, Tryz.ntmps71
  go_wp2_with (go_at_call 85; refine (vnum_any _ _).mono ?_; rintro e w1 ⟨rfl, hO⟩; have b1 := hO.at (heapNew1 w (.cells #[.int .i64 3, .int .i64 n, .string s] 34) (.cells #[.int .i64 0, .int .i64 0, .string ⟨#[]⟩] 34)) (fun f => f); have hF := (((Fr.refl (fun _ => False) w).alloc (.cells #[.int .i64 3, .int .i64 n, .string s] 34)).alloc (.cells #[.int .i64 0, .int .i64 0, .string ⟨#[]⟩] 34)).old hO; obtain ⟨p0, p1, p2, e0, e1, e2⟩ := cells3 b1; have hl := ltOf b1; have B1 := Lib.hid b1; clear b1)
  refine bodyPost_ret (v := .agg #[.int .i64 3, .int .i64 9007199254740991, .string ⟨#[]⟩]) (by simp [results, Tryz.results71, go_sem, p0, p1, p2, hl]; omega) rfl ⟨rfl, ?_⟩
  repeat (first | exact Fr.refl _ _ | exact hF | refine Fr.setCell ?_ (Or.inl (by simp)) _ | refine Fr.alloc ?_ _)


/-- value.plain. -/
theorem vplain_any (x : AV) (w : World) :
    Calls Tryz.prog 71 #[.agg #[.int .i64 x.k, .int .i64 x.n, .string x.s]] w fun e w' => e = .returned (plainV true x).v ∧ Old w w' := by
  obtain ⟨k, n, s⟩ := x
  dsimp only
  unfold plainV
  dsimp only
  by_cases h1 : k = 1
  · subst h1; rw [if_pos rfl]; exact vplain_1 n s w
  rw [if_neg h1]
  by_cases h2 : k = 2
  · subst h2; rw [if_pos rfl]
    by_cases hn : n = 0
    · subst hn; rw [if_pos rfl]; exact vplain_2f s w
    · rw [if_neg hn]; exact vplain_2t n s hn w
  rw [if_neg h2]
  by_cases h3 : k = 3
  · subst h3; rw [if_pos rfl]
    by_cases a : n ≤ -9007199254740991
    · rw [show max (-9007199254740991) (min 9007199254740991 n) = -9007199254740991 by omega]; exact vplain_3lo n s a w
    · by_cases b : n < 9007199254740991
      · rw [show max (-9007199254740991) (min 9007199254740991 n) = n by omega]; exact vplain_3mid n s (by omega) b w
      · rw [show max (-9007199254740991) (min 9007199254740991 n) = 9007199254740991 by omega]; exact vplain_3hi n s (by omega) w
  rw [if_neg h3]
  by_cases h4 : k = 4
  · subst h4; rw [if_pos rfl]; exact vplain_4 n s w
  rw [if_neg h4]
  by_cases h5 : k = 5
  · subst h5; rw [if_pos ⟨rfl, rfl⟩]; exact vplain_5 n s w
  rw [if_neg (fun h => h5 h.1)]
  exact vplain_else k n s (by simpa using h1) (by simpa using h2) (by simpa using h3) (by simpa using h4) (by simpa using h5) w
end Go.Proofs.YtlimgecmolhdhaaGreatDoor
