/- A value as text: value.Text and the reference's Text. -/
import Derived.Test.YtlimgecmolhdhaaGreatDoorTg
set_option linter.unusedVariables false
set_option linter.unusedSimpArgs false
namespace Go.Proofs.YtlimgecmolhdhaaGreatDoor
open Go.RowKit

/-- A value's text. -/
def textB (y : AV) : ByteArray :=
  if y.k = 1 then ⟨#[110, 117, 108, 108]⟩
  else if y.k = 2 then (if y.n = 0 then ⟨#[102, 97, 108, 115, 101]⟩ else ⟨#[116, 114, 117, 101]⟩)
  else if y.k = 3 then ⟨(Lib.itoa y.n).toArray⟩
  else if y.k = 4 then y.s
  else if y.k = 5 then ⟨#[]⟩
  else ⟨#[117, 110, 100, 101, 102, 105, 110, 101, 100]⟩
def textP (x : AV) : ByteArray := textB (plainV true x)
/-- What a plain value may be. -/
def isPlain (y : AV) : Prop := y.k = 0 ∨ y.k = 1 ∨ (y.k = 2 ∧ (y.n = 0 ∨ y.n = 1)) ∨ (y.k = 3 ∧ -9007199254740991 ≤ y.n ∧ y.n ≤ 9007199254740991) ∨ y.k = 4 ∨ y.k = 5
theorem plainV_is (b : Bool) (x : AV) : isPlain (plainV b x) := by
  unfold isPlain plainV
  split
  · exact Or.inr (Or.inl rfl)
  split
  · split
    · exact Or.inr (Or.inr (Or.inl ⟨rfl, Or.inl rfl⟩))
    · exact Or.inr (Or.inr (Or.inl ⟨rfl, Or.inr rfl⟩))
  split
  · exact Or.inr (Or.inr (Or.inr (Or.inl ⟨rfl, by dsimp only; omega, by dsimp only; omega⟩)))
  split
  · exact Or.inr (Or.inr (Or.inr (Or.inr (Or.inl rfl))))
  split
  · exact Or.inr (Or.inr (Or.inr (Or.inr (Or.inr rfl))))
  · exact Or.inl rfl

set_option maxRecDepth 100000 in
set_option maxHeartbeats 4000000 in
theorem ptext_any (x : AV) (w : World) (hT : Tab w) :
    Calls Tryz.prog 58 #[.agg #[.int .i64 x.k, .int .i64 x.n, .string x.s]] w fun e w' => e = .returned (.string (textP x)) ∧ Old w w' := by
  have hP0 := fun w => vplain_any x w
  have hy := plainV_is true x
  unfold textP
  generalize plainV true x = y at *
  obtain ⟨k, n, s⟩ := y
  unfold isPlain at hy
  dsimp only at hy
  have hP : ∀ w, Calls Tryz.prog 71 #[.agg #[.int .i64 x.k, .int .i64 x.n, .string x.s]] w fun e w' => e = .returned (.agg #[.int .i64 k, .int .i64 n, .string s]) ∧ Old w w' := hP0
  clear hP0
  rcases hy with rfl | rfl | ⟨rfl, rfl | rfl⟩ | ⟨rfl, hn1, hn2⟩ | rfl | rfl
  · go_enter Tryz.func58, Tryz.ntmps58
    go_wp2_with (go_at_call 71; refine (hP _).mono ?_; rintro e w1 ⟨rfl, hO⟩; have b1 := hO.at (heapNew w (.cells #[.int .i64 x.k, .int .i64 x.n, .string x.s] 34)) (fun f => f); have hF := ((Fr.refl (fun _ => False) w).alloc (.cells #[.int .i64 x.k, .int .i64 x.n, .string x.s] 34)).old hO; obtain ⟨p0, p1, p2, e0, e1, e2⟩ := cells3 b1; have hl := ltOf b1; have B1 := Lib.hid b1; clear b1)
    go_ret
    refine ⟨rfl, ?_⟩
    repeat (first | exact hF | refine Fr.setCell ?_ (Or.inl (Nat.le_refl _)) _ | refine Fr.alloc ?_ _)
  · go_enter Tryz.func58, Tryz.ntmps58
    go_wp2_with (go_at_call 71; refine (hP _).mono ?_; rintro e w1 ⟨rfl, hO⟩; have b1 := hO.at (heapNew w (.cells #[.int .i64 x.k, .int .i64 x.n, .string x.s] 34)) (fun f => f); have hF := ((Fr.refl (fun _ => False) w).alloc (.cells #[.int .i64 x.k, .int .i64 x.n, .string x.s] 34)).old hO; obtain ⟨p0, p1, p2, e0, e1, e2⟩ := cells3 b1; have hl := ltOf b1; have B1 := Lib.hid b1; clear b1)
    go_ret
    refine ⟨rfl, ?_⟩
    repeat (first | exact hF | refine Fr.setCell ?_ (Or.inl (Nat.le_refl _)) _ | refine Fr.alloc ?_ _)
  · go_enter Tryz.func58, Tryz.ntmps58
    go_wp2_with (first | (go_at_call 71; refine (hP _).mono ?_; rintro e w1 ⟨rfl, hO⟩; have b1 := hO.at (heapNew w (.cells #[.int .i64 x.k, .int .i64 x.n, .string x.s] 34)) (fun f => f); have hF := ((Fr.refl (fun _ => False) w).alloc (.cells #[.int .i64 x.k, .int .i64 x.n, .string x.s] 34)).old hO; obtain ⟨p0, p1, p2, e0, e1, e2⟩ := cells3 b1; have hl := ltOf b1; have B1 := Lib.hid b1; clear b1) | (go_at_call 72; refine (fbool_any false _).mono ?_; rintro e w2 ⟨rfl, hO2⟩; have hF2 := (((hF.setCell (p := ⟨w.heap.size, 0, none⟩) (Or.inl (Nat.le_refl _)) _).setCell (p := ⟨w.heap.size, 1, none⟩) (Or.inl (Nat.le_refl _)) _).setCell (p := ⟨w.heap.size, 2, none⟩) (Or.inl (Nat.le_refl _)) _).old hO2))
    go_ret
    exact ⟨rfl, hF2⟩
  · go_enter Tryz.func58, Tryz.ntmps58
    go_wp2_with (first | (go_at_call 71; refine (hP _).mono ?_; rintro e w1 ⟨rfl, hO⟩; have b1 := hO.at (heapNew w (.cells #[.int .i64 x.k, .int .i64 x.n, .string x.s] 34)) (fun f => f); have hF := ((Fr.refl (fun _ => False) w).alloc (.cells #[.int .i64 x.k, .int .i64 x.n, .string x.s] 34)).old hO; obtain ⟨p0, p1, p2, e0, e1, e2⟩ := cells3 b1; have hl := ltOf b1; have B1 := Lib.hid b1; clear b1) | (go_at_call 72; refine (fbool_any true _).mono ?_; rintro e w2 ⟨rfl, hO2⟩; have hF2 := (((hF.setCell (p := ⟨w.heap.size, 0, none⟩) (Or.inl (Nat.le_refl _)) _).setCell (p := ⟨w.heap.size, 1, none⟩) (Or.inl (Nat.le_refl _)) _).setCell (p := ⟨w.heap.size, 2, none⟩) (Or.inl (Nat.le_refl _)) _).old hO2))
    go_ret
    exact ⟨rfl, hF2⟩
  · go_enter Tryz.func58, Tryz.ntmps58
    go_wp2_with (first | (go_at_call 71; refine (hP _).mono ?_; rintro e w1 ⟨rfl, hO⟩; have b1 := hO.at (heapNew w (.cells #[.int .i64 x.k, .int .i64 x.n, .string x.s] 34)) (fun f => f); have hF := ((Fr.refl (fun _ => False) w).alloc (.cells #[.int .i64 x.k, .int .i64 x.n, .string x.s] 34)).old hO; obtain ⟨p0, p1, p2, e0, e1, e2⟩ := cells3 b1; have hl := ltOf b1; have B1 := Lib.hid b1; clear b1) | (go_at_call 73; refine (pitoa_any _ (by omega) (by omega) _ (hT.old (((hF.setCell (p := ⟨w.heap.size, 0, none⟩) (Or.inl (Nat.le_refl _)) _).setCell (p := ⟨w.heap.size, 1, none⟩) (Or.inl (Nat.le_refl _)) _).setCell (p := ⟨w.heap.size, 2, none⟩) (Or.inl (Nat.le_refl _)) _))).mono ?_; rintro e w2 ⟨rfl, hO2⟩; have hF2 := (((hF.setCell (p := ⟨w.heap.size, 0, none⟩) (Or.inl (Nat.le_refl _)) _).setCell (p := ⟨w.heap.size, 1, none⟩) (Or.inl (Nat.le_refl _)) _).setCell (p := ⟨w.heap.size, 2, none⟩) (Or.inl (Nat.le_refl _)) _).old hO2))
    go_ret
    exact ⟨rfl, hF2⟩
  · go_enter Tryz.func58, Tryz.ntmps58
    go_wp2_with (go_at_call 71; refine (hP _).mono ?_; rintro e w1 ⟨rfl, hO⟩; have b1 := hO.at (heapNew w (.cells #[.int .i64 x.k, .int .i64 x.n, .string x.s] 34)) (fun f => f); have hF := ((Fr.refl (fun _ => False) w).alloc (.cells #[.int .i64 x.k, .int .i64 x.n, .string x.s] 34)).old hO; obtain ⟨p0, p1, p2, e0, e1, e2⟩ := cells3 b1; have hl := ltOf b1; have B1 := Lib.hid b1; clear b1)
    go_ret
    refine ⟨rfl, ?_⟩
    repeat (first | exact hF | refine Fr.setCell ?_ (Or.inl (Nat.le_refl _)) _ | refine Fr.alloc ?_ _)
  · go_enter Tryz.func58, Tryz.ntmps58
    go_wp2_with (go_at_call 71; refine (hP _).mono ?_; rintro e w1 ⟨rfl, hO⟩; have b1 := hO.at (heapNew w (.cells #[.int .i64 x.k, .int .i64 x.n, .string x.s] 34)) (fun f => f); have hF := ((Fr.refl (fun _ => False) w).alloc (.cells #[.int .i64 x.k, .int .i64 x.n, .string x.s] 34)).old hO; obtain ⟨p0, p1, p2, e0, e1, e2⟩ := cells3 b1; have hl := ltOf b1; have B1 := Lib.hid b1; clear b1)
    go_ret
    refine ⟨rfl, ?_⟩
    repeat (first | exact hF | refine Fr.setCell ?_ (Or.inl (Nat.le_refl _)) _ | refine Fr.alloc ?_ _)

set_option maxRecDepth 100000 in
set_option maxHeartbeats 4000000 in
theorem rtext_any (x : AV) (w : World) :
    Calls Tryz.prog 62 #[.agg #[.int .i64 x.k, .int .i64 x.n, .string x.s]] w fun e w' => e = .returned (.string (textP x)) ∧ Old w w' := by
  have hP0 := fun w => rsane_any x w
  have hy := plainV_is true x
  unfold textP
  generalize plainV true x = y at *
  obtain ⟨k, n, s⟩ := y
  unfold isPlain at hy
  dsimp only at hy
  have hP : ∀ w, Calls Tryz.prog 60 #[.agg #[.int .i64 x.k, .int .i64 x.n, .string x.s]] w fun e w' => e = .returned (.agg #[.int .i64 k, .int .i64 n, .string s]) ∧ Old w w' := hP0
  clear hP0
  rcases hy with rfl | rfl | ⟨rfl, rfl | rfl⟩ | ⟨rfl, hn1, hn2⟩ | rfl | rfl
  · go_enter Tryz.func62, Tryz.ntmps62
    go_wp2_with (go_at_call 60; refine (hP _).mono ?_; rintro e w1 ⟨rfl, hO⟩; have b1 := hO.at (heapNew w (.cells #[.int .i64 x.k, .int .i64 x.n, .string x.s] 34)) (fun f => f); have hF := ((Fr.refl (fun _ => False) w).alloc (.cells #[.int .i64 x.k, .int .i64 x.n, .string x.s] 34)).old hO; obtain ⟨p0, p1, p2, e0, e1, e2⟩ := cells3 b1; have hl := ltOf b1; have B1 := Lib.hid b1; clear b1)
    go_ret
    refine ⟨rfl, ?_⟩
    repeat (first | exact hF | refine Fr.setCell ?_ (Or.inl (Nat.le_refl _)) _ | refine Fr.alloc ?_ _)
  · go_enter Tryz.func62, Tryz.ntmps62
    go_wp2_with (go_at_call 60; refine (hP _).mono ?_; rintro e w1 ⟨rfl, hO⟩; have b1 := hO.at (heapNew w (.cells #[.int .i64 x.k, .int .i64 x.n, .string x.s] 34)) (fun f => f); have hF := ((Fr.refl (fun _ => False) w).alloc (.cells #[.int .i64 x.k, .int .i64 x.n, .string x.s] 34)).old hO; obtain ⟨p0, p1, p2, e0, e1, e2⟩ := cells3 b1; have hl := ltOf b1; have B1 := Lib.hid b1; clear b1)
    go_ret
    refine ⟨rfl, ?_⟩
    repeat (first | exact hF | refine Fr.setCell ?_ (Or.inl (Nat.le_refl _)) _ | refine Fr.alloc ?_ _)
  · go_enter Tryz.func62, Tryz.ntmps62
    go_wp2_with (go_at_call 60; refine (hP _).mono ?_; rintro e w1 ⟨rfl, hO⟩; have b1 := hO.at (heapNew w (.cells #[.int .i64 x.k, .int .i64 x.n, .string x.s] 34)) (fun f => f); have hF := ((Fr.refl (fun _ => False) w).alloc (.cells #[.int .i64 x.k, .int .i64 x.n, .string x.s] 34)).old hO; obtain ⟨p0, p1, p2, e0, e1, e2⟩ := cells3 b1; have hl := ltOf b1; have B1 := Lib.hid b1; clear b1)
    go_ret
    refine ⟨rfl, ?_⟩
    repeat (first | exact hF | refine Fr.setCell ?_ (Or.inl (Nat.le_refl _)) _ | refine Fr.alloc ?_ _)
  · go_enter Tryz.func62, Tryz.ntmps62
    go_wp2_with (go_at_call 60; refine (hP _).mono ?_; rintro e w1 ⟨rfl, hO⟩; have b1 := hO.at (heapNew w (.cells #[.int .i64 x.k, .int .i64 x.n, .string x.s] 34)) (fun f => f); have hF := ((Fr.refl (fun _ => False) w).alloc (.cells #[.int .i64 x.k, .int .i64 x.n, .string x.s] 34)).old hO; obtain ⟨p0, p1, p2, e0, e1, e2⟩ := cells3 b1; have hl := ltOf b1; have B1 := Lib.hid b1; clear b1)
    go_ret
    refine ⟨rfl, ?_⟩
    repeat (first | exact hF | refine Fr.setCell ?_ (Or.inl (Nat.le_refl _)) _ | refine Fr.alloc ?_ _)
  · go_enter Tryz.func62, Tryz.ntmps62
    go_wp2_with (first | (go_at_call 60; refine (hP _).mono ?_; rintro e w1 ⟨rfl, hO⟩; have b1 := hO.at (heapNew w (.cells #[.int .i64 x.k, .int .i64 x.n, .string x.s] 34)) (fun f => f); have hF := ((Fr.refl (fun _ => False) w).alloc (.cells #[.int .i64 x.k, .int .i64 x.n, .string x.s] 34)).old hO; obtain ⟨p0, p1, p2, e0, e1, e2⟩ := cells3 b1; have hl := ltOf b1; have B1 := Lib.hid b1; clear b1) | (go_at_call 77; refine (rdigits_any _ (by omega) (by omega) _).mono ?_; rintro e w2 ⟨rfl, hO2⟩; have hF2 := (hF.alloc _).old hO2))
    go_ret
    exact ⟨rfl, hF2⟩
  · go_enter Tryz.func62, Tryz.ntmps62
    go_wp2_with (go_at_call 60; refine (hP _).mono ?_; rintro e w1 ⟨rfl, hO⟩; have b1 := hO.at (heapNew w (.cells #[.int .i64 x.k, .int .i64 x.n, .string x.s] 34)) (fun f => f); have hF := ((Fr.refl (fun _ => False) w).alloc (.cells #[.int .i64 x.k, .int .i64 x.n, .string x.s] 34)).old hO; obtain ⟨p0, p1, p2, e0, e1, e2⟩ := cells3 b1; have hl := ltOf b1; have B1 := Lib.hid b1; clear b1)
    go_ret
    refine ⟨rfl, ?_⟩
    repeat (first | exact hF | refine Fr.setCell ?_ (Or.inl (Nat.le_refl _)) _ | refine Fr.alloc ?_ _)
  · go_enter Tryz.func62, Tryz.ntmps62
    go_wp2_with (go_at_call 60; refine (hP _).mono ?_; rintro e w1 ⟨rfl, hO⟩; have b1 := hO.at (heapNew w (.cells #[.int .i64 x.k, .int .i64 x.n, .string x.s] 34)) (fun f => f); have hF := ((Fr.refl (fun _ => False) w).alloc (.cells #[.int .i64 x.k, .int .i64 x.n, .string x.s] 34)).old hO; obtain ⟨p0, p1, p2, e0, e1, e2⟩ := cells3 b1; have hl := ltOf b1; have B1 := Lib.hid b1; clear b1)
    go_ret
    refine ⟨rfl, ?_⟩
    repeat (first | exact hF | refine Fr.setCell ?_ (Or.inl (Nat.le_refl _)) _ | refine Fr.alloc ?_ _)
end Go.Proofs.YtlimgecmolhdhaaGreatDoor
