/- Set of a heap. -/
import Derived.Test.YtlimgecmolhdhaaGreatDoorHn
import Derived.Test.YtlimgecmolhdhaaGreatDoorHt
import Derived.Deep.RegionHeld3
import Derived.Deep.RegionWith
set_option linter.unusedVariables false
set_option linter.unusedSimpArgs false
namespace Go.Proofs.YtlimgecmolhdhaaGreatDoor
open Go.RowKit

/-- In every world that the first may become so, the call answers v and leaves all as it was. -/
def Says (w : World) (F : Nat → Prop) (A : World → Prop) (f : Nat) (args : Array Value) (v : Value) : Prop :=
  ∀ W, Fr F w W → A W → Calls Tryz.prog f args W fun e w' => e = .returned v ∧ Old W w'
/-- .. and does this. -/
def Does (w : World) (F : Nat → Prop) (A : World → Prop) (f : Nat) (args : Array Value) (v : Value) (D : World → World → Prop) : Prop :=
  ∀ W, Fr F w W → A W → Calls Tryz.prog f args W fun e w' => e = .returned v ∧ D W w'

abbrev nowhere : Nat → Prop := fun _ => False
abbrev anyW : World → Prop := fun _ => True

set_option maxRecDepth 100000 in
set_option maxHeartbeats 1000000 in
theorem Set_there (w : World) (h : Value) (mb : Nat) (what : Int) (pr : Value) (vk vn : Int) (vs : ByteArray) (tk tn : Int) (ts : ByteArray) (key : ByteArray) (ok on : Int) (os : ByteArray) (pk pn : Int) (ps : ByteArray) (D : World → World → Prop)
    (hpr : pr.oneCell' = true)
    (hT : Says w nowhere anyW 40 #[h, .agg #[.int .i64 vk, .int .i64 vn, .string vs]] (.iface 96 (.agg #[.pointer (some ⟨mb, 0, none⟩), .int .i64 what, pr])))
    (hO : Says w nowhere anyW 44 #[.pointer (some ⟨mb, 0, none⟩), .string key] (.tuple #[.agg #[.int .i64 ok, .int .i64 on, .string os], .bool true]))
    (hP : Says w nowhere anyW 35 #[h, .agg #[.int .i64 tk, .int .i64 tn, .string ts]] (.agg #[.int .i64 pk, .int .i64 pn, .string ps]))
    (hS : Does w nowhere anyW 45 #[.pointer (some ⟨mb, 0, none⟩), .string key, .agg #[.int .i64 pk, .int .i64 pn, .string ps]] (.tuple #[]) D) :
    Calls Tryz.prog 20 #[h, .agg #[.int .i64 vk, .int .i64 vn, .string vs], .string key, .agg #[.int .i64 tk, .int .i64 tn, .string ts]] w fun e w' =>
      e = .returned (.tuple #[.string ⟨#[]⟩, .int .i64 0]) ∧ ∃ W, Old w W ∧ D W w' := by
  have q1 := ta_obj_obj
  have q2 := store_one (P := Tryz.prog) hpr
  clear hpr
  go_enter Tryz.func20, Tryz.ntmps20
  go_wp2_with (first | (go_at_call 40; refine (hT _ (((Fr.refl _ _).alloc _).alloc _) trivial).mono ?_; rintro e w1 ⟨rfl, hO1⟩; have hF1 := (((Fr.refl nowhere w).alloc _).alloc _).old hO1; have B7 := Lib.hid (hO1.at (heapNew1 w (.cells #[.int .i64 vk, .int .i64 vn, .string vs] 34) (.cells #[.int .i64 tk, .int .i64 tn, .string ts] 34)) (fun f => f))) | (go_at_call 44; refine (hO _ (hF1.alloc _) trivial).mono ?_; rintro e w2 ⟨rfl, hO2⟩; have hF2 := (hF1.alloc _).old hO2; have B10 := Lib.hid (hO2.at (heapNew w1 (.cells #[.pointer (some ⟨mb, 0, none⟩), .int .i64 what, pr] 96)) (fun f => f)); have B7' := Lib.hid (hO2.at (heapAlloc B7.out _) (fun f => f))))
  have hF3 := hF2.alloc (.cells #[.int .i64 ok, .int .i64 on, .string os] 34)
  have B8 := heapAlloc B7'.out (.cells #[.int .i64 ok, .int .i64 on, .string os] 34)
  have B9 := heapAlloc B10.out (.cells #[.int .i64 ok, .int .i64 on, .string os] 34)
  clear B7 B7' B10
  generalize w2.alloc (.cells #[.int .i64 ok, .int .i64 on, .string os] 34) = W3 at *
  obtain ⟨d0, d1, d2, _, _, _⟩ := cells3 B8
  obtain ⟨e0, _, _, _, _, _⟩ := cells3 B9
  have C8 := Lib.hid B8; clear B8
  have C9 := Lib.hid B9; clear B9
  go_region_with (first | (go_at_call 35; refine (hP _ ?_ trivial).mono ?_; (exact hF3.drew); rintro e w4 ⟨rfl, hO4⟩; have hF4 := hF3.drew.old hO4; obtain ⟨g0, _, _, _, _, _⟩ := cells3 (hO4.at C9.out (fun f => f)))| (go_at_call 45; refine (hS _ ?_ trivial).mono ?_; (exact hF4); rintro e w5 ⟨rfl, hD⟩))
  all_goals (go_wp2; go_ret2; exact ⟨rfl, _, hF4, hD⟩)

set_option maxRecDepth 100000 in
set_option maxHeartbeats 1000000 in
theorem Set_new (w : World) (H : Nat) (room used : Int) (tv : Value) (mb : Nat) (what : Int) (pr : Value) (vk vn : Int) (vs : ByteArray) (tk tn : Int) (ts : ByteArray) (key : ByteArray) (ok on : Int) (os : ByteArray) (pk pn : Int) (ps : ByteArray) (D : World → World → Prop)
    (hH : w.heap[H]? = some (.cells #[.int .i64 room, .int .i64 used, tv] 46 (0, 0))) (hlt : used < room) (h0 : 0 ≤ used) (hm : room ≤ 1048576)
    (hpr : pr.oneCell' = true)
    (hT : Says w nowhere anyW 40 #[.pointer (some ⟨H, 0, none⟩), .agg #[.int .i64 vk, .int .i64 vn, .string vs]] (.iface 96 (.agg #[.pointer (some ⟨mb, 0, none⟩), .int .i64 what, pr])))
    (hO : Says w nowhere anyW 44 #[.pointer (some ⟨mb, 0, none⟩), .string key] (.tuple #[.agg #[.int .i64 ok, .int .i64 on, .string os], .bool false]))
    (hP : Says w (· = H) (fun W => W.heap[H]? = some (.cells #[.int .i64 room, .int .i64 (used + 1), tv] 46 (0, 0))) 35 #[.pointer (some ⟨H, 0, none⟩), .agg #[.int .i64 tk, .int .i64 tn, .string ts]] (.agg #[.int .i64 pk, .int .i64 pn, .string ps]))
    (hS : Does w (· = H) (fun W => W.heap[H]? = some (.cells #[.int .i64 room, .int .i64 (used + 1), tv] 46 (0, 0))) 45 #[.pointer (some ⟨mb, 0, none⟩), .string key, .agg #[.int .i64 pk, .int .i64 pn, .string ps]] (.tuple #[]) D) :
    Calls Tryz.prog 20 #[.pointer (some ⟨H, 0, none⟩), .agg #[.int .i64 vk, .int .i64 vn, .string vs], .string key, .agg #[.int .i64 tk, .int .i64 tn, .string ts]] w fun e w' =>
      e = .returned (.tuple #[.string ⟨#[]⟩, .int .i64 0]) ∧ ∃ W, Fr (· = H) w W ∧ W.heap[H]? = some (.cells #[.int .i64 room, .int .i64 (used + 1), tv] 46 (0, 0)) ∧ D W w' := by
  have hl := ltOf hH
  have HH := Lib.hid hH; clear hH
  have q1 := ta_obj_obj
  have q2 := store_one (P := Tryz.prog) hpr
  clear hpr
  go_enter Tryz.func20, Tryz.ntmps20
  go_wp2_with (first | (go_at_call 40; refine (hT _ (((Fr.refl _ _).alloc _).alloc _) trivial).mono ?_; rintro e w1 ⟨rfl, hO1⟩; have hF1 := (((Fr.refl nowhere w).alloc _).alloc _).old hO1; have B7 := Lib.hid (hO1.at (heapNew1 w (.cells #[.int .i64 vk, .int .i64 vn, .string vs] 34) (.cells #[.int .i64 tk, .int .i64 tn, .string ts] 34)) (fun f => f))) | (go_at_call 44; refine (hO _ (hF1.alloc _) trivial).mono ?_; rintro e w2 ⟨rfl, hO2⟩; have hF2 := (hF1.alloc _).old hO2; have B10 := Lib.hid (hO2.at (heapNew w1 (.cells #[.pointer (some ⟨mb, 0, none⟩), .int .i64 what, pr] 96)) (fun f => f)); have B7' := Lib.hid (hO2.at (heapAlloc B7.out _) (fun f => f))) | (go_at_call 43; refine (takes_yes _ H room used tv (hF2.alloc _ |>.at HH.out (fun f => f)) hlt h0 hm).mono ?_; rintro e w3 ⟨rfl, hH3, hK3⟩; have hF3 := (hF2.alloc _).mono (G := (· = H)) (fun _ _ f => f.elim) |>.trans hK3 (fun _ _ h => h); have HH3 := Lib.hid hH3; clear hH3; have B8 := hK3.at (heapAlloc B7'.out (.cells #[.int .i64 ok, .int .i64 on, .string os] 34)) (fun e => by omega); have B9 := hK3.at (heapAlloc B10.out (.cells #[.int .i64 ok, .int .i64 on, .string os] 34)) (fun e => by have := hF1.size; omega); obtain ⟨d0, d1, d2, _, _, _⟩ := cells3 B8; obtain ⟨e0, _, _, _, _, _⟩ := cells3 B9; have C8 := Lib.hid B8; clear B8; have C9 := Lib.hid B9; clear B9))
  go_region_with (first | (go_at_call 35; refine (hP _ ?_ ?_).mono ?_; (exact hF3.drew); (exact heapDrew HH3.out); rintro e w4 ⟨rfl, hO4⟩; have hF4 := hF3.drew.old hO4; have HH4 := Lib.hid (hO4.at (heapDrew HH3.out) (fun f => f)); obtain ⟨g0, _, _, _, _, _⟩ := cells3 (hO4.at (heapDrew C9.out) (fun f => f)))| (go_at_call 45; refine (hS _ ?_ ?_).mono ?_; (exact hF4); (exact HH4.out); rintro e w5 ⟨rfl, hD⟩))
  all_goals (go_wp2; go_ret2; exact ⟨rfl, _, hF4, HH4.out, hD⟩)
end Go.Proofs.YtlimgecmolhdhaaGreatDoor
