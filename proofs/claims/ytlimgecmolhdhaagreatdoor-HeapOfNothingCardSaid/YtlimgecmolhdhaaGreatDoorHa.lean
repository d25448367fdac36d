/- Walks of the heap's smallest functions. -/
import Derived.Test.YtlimgecmolhdhaaGreatDoorFr
set_option linter.unusedVariables false
set_option linter.unusedSimpArgs false
namespace Go.Proofs.YtlimgecmolhdhaaGreatDoor
open Go.RowKit

set_option maxHeartbeats 400000 in
theorem takes_nil (w : World) :
    Calls Tryz.prog 43 #[.pointer none] w fun e w' => e = .returned (.bool false) ∧ Old w w' := by
  go_enter Tryz.func43, Tryz.ntmps43
  go_wp2
  go_quiet (fail)
  go_wp2
  go_ret
  exact ⟨rfl, (Fr.refl _ _).drewN _⟩

set_option maxHeartbeats 400000 in
theorem takes_full (w : World) (H : Nat) (room used : Int) (th : Value) (hH : w.heap[H]? = some (.cells #[.int .i64 room, .int .i64 used, th] 46 (0, 0))) (hlt : room ≤ used) :
    Calls Tryz.prog 43 #[.pointer (some ⟨H, 0, none⟩)] w fun e w' => e = .returned (.bool false) ∧ Old w w' := by
  have c0 := cellOf hH 0 _ rfl
  have c1 := cellOf hH 1 _ rfl
  have HH := Lib.hid hH; clear hH
  go_enter Tryz.func43, Tryz.ntmps43
  go_wp2
  go_quiet (fail)
  go_wp2
  go_ret
  exact ⟨rfl, (Fr.refl _ _).drewN _⟩

def TakesPost (w : World) (H : Nat) (room used : Int) (th : Value) (w' : World) : Prop :=
  w'.heap[H]? = some (.cells #[.int .i64 room, .int .i64 (used + 1), th] 46 (0, 0)) ∧ Fr (· = H) w w'

set_option maxHeartbeats 400000 in
theorem takes_yes (w : World) (H : Nat) (room used : Int) (th : Value) (hH : w.heap[H]? = some (.cells #[.int .i64 room, .int .i64 used, th] 46 (0, 0))) (hlt : used < room) (h0 : 0 ≤ used) (hm : room ≤ 1048576) :
    Calls Tryz.prog 43 #[.pointer (some ⟨H, 0, none⟩)] w fun e w' => e = .returned (.bool true) ∧ TakesPost w H room used th w' := by
  have c0 := cellOf hH 0 _ rfl
  have c1 := cellOf hH 1 _ rfl
  have f1 := freeOf hH 1
  have HH := Lib.hid hH; clear hH
  go_enter Tryz.func43, Tryz.ntmps43
  go_wp2
  go_quiet (fail)
  go_wp2
  go_ret
  exact ⟨rfl, setOf (heapDrewN HH.out _) _ _, Fr.setCell (F := (· = H)) ((Fr.refl _ _).drewN _) (Or.inr rfl) _⟩

set_option maxHeartbeats 400000 in
theorem new_ok (cells : Int) (w : World) (h0 : 0 ≤ cells) (h1 : cells ≤ 1048576) :
    Calls Tryz.prog 8 #[.int .i64 cells] w fun e w' => e = .returned (.tuple #[.pointer (some ⟨w.heap.size, 0, none⟩), .int .i64 0]) ∧
      w' = w.alloc (.cells #[.int .i64 cells, .int .i64 0, .slice none 0 0] 46) := by
  go_enter Tryz.func8, Tryz.ntmps8
  go_wp2
  go_ret2
  exact ⟨rfl, rfl⟩

set_option maxHeartbeats 400000 in
theorem new_no (cells : Int) (w : World) (h : cells < 0 ∨ 1048576 < cells) :
    Calls Tryz.prog 8 #[.int .i64 cells] w fun e w' => e = .returned (.tuple #[.pointer none, .int .i64 1]) ∧ w = w' := by
  rcases h with h | h
  · go_enter Tryz.func8, Tryz.ntmps8
    go_wp2
    go_ret2
    exact ⟨rfl, rfl⟩
  · have h' : ¬ cells < 0 := by omega
    go_enter Tryz.func8, Tryz.ntmps8
    go_wp2
    go_ret2
    exact ⟨rfl, rfl⟩

set_option maxHeartbeats 400000 in
theorem used_any (w : World) (H : Nat) (room used : Int) (th : Value) (hH : w.heap[H]? = some (.cells #[.int .i64 room, .int .i64 used, th] 46 (0, 0))) :
    Calls Tryz.prog 11 #[.pointer (some ⟨H, 0, none⟩)] w fun e w' => e = .returned (.int .i64 used) ∧ w = w' := by
  have c1 := cellOf hH 1 _ rfl
  have HH := Lib.hid hH; clear hH
  go_enter Tryz.func11, Tryz.ntmps11
  go_wp2
  go_ret
  exact ⟨rfl, rfl⟩

set_option maxHeartbeats 400000 in
theorem used_nil (w : World) :
    Calls Tryz.prog 11 #[.pointer none] w fun e w' => e = .returned (.int .i64 0) ∧ w = w' := by
  go_enter Tryz.func11, Tryz.ntmps11
  go_wp2
  go_ret
  exact ⟨rfl, rfl⟩

set_option maxHeartbeats 400000 in
theorem number_any (n : Int) (w : World) :
    Calls Tryz.prog 47 #[.int .i64 n] w fun e w' => e = .returned (.agg #[.int .i64 3, .int .i64 n, .string ⟨#[]⟩]) ∧ Old w w' := by
  go_enter Tryz.func47, Tryz.ntmps47
  go_wp2
  refine bodyPost_ret (v := .agg #[.int .i64 3, .int .i64 n, .string ⟨#[]⟩]) (by simp [results, Tryz.results47, go_sem]) rfl ⟨rfl, ?_⟩
  exact (Fr.refl _ _).alloc _

set_option maxHeartbeats 400000 in
theorem boolean_any (n : Int) (w : World) :
    Calls Tryz.prog 55 #[.int .i64 n] w fun e w' => e = .returned (.int .i64 (if n = 0 then 0 else 1)) ∧ w = w' := by
  by_cases h : n = 0
  · subst h
    go_enter Tryz.func55, Tryz.ntmps55
    go_wp2
    go_ret
    exact ⟨rfl, rfl⟩
  · have h1 : (n == 0) = false := by simpa using h
    go_enter Tryz.func55, Tryz.ntmps55
    go_wp2
    go_ret
    exact ⟨rfl, rfl⟩

set_option maxHeartbeats 400000 in
theorem thing_nil (k n : Int) (s : ByteArray) (w : World) :
    Calls Tryz.prog 40 #[.pointer none, .agg #[.int .i64 k, .int .i64 n, .string s]] w fun e w' => e = .returned .nilIface ∧ Old w w' := by
  go_enter Tryz.func40, Tryz.ntmps40
  go_wp2
  go_quiet (fail)
  go_wp2
  go_ret
  exact ⟨rfl, ((Fr.refl _ _).alloc _).drewN _⟩

set_option maxHeartbeats 400000 in
theorem thing_none (k n : Int) (s : ByteArray) (w : World) (H : Nat) (r u : Value) (a : Option Addr) (len cap : Nat)
    (hH : w.heap[H]? = some (.cells #[r, u, .slice a len cap] 46 (0, 0))) (h : k ≠ 5 ∨ n < 0 ∨ (len : Int) ≤ n) :
    Calls Tryz.prog 40 #[.pointer (some ⟨H, 0, none⟩), .agg #[.int .i64 k, .int .i64 n, .string s]] w fun e w' => e = .returned .nilIface ∧ Old w w' := by
  have c2 := cellOf (heapAlloc hH (.cells #[.int .i64 k, .int .i64 n, .string s] 34)) 2 _ rfl
  have hl := ltOf hH
  have HH := Lib.hid hH; clear hH
  by_cases h5 : k = 5
  · subst h5
    by_cases hn : n < 0
    · clear h
      go_enter Tryz.func40, Tryz.ntmps40
      go_wp2
      go_quiet (fail)
      go_wp2
      go_ret
      exact ⟨rfl, ((Fr.refl _ _).alloc _).drewN _⟩
    · have hn' : decide (n < 0) = false := by simpa using hn
      have hle : (len : Int) ≤ n := by omega
      have h0 : 0 ≤ n := by omega
      clear h
      go_enter Tryz.func40, Tryz.ntmps40
      go_wp2
      go_quiet (fail)
      go_wp2
      go_ret
      exact ⟨rfl, ((Fr.refl _ _).alloc _).drewN _⟩
  · have h1 : (k != 5) = true := by simpa using h5
    clear h h5
    go_enter Tryz.func40, Tryz.ntmps40
    go_wp2
    go_quiet (fail)
    go_wp2
    go_ret
    exact ⟨rfl, ((Fr.refl _ _).alloc _).drewN _⟩

set_option maxHeartbeats 400000 in
theorem thing_at (n : Nat) (s : ByteArray) (w : World) (H : Nat) (r u : Value) (g : Nat) (len cap : Nat) (x : Value)
    (hH : w.heap[H]? = some (.cells #[r, u, .slice (some ⟨g, 0, none⟩) len cap] 46 (0, 0))) (h : n < len)
    (hm : len ≤ 9223372036854775807) (hx : w.cell? ⟨g, n, none⟩ = some x) (hg : g < w.heap.size) :
    Calls Tryz.prog 40 #[.pointer (some ⟨H, 0, none⟩), .agg #[.int .i64 5, .int .i64 n, .string s]] w fun e w' => e = .returned x ∧ Old w w' := by
  have c2 := cellOf (heapAlloc hH (.cells #[.int .i64 5, .int .i64 n, .string s] 34)) 2 _ rfl
  have hl := ltOf hH
  have HH := Lib.hid hH; clear hH
  have h0 : decide ((n : Int) < 0) = false := decide_eq_false (by omega)
  have h1 : decide ((len : Int) ≤ n) = false := decide_eq_false (by omega)
  have hx' : (w.alloc (.cells #[.int .i64 5, .int .i64 n, .string s] 34)).cell? ⟨g, n, none⟩ = some x := by rw [World.cell?_alloc_past _ _ _ hg]; exact hx
  clear hx
  go_enter Tryz.func40, Tryz.ntmps40
  go_wp2
  go_quiet (fail)
  go_wp2
  go_quiet (fail)
  go_wp2
  go_ret
  exact ⟨rfl, (((Fr.refl _ _).alloc _).drewN _).drewN _⟩

set_option maxHeartbeats 400000 in
theorem kind_obj (mm pr : Value) (wh : Int) (w : World) :
    Calls Tryz.prog 123 #[.agg #[mm, .int .i64 wh, pr]] w fun e w' => e = .returned (.int .i64 wh) ∧ Old w w' := by
  go_enter Tryz.func123, Tryz.ntmps123
  go_wp2
  go_ret
  exact ⟨rfl, (Fr.refl _ _).alloc _⟩

set_option maxHeartbeats 400000 in
theorem kind_arr (a : Value) (w : World) :
    Calls Tryz.prog 120 #[a] w fun e w' => e = .returned (.int .i64 2) ∧ Old w w' := by
  go_enter Tryz.func120, Tryz.ntmps120
  go_wp2
  go_ret
  exact ⟨rfl, Fr.refl _ _⟩

set_option maxHeartbeats 400000 in
theorem behind_obj (mm pr : Value) (wh : Int) (w : World) :
    Calls Tryz.prog 122 #[.agg #[mm, .int .i64 wh, pr]] w fun e w' => e = .returned pr ∧ Old w w' := by
  go_enter Tryz.func122, Tryz.ntmps122
  go_wp2
  go_ret
  exact ⟨rfl, (Fr.refl _ _).alloc _⟩

set_option maxHeartbeats 400000 in
theorem behind_arr (a : Value) (w : World) :
    Calls Tryz.prog 119 #[a] w fun e w' => e = .returned .nilIface ∧ Old w w' := by
  go_enter Tryz.func119, Tryz.ntmps119
  go_wp2
  go_ret
  exact ⟨rfl, Fr.refl _ _⟩
end Go.Proofs.YtlimgecmolhdhaaGreatDoor
