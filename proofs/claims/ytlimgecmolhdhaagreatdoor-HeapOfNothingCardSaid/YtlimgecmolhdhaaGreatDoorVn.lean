/- What a shower says of a value that is no thing. -/
import Derived.Test.YtlimgecmolhdhaaGreatDoorSh
import Derived.Test.YtlimgecmolhdhaaGreatDoorTx
import Derived.Test.YtlimgecmolhdhaaGreatDoorHS
import Derived.Test.YtlimgecmolhdhaaGreatDoorIt
set_option linter.unusedVariables false
set_option linter.unusedSimpArgs false
namespace Go.Proofs.YtlimgecmolhdhaaGreatDoor
open Go.RowKit

/-- How the saying of a text T ends: ok: it has been said; else there is no room for it. -/
def SQ (w : World) (sb : Nat) (hp v : Value) (l T : List UInt8) (ok : Bool) (w' : World) : Prop :=
  ok = decide (l.length + T.length ≤ 65536) ∧ ∃ l', l'.length ≤ 65536 ∧ (ok = true → l' = l ++ T) ∧ SaidPost w sb hp v l' w'
def ValPost (w : World) (sb : Nat) (hp v : Value) (l T : List UInt8) (e : Ending) (w' : World) : Prop :=
  ∃ ok : Bool, e = .returned (.bool ok) ∧ SQ w sb hp v l T ok w'

theorem SaidPost.ofOld {w w1 w' : World} {sb : Nat} {hp v : Value} {l : List UInt8} (hO : Old w w1) (h : SaidPost w1 sb hp v l w') : SaidPost w sb hp v l w' := by
  obtain ⟨v', h1, h2⟩ := h
  exact ⟨v', h1, (Go2.ofOld hO).trans h2⟩

/-- In every world in which the shower stands so, it says of the value the text T. -/
def Saying (w : World) (sb : Nat) (hp : Value) (A : World → Prop) (x : AV) (deep : Int) (T : List UInt8) : Prop :=
  ∀ W v l, A W → Shw W sb hp v l → l.length ≤ 65536 → Calls Tryz.prog 36 #[.pointer (some ⟨sb, 0, none⟩), x.v, .int .i64 deep] W (ValPost W sb hp v l T)

theorem says_any (w : World) (sb : Nat) (hp v : Value) (l : List UInt8) (s : ByteArray) (h : Shw w sb hp v l) (hl : l.length ≤ 65536) (hs : s.size ≤ 9223372036854775807) :
    Calls Tryz.prog 56 #[.pointer (some ⟨sb, 0, none⟩), .string s] w (ValPost w sb hp v l s.data.toList) := by
  have e : s.data.toList.length = s.size := by rw [Array.length_toList]; rfl
  by_cases hn : l.length + s.size ≤ 65536
  · refine (says_yes w sb hp v l s h hn).mono ?_
    rintro e w' ⟨rfl, hp⟩
    exact ⟨true, rfl, by rw [e]; exact (decide_eq_true hn).symm, l ++ s.data.toList, by rw [List.length_append]; omega, fun _ => rfl, hp⟩
  · refine (says_no w sb hp v l s h hl (by omega) hs).mono ?_
    rintro e w' ⟨rfl, rfl⟩
    exact ⟨false, rfl, by rw [e]; exact (decide_eq_false hn).symm, l, hl, (fun f => by cases f), v, h, Go2.refl _ _ _⟩

/-- What lies beside a shower stays while it speaks. -/
theorem SQ.at {w w' : World} {sb : Nat} {hp v : Value} {l T : List UInt8} {ok : Bool} (h : SQ w sb hp v l T ok w') {b : Nat} {x : Obj} (hx : w.heap[b]? = some x) (h1 : b ≠ sb) (h2 : v.ownBlock ≠ some b) : w'.heap[b]? = some x := by
  obtain ⟨_, l', _, _, v', _, h4⟩ := h
  exact h4.fr.at hx (fun e => e.elim h1 h2)

theorem SQ.size {w w' : World} {sb : Nat} {hp v : Value} {l T : List UInt8} {ok : Bool} (h : SQ w sb hp v l T ok w') : w.heap.size ≤ w'.heap.size := by
  obtain ⟨_, l', _, _, v', _, h4⟩ := h
  exact h4.fr.size

theorem SQ.ofOld {w w1 w' : World} {sb : Nat} {hp v : Value} {l T : List UInt8} {ok : Bool} (hO : Old w w1) (h : SQ w1 sb hp v l T ok w') : SQ w sb hp v l T ok w' := by
  obtain ⟨h1, l', h2, h3, h4⟩ := h
  exact ⟨h1, l', h2, h3, h4.ofOld hO⟩

set_option maxRecDepth 100000 in
set_option maxHeartbeats 1000000 in
/-- A value that is no text and no thing. -/
theorem value_plain (w : World) (sb : Nat) (hp v : Value) (k n : Int) (s : ByteArray) (deep : Int) (l : List UInt8) (T : ByteArray) (hp' : Option Addr) (hhp : hp = .pointer hp')
    (hk : (k == 4) = false) (hS : Shw w sb hp v l) (hl : l.length ≤ 65536) (hT : T.size ≤ 9223372036854775807)
    (hth : Says w nowhere anyW 40 #[hp, .agg #[.int .i64 k, .int .i64 n, .string s]] .nilIface)
    (htx : Says w nowhere anyW 58 #[.agg #[.int .i64 k, .int .i64 n, .string s]] (.string T)) :
    Calls Tryz.prog 36 #[.pointer (some ⟨sb, 0, none⟩), .agg #[.int .i64 k, .int .i64 n, .string s], .int .i64 deep] w (ValPost w sb hp v l T.data.toList) := by
  subst hhp
  have hlt := hS.lt
  have hlt1 : sb < w.heap.size + 1 := by omega
  have hlt2 : sb < w.heap.size + 1 + 1 := by omega
  have c0 := hS.cell
  go_enter Tryz.func36, Tryz.ntmps36
  go_wp2
  go_step3
  go_wp2
  have b3 := heapAlloc (heapAlloc (heapNew w (.cells #[.pointer (some ⟨sb, 0, none⟩)] 116)) (.cells #[.int .i64 k, .int .i64 n, .string s] 34)) (.cells #[.int .i64 deep] 3)
  have b4 := heapAlloc (heapNew1 w (.cells #[.pointer (some ⟨sb, 0, none⟩)] 116) (.cells #[.int .i64 k, .int .i64 n, .string s] 34)) (.cells #[.int .i64 deep] 3)
  have hA : Old w (((w.alloc (.cells #[.pointer (some ⟨sb, 0, none⟩)] 116)).alloc (.cells #[.int .i64 k, .int .i64 n, .string s] 34)).alloc (.cells #[.int .i64 deep] 3)) := (((Fr.refl _ _).alloc _).alloc _).alloc _
  have hS3 := hS.old hA
  generalize hW3 : ((w.alloc (.cells #[.pointer (some ⟨sb, 0, none⟩)] 116)).alloc (.cells #[.int .i64 k, .int .i64 n, .string s] 34)).alloc (.cells #[.int .i64 deep] 3) = W3 at *
  clear hW3
  have c3 := cellOf b3 0 (.pointer (some ⟨sb, 0, none⟩)) rfl
  obtain ⟨d0, d1, d2, _, _, _⟩ := cells3 b4
  have c00 := hS3.cell
  have B3 := Lib.hid b3; clear b3
  have B4 := Lib.hid b4; clear b4
  clear c0 hlt1 hlt2
  refine wp_region_still_tail 5 (by kernel_rfl) (by kernel_rfl) ?_
  change wpStill _ _ (World.drew _) (fun a' => wpList _ _ _ _ a' (World.drew _)) _ _
  simp only [List.take_succ_cons, List.take_zero, List.drop_succ_cons, List.drop_zero]
  repeat still_step
  refine wpStill_nil ?_
  go_wp2_with (go_at_call 40; refine (hth _ hA.drew trivial).mono ?_; rintro e w4 ⟨rfl, hO4⟩; have hO4 : Old W3 w4 := (Fr.refl _ _).drew.old hO4; have b3 := hO4.at B3.out (fun f => f); have b4 := hO4.at B4.out (fun f => f); have hS4 := hS3.old hO4; have hA4 := hA.old hO4; have c34 := cellOf b3 0 (.pointer (some ⟨sb, 0, none⟩)) rfl; obtain ⟨g0, g1, g2, _, _, _⟩ := cells3 b4; have E3 := Lib.hid b3; clear b3; have E4 := Lib.hid b4; clear b4)
  go_region_with (first | (go_at_call 58; refine (htx _ ?_ trivial).mono ?_; (exact hA4.drew); rintro e w5 ⟨rfl, hO5⟩; have hO5 : Old w4 w5 := (Fr.refl _ _).drew.old hO5; have hS5 := hS4.old hO5; have hA5 := hA4.old hO5; have c35 := cellOf (hO5.at E3.out (fun f => f)) 0 (.pointer (some ⟨sb, 0, none⟩)) rfl) | (go_at_call 56; refine (says_any _ sb _ v l T hS5 hl hT).mono ?_; rintro e w6 ⟨ok, rfl, hq⟩))
  all_goals
    go_wp2
    rw [Exit.noGoto_ret]
    go_ret
    refine ⟨ok, rfl, ?_⟩
    exact hq.ofOld hA5
end Go.Proofs.YtlimgecmolhdhaaGreatDoor
