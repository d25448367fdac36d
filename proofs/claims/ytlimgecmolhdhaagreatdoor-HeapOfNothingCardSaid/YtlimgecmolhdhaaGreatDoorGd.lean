/- Make, whatever stands behind. -/
import Derived.Test.YtlimgecmolhdhaaGreatDoorKn
set_option linter.unusedVariables false
set_option linter.unusedSimpArgs false
namespace Go.Proofs.YtlimgecmolhdhaaGreatDoor
open Go.RowKit

/-- What a thing is. -/
def Good (x : Value) : Prop := (∃ mm wh pr, x = .iface 96 (.agg #[mm, .int .i64 wh, pr])) ∨ ∃ q, x = .iface 86 (.pointer q)

/-- A heap H of so many things, none of which stood in w. -/
def HInv (w : World) (H : Nat) (room : Int) (m : Nat) (W : World) : Prop :=
  ∃ tv xs, W.heap[H]? = some (.cells #[.int .i64 room, .int .i64 m, tv] 46 (0, 0)) ∧ W.ownsRow 0 79 1 tv m xs ∧ (∀ x ∈ xs, Good x) ∧ tv.ownBlock ≠ some H ∧ w.heap.size ≤ H ∧ (∀ g, tv.ownBlock = some g → w.heap.size ≤ g) ∧ Old w W

theorem HInv.old {w W W' : World} {H m : Nat} {room : Int} (h : HInv w H room m W) (hO : Old W W') : HInv w H room m W' := by
  obtain ⟨tv, xs, h1, h2, h3, h4, h5, h6, h7⟩ := h
  exact ⟨tv, xs, hO.at h1 (fun f => f), hO.row h2 (fun _ _ f => f), h3, h4, h5, h6, h7.old hO⟩

theorem HInv.made {w W W' : World} {H m b : Nat} {room : Int} {tv x : Value} {xs : List Value} {body : Obj} (h2 : W.ownsRow 0 79 1 tv m xs) (h3 : ∀ x ∈ xs, Good x) (h4 : tv.ownBlock ≠ some H) (h5 : w.heap.size ≤ H) (h6 : ∀ g, tv.ownBlock = some g → w.heap.size ≤ g)
    (h7 : Old w W) (hx : Good x) (hp : MadePost W H room m tv m xs b body x W') : HInv w H room (m + 1) W' := by
  obtain ⟨g, cap, p1, p2, p3, p4, p5, p6, p7⟩ := hp
  have hg : w.heap.size ≤ g := by
    rcases p3 with e | e
    · exact h6 g e
    · have := h7.size; omega
  refine ⟨_, _, p1, p2, ?_, ?_, h5, ?_, h7.trans p7 (fun i hi e => ?_)⟩
  · intro y hy
    rcases List.mem_append.1 hy with hy | hy
    · exact h3 y hy
    · simp at hy; subst hy; exact hx
  · intro e
    simp [Value.ownBlock] at e
    obtain ⟨cur, hc⟩ := ownsRow_block p2
    rw [e, p1] at hc; cases hc
  · intro g' e
    simp [Value.ownBlock] at e
    omega
  · rcases e with e | e
    · omega
    · have := h6 i e; omega

theorem thing_there {W : World} {H m : Nat} {room used : Int} {tv : Value} {xs : List Value} (h2 : W.ownsRow 0 79 1 tv m xs) (h4 : tv.ownBlock ≠ some H) (hm : m ≤ 1048576) {p : Int} (h0 : 0 ≤ p) (hp : p < m) :
    ∃ x, x ∈ xs ∧ ThingIs W H room used tv p x := by
  obtain ⟨k, rfl⟩ := Int.eq_ofNat_of_zero_le h0
  have hk : k < m := by omega
  obtain ⟨g, c, x, rfl, hx, _, _⟩ := cell_row h2 k hk
  refine ⟨x, List.mem_of_getElem? hx, fun W' hF hH' => ?_⟩
  have hr := hF.row h2 (fun g' hg e => h4 (by rw [hg, e]))
  obtain ⟨g2, c2, x2, hs, hx2, hc2, hl2⟩ := cell_row hr k hk
  cases hs
  rw [hx] at hx2
  cases hx2
  exact thing_at k _ W' H _ _ g m c x hH' hk (by omega) hc2 hl2

theorem make_good (w W : World) (H m : Nat) (room k p : Int) (hk : 1 ≤ k ∧ k ≤ 4) (hlt : (m : Int) < room) (hm : room ≤ 1048576) (h : HInv w H room m W) :
    Calls Tryz.prog 19 #[.pointer (some ⟨H, 0, none⟩), .int .i64 k, .int .i64 p] W fun e W' => e = .returned (.tuple #[.int .i64 m, .int .i64 0]) ∧ HInv w H room (m + 1) W' := by
  obtain ⟨tv, xs, h1, h2, h3, h4, h5, h6, h7⟩ := h
  by_cases hk2 : k = 2
  · subst hk2
    refine (make_arr W H room m p tv m xs h1 hlt (by omega) hm h2 (by omega) h4).mono ?_
    rintro e W' ⟨b, rfl, hp⟩
    exact ⟨rfl, HInv.made h2 h3 h4 h5 h6 h7 (Or.inr ⟨_, rfl⟩) hp⟩
  · have slc : ∃ a c, tv = .slice a m c := by
      rcases h2.2 with ⟨rfl, e⟩ | ⟨g, cap, _, rfl, _⟩
      · exact ⟨none, 0, by rw [e]⟩
      · exact ⟨_, _, rfl⟩
    obtain ⟨a, c, rfl⟩ := slc
    by_cases hp : 0 ≤ p ∧ p < m
    · obtain ⟨x, hx, hT⟩ := thing_there (room := room) (used := m) h2 h4 (by omega) hp.1 hp.2
      rcases h3 x hx with ⟨mm, wh, pr, rfl⟩ | ⟨q, rfl⟩
      · by_cases w1 : wh = 1
        · subst w1
          refine (make_obj_keep1 W H room m k p _ m xs mm pr hk hk2 h1 hlt (by omega) hm h2 (by omega) h4 hT).mono ?_
          rintro e W' ⟨b, rfl, hp⟩
          exact ⟨rfl, HInv.made h2 h3 h4 h5 h6 h7 (Or.inl ⟨_, _, _, rfl⟩) hp⟩
        · by_cases w4 : wh = 4
          · subst w4
            refine (make_obj_keep4 W H room m k p _ m xs mm pr hk hk2 h1 hlt (by omega) hm h2 (by omega) h4 hT).mono ?_
            rintro e W' ⟨b, rfl, hp⟩
            exact ⟨rfl, HInv.made h2 h3 h4 h5 h6 h7 (Or.inl ⟨_, _, _, rfl⟩) hp⟩
          · refine (make_obj_drop W H room m k p _ m xs mm pr wh (by simpa using w1) (by simpa using w4) hk hk2 h1 hlt (by omega) hm h2 (by omega) h4 hT).mono ?_
            rintro e W' ⟨b, rfl, hp⟩
            exact ⟨rfl, HInv.made h2 h3 h4 h5 h6 h7 (Or.inl ⟨_, _, _, rfl⟩) hp⟩
      · refine (make_obj_arr W H room m k p _ m xs q hk hk2 h1 hlt (by omega) hm h2 (by omega) h4 hT).mono ?_
        rintro e W' ⟨b, rfl, hp⟩
        exact ⟨rfl, HInv.made h2 h3 h4 h5 h6 h7 (Or.inl ⟨_, _, _, rfl⟩) hp⟩
    · refine (make_obj_nil W H room m k p _ m xs hk hk2 h1 hlt (by omega) hm h2 (by omega) h4 (fun W' _ hW => thing_none 5 p _ W' H _ _ a m c hW (Or.inr (by omega)))).mono ?_
      rintro e W' ⟨b, rfl, hp⟩
      exact ⟨rfl, HInv.made h2 h3 h4 h5 h6 h7 (Or.inl ⟨_, _, _, rfl⟩) hp⟩

theorem make_not (w W : World) (H m : Nat) (room k p : Int) (hlt : room ≤ m) (h : HInv w H room m W) :
    Calls Tryz.prog 19 #[.pointer (some ⟨H, 0, none⟩), .int .i64 k, .int .i64 p] W fun e W' => e = .returned (.tuple #[.int .i64 (-1), .int .i64 3]) ∧ HInv w H room m W' := by
  obtain ⟨tv, xs, h1, h2, h3, h4, h5, h6, h7⟩ := h
  refine (make_full W H room m k p tv h1 hlt).mono ?_
  rintro e W' ⟨rfl, hO⟩
  exact ⟨rfl, HInv.old ⟨tv, xs, h1, h2, h3, h4, h5, h6, h7⟩ hO⟩

theorem used_inv {w W : World} {H m : Nat} {room : Int} (h : HInv w H room m W) :
    Calls Tryz.prog 11 #[.pointer (some ⟨H, 0, none⟩)] W fun e W' => e = .returned (.int .i64 m) ∧ W = W' := by
  obtain ⟨tv, xs, h1, _⟩ := h
  exact used_any W H room m tv h1

theorem HInv.start (w : World) (room : Int) : HInv w w.heap.size room 0 (w.alloc (.cells #[.int .i64 room, .int .i64 0, .slice none 0 0] 46)) :=
  ⟨_, [], heapNew w _, ⟨rfl, Or.inl ⟨rfl, rfl⟩⟩, (fun _ h => by cases h), by simp [Value.ownBlock], Nat.le_refl _, fun g h => by simp [Value.ownBlock] at h, (Fr.refl _ _).alloc _⟩
end Go.Proofs.YtlimgecmolhdhaaGreatDoor
