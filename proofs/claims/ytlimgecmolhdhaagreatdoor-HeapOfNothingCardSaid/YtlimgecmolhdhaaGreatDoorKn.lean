/- known: an object with a member. -/
import Derived.Test.YtlimgecmolhdhaaGreatDoorSw
import Derived.Test.YtlimgecmolhdhaaGreatDoorHm
set_option linter.unusedVariables false
set_option linter.unusedSimpArgs false
namespace Go.Proofs.YtlimgecmolhdhaaGreatDoor
open Go.RowKit

/-- The heap H of an object alone, its members in b. -/
structure KHeap (w w' : World) (H b g cap : Nat) (used : Int) : Prop where
  old : Old w w'
  H0 : w.heap.size ≤ H
  g0 : w.heap.size ≤ g
  b0 : w.heap.size ≤ b
  hp : w'.heap[H]? = some (.cells #[.int .i64 9, .int .i64 used, .slice (some ⟨g, 0, none⟩) 1 cap] 46 (0, 0))
  row : w'.ownsRow 0 79 1 (.slice (some ⟨g, 0, none⟩) 1 cap) 1 [.iface 96 (.agg #[.pointer (some ⟨b, 0, none⟩), .int .i64 1, .nilIface])]
  gH : g ≠ H
  gb : g ≠ b
  bH : b ≠ H

theorem ownsRow_block {w : World} {base e size n : Nat} {g cap len : Nat} {xs : List Value} (h : w.ownsRow base e size (.slice (some ⟨g, 0, none⟩) len cap) n xs) : ∃ cur, w.heap[g]? = some (.cells cur e (0, 0)) := by
  rcases h.2 with ⟨h1, _⟩ | ⟨g', cap', cur, h1, _, hg, _⟩
  · cases h1
  · cases h1; exact ⟨cur, hg⟩

theorem kn_make (w : World) : Calls Tryz.prog 19 #[.pointer (some ⟨w.heap.size, 0, none⟩), .int .i64 1, .int .i64 (-1)] (w.alloc (.cells #[.int .i64 9, .int .i64 0, .slice none 0 0] 46)) fun e w' =>
    e = .returned (.tuple #[.int .i64 0, .int .i64 0]) ∧ ∃ b g cap, KHeap w w' w.heap.size b g cap 1 ∧ w'.heap[b]? = some (.cells #[.map none, .slice none 0 0] 94 (0, 0)) := by
  have hH := heapNew w (.cells #[.int .i64 9, .int .i64 0, .slice none 0 0] 46)
  have hO : Old w (w.alloc (.cells #[.int .i64 9, .int .i64 0, .slice none 0 0] 46)) := (Fr.refl _ _).alloc _
  have hsz : (w.alloc (.cells #[.int .i64 9, .int .i64 0, .slice none 0 0] 46)).heap.size = w.heap.size + 1 := World.size_alloc _ _
  generalize w.alloc (.cells #[.int .i64 9, .int .i64 0, .slice none 0 0] 46) = w1 at *
  refine (make_obj_nil w1 w.heap.size 9 0 1 (-1) (.slice none 0 0) 0 [] (by decide) (by decide) hH (by decide) (by decide) (by decide) ⟨rfl, Or.inl ⟨rfl, rfl⟩⟩ (by decide) (by simp [Value.ownBlock])
    (fun W hF hW => thing_none 5 (-1) ⟨#[]⟩ W w.heap.size _ _ none 0 0 hW (Or.inr (Or.inl (by decide))))).mono ?_
  rintro e w' ⟨b, rfl, g, cap, h1, h2, h3, h4, h5, h6, h7⟩
  refine ⟨rfl, b, g, cap, ⟨hO.trans h7 (fun i hi e => ?_), Nat.le_refl _, ?_, by omega, h1, h2, fun e => ?_, h4, by omega⟩, h5⟩
  · rcases e with e | e
    · omega
    · simp [Value.ownBlock] at e
  · rcases h3 with h3 | h3
    · simp [Value.ownBlock] at h3
    · omega
  · obtain ⟨cur, hc⟩ := ownsRow_block h2
    rw [e, h1] at hc; cases hc

theorem KHeap.thing {w w' : World} {H b g cap : Nat} {used : Int} (h : KHeap w w' H b g cap used) (s : ByteArray) : ∀ W, Old w' W →
    Calls Tryz.prog 40 #[.pointer (some ⟨H, 0, none⟩), .agg #[.int .i64 5, .int .i64 0, .string s]] W fun e w' => e = .returned (.iface 96 (.agg #[.pointer (some ⟨b, 0, none⟩), .int .i64 1, .nilIface])) ∧ Old W w' := by
  intro W hO
  have hr := hO.row h.row (fun _ _ f => f)
  have hc := hr.cells (g := g) rfl 0 (.iface 96 (.agg #[.pointer (some ⟨b, 0, none⟩), .int .i64 1, .nilIface])) rfl
  obtain ⟨cur, hg⟩ := ownsRow_block hr
  exact thing_at 0 s W H _ _ g 1 cap _ (hO.at h.hp (fun f => f)) (by decide) (by decide) (by simpa [Addr.add] using hc) (ltOf hg)

theorem kn_set (w w2 : World) (H b g cap : Nat) (h : KHeap w w2 H b g cap 1) (hb : w2.heap[b]? = some (.cells #[.map none, .slice none 0 0] 94 (0, 0))) :
    Calls Tryz.prog 20 #[.pointer (some ⟨H, 0, none⟩), .agg #[.int .i64 5, .int .i64 0, .string ⟨#[]⟩], .string ⟨#[97]⟩, .agg #[.int .i64 3, .int .i64 3, .string ⟨#[]⟩]] w2 fun e w' =>
      e = .returned (.tuple #[.string ⟨#[]⟩, .int .i64 0]) ∧ KHeap w w' H b g cap 2 ∧ ∃ bm ks, w'.heap[b]? = some (.cells #[.map (some bm), ks] 94 (0, 0)) ∧ MapIs strKey w' bm (kvsOf [(⟨#[97]⟩, ⟨3, 3, ⟨#[]⟩⟩)]) ∧ w'.ownsRow 0 9 1 ks 1 (keysOf [(⟨#[97]⟩, ⟨3, 3, ⟨#[]⟩⟩)]) := by
  refine (Set_new w2 H 9 1 _ b 1 .nilIface 5 0 ⟨#[]⟩ 3 3 ⟨#[]⟩ ⟨#[97]⟩ 0 0 ⟨#[]⟩ 3 3 ⟨#[]⟩ _ h.hp (by decide) (by decide) (by decide) rfl
    (fun W hF _ => h.thing _ W hF) (fun W hF _ => own_nil W b _ _ (hF.at hb (fun f => f))) (fun W _ _ => plain_num_mid _ _ _ W (by decide) (by decide))
    (fun W hF _ => set_nil W b (.slice none 0 0) 0 [] ⟨#[97]⟩ 3 3 ⟨#[]⟩ (hF.at hb h.bH) ⟨rfl, Or.inl ⟨rfl, rfl⟩⟩ ⟨_, _, _, rfl⟩ (fun g hg => by simp [Value.ownBlock] at hg) (by decide))).mono ?_
  rintro e w' ⟨rfl, W, hF, hHW, bm, ks, h1, h2, h3, h4, h5, h6, h7⟩
  have hs : ∀ i, (i = b ∨ Value.map none = .map (some i) ∨ (Value.slice none 0 0).ownBlock = some i) → i = b := fun i e => by
    rcases e with e | e | e
    · exact e
    · cases e
    · simp [Value.ownBlock] at e
  have hF7 := h7.mono (G := fun i => i = b) (fun i _ e => hs i e)
  have hrow := hF7.row (hF.row h.row (fun g' hg e => by simp [Value.ownBlock] at hg; exact h.gH (by omega))) (fun g' hg e => by simp [Value.ownBlock] at hg; exact h.gb (by omega))
  refine ⟨rfl, ⟨(h.old.trans hF (fun i hi e => ?_)).trans hF7 (fun i hi e => ?_), h.H0, h.g0, h.b0, hF7.at hHW (fun e => h.bH e.symm), hrow, h.gH, h.gb, h.bH⟩, bm, ks, h1, h2, h3⟩
  · have := h.H0; omega
  · have := h.b0; omega

def knSlots : List (ByteArray × AV) := [(⟨#[97]⟩, ⟨3, 3, ⟨#[]⟩⟩)]
theorem kn_text : objT knSlots (fun _ => [51]) = [123, 97, 58, 32, 51, 125] := by decide

theorem kn_show (w w3 : World) (H b g cap : Nat) (h : KHeap w w3 H b g cap 2) (bm : Nat) (ks : Value) (hm : w3.heap[b]? = some (.cells #[.map (some bm), ks] 94 (0, 0)))
    (hM : MapIs strKey w3 bm (kvsOf knSlots)) (hk : w3.ownsRow 0 9 1 ks 1 (keysOf knSlots)) :
    Calls Tryz.prog 12 #[.pointer (some ⟨H, 0, none⟩), .agg #[.int .i64 5, .int .i64 0, .string ⟨#[]⟩]] w3 fun e w' => e = .returned (.string ⟨#[123, 97, 58, 32, 51, 125]⟩) ∧ Old w3 w' := by
  have hlb := ltOf hm
  have hlH := ltOf h.hp
  have hlm := hM.lt
  refine show_ref w3 (some ⟨H, 0, none⟩) 0 ⟨#[]⟩ [123, 97, 58, 32, 51, 125] (by decide) (by decide)
    (fun W hF _ => plain_ref_some _ 0 ⟨#[]⟩ W _ _ (fun W' h' => h.thing _ W' (hF.old h'))) ?_
  intro W sb hO hS hsb
  rw [← kn_text]
  refine value_obj W sb (some ⟨H, 0, none⟩) (.slice none 0 0) 5 0 ⟨#[]⟩ 0 [] b bm .nilIface ks knSlots (fun _ => [51]) (by decide) (by decide) (by decide) (by decide) hS (by decide)
    (fun W' hF _ => h.thing _ W' (hO.old hF)) (by decide) (by decide) rfl (fun p hp => by simp [knSlots] at hp; subst hp; decide) (hO.at hm (fun f => f)) (hM.at hO (fun f => f)) (hO.row hk (fun _ _ f => f)) ?_ ?_
  · rintro i (e | e | e)
    · exact ⟨by omega, by simp [Value.ownBlock]⟩
    · exact ⟨by omega, by simp [Value.ownBlock]⟩
    · have := (hk.lt i e).2
      exact ⟨by omega, by simp [Value.ownBlock]⟩
  · intro i hi W' u l' hg hS' hl'
    have hi0 : i = 0 := by simp [knSlots] at hi; exact hi
    subst hi0
    have hH' := hg.fr.at (hO.at h.hp (fun f => f)) (fun e => by rcases e with e | e; omega; simp [Value.ownBlock] at e)
    exact value_plain W' sb _ u 3 3 ⟨#[]⟩ (0 + 1) l' ⟨#[51]⟩ (some ⟨H, 0, none⟩) rfl (by decide) hS' hl' (by decide)
      (fun W'' hF _ => thing_none 3 3 ⟨#[]⟩ W'' H _ _ _ _ _ (hF.at hH' (fun f => f)) (Or.inl (by decide))) (fun W'' _ _ => text3 _ W'')

set_option maxRecDepth 100000 in
set_option maxHeartbeats 1000000 in
theorem known_true (w : World) : Calls Tryz.prog 7 #[] w fun e w' => e = .returned (.bool true) ∧ Old w w' := by
  go_enter Tryz.func7, Tryz.ntmps7
  go_wp2_with (first | (go_at_call 8; refine (new_ok 9 _ (by decide) (by decide)).mono ?_; rintro e w1 ⟨rfl, rfl⟩) | (go_at_call 19; refine (kn_make _).mono ?_; rintro e w2 ⟨rfl, b, g, cap, hK, hb⟩) | (go_at_call 20; refine (kn_set _ _ _ b g cap hK hb).mono ?_; rintro e w3 ⟨rfl, hK3, bm, ks, hm, hM, hk⟩) | (go_at_call 12; refine (kn_show w _ _ b g cap hK3 bm ks hm hM hk).mono ?_; rintro e w4 ⟨rfl, hO4⟩) | (go_at_call 11; refine (used_any _ _ 9 2 _ (hO4.at hK3.hp (fun f => f))).mono ?_; rintro e w5 ⟨rfl, rfl⟩))
  go_ret
  exact ⟨rfl, hK3.old.old hO4⟩

end Go.Proofs.YtlimgecmolhdhaaGreatDoor
