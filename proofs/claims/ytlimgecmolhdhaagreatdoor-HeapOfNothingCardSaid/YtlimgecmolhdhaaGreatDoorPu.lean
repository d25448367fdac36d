/- Push. -/
import Derived.Test.YtlimgecmolhdhaaGreatDoorAr
import Derived.Test.YtlimgecmolhdhaaGreatDoorKs
import Derived.Deep.AppendLies
import Derived.Deep.RegionLaw
set_option linter.unusedVariables false
set_option linter.unusedSimpArgs false
namespace Go.Proofs.YtlimgecmolhdhaaGreatDoor
open Go.RowKit

theorem infoVal : (Tryz.prog.info? 34).map (fun i => (i.zero, i.size, i.bytes)) = some (some (.agg #[.int .i64 0, .int .i64 0, .string ⟨#[]⟩]), 3, 32) := by kernel_rfl

theorem news3 (w : World) (a b c : Value) (t : TypeId) : ∀ j u, [a, b, c][j]? = some u → (w.alloc (.cells #[a, b, c] t)).cell? (Addr.add ⟨w.heap.size, 0, none⟩ j) = some u := fun j u hu => by
  have hb := heapNew w (.cells #[a, b, c] t)
  have e : Addr.add ⟨w.heap.size, 0, none⟩ j = ⟨w.heap.size, j, none⟩ := by unfold Addr.add; split <;> simp_all
  rw [e]
  exact cellOf hb j u (by simpa using hu)

theorem cellsAt {F : Nat → Prop} {w W : World} (h : Fr F w W) {b i : Nat} {v : Value} (hb : ¬ F b) (hc : w.cell? ⟨b, i, none⟩ = some v) : W.cell? ⟨b, i, none⟩ = some v := by
  have hlt : b < w.heap.size := by
    rcases Nat.lt_or_ge b w.heap.size with h1 | h1
    · exact h1
    · simp [World.cell?, Array.getElem?_eq_none h1] at hc
  exact (World.cell?_of_block (a := ⟨b, i, none⟩) (h.block b hlt hb)).trans hc

theorem push_end {w w1 w2 w3 w4 : World} {H b g0 cap n : Nat} {room used : Int} {tv av : Value} {xs news : List Value} {o : Obj} (hF1 : Fr nowhere w w1) (hK2 : Fr (· = H) w1 w2) (hO3 : Old w2.drew w3) (hgrow : (w3.alloc o).grownBy w4 av.ownBlock)
    (hH2 : w2.heap[H]? = some (.cells #[.int .i64 room, .int .i64 (used + 1), tv] 46 (0, 0))) (hown4 : w4.ownsRow 0 34 3 (.slice (some ⟨g0, 0, none⟩) (n + 1) cap) (n + 1) (xs ++ news)) (hat : av.ownBlock = some g0 ∨ g0 = w3.heap.size + 1)
    (hr : w.ownsRow 0 34 3 av n xs) (hbH : b ≠ H) (hnb : av.ownBlock ≠ some b) (hb : w.heap[b]? = some (.cells #[av] 89 (0, 0))) (hnH : av.ownBlock ≠ some H) :
    ∃ g cap', (w4.setCell ⟨b, 0, none⟩ (.slice (some ⟨g0, 0, none⟩) (n + 1) cap)).heap[H]? = some (.cells #[.int .i64 room, .int .i64 (used + 1), tv] 46 (0, 0)) ∧ (w4.setCell ⟨b, 0, none⟩ (.slice (some ⟨g0, 0, none⟩) (n + 1) cap)).heap[b]? = some (.cells #[.slice (some ⟨g, 0, none⟩) (n + 1) cap'] 89 (0, 0)) ∧
      (w4.setCell ⟨b, 0, none⟩ (.slice (some ⟨g0, 0, none⟩) (n + 1) cap)).ownsRow 0 34 3 (.slice (some ⟨g, 0, none⟩) (n + 1) cap') (n + 1) (xs ++ news) ∧ (av.ownBlock = some g ∨ w.heap.size ≤ g) ∧ Fr (fun i => i = H ∨ i = b ∨ av.ownBlock = some i) w (w4.setCell ⟨b, 0, none⟩ (.slice (some ⟨g0, 0, none⟩) (n + 1) cap)) := by
  have hlb := ltOf hb
  have e0 : Fr (· = H) w w1 := hF1.mono (fun _ _ f => False.elim f)
  have e1 : Fr (· = H) w w2 := e0.trans hK2 (fun _ _ h => h)
  have e2 : Fr (· = H) w w3 := e1.drew.old hO3
  have hsz := e2.size
  have hb2 := e1.at hb hbH
  have hb3 := heapAlloc (hO3.at (heapDrew hb2) (fun f => f)) o
  have hb4 := (hgrow.block b (ltOf hb3) (fun e => hnb e.symm)).trans hb3
  have hH3 := heapAlloc (hO3.at (heapDrew hH2) (fun f => f)) o
  have hH4 := (hgrow.block H (ltOf hH3) (fun e => hnH e.symm)).trans hH3
  refine ⟨g0, cap, heapSet hH4 _ (fun e => hbH e.symm) _, setOf hb4 0 _, ownsRow_setCell_other hown4 (fun e => ?_) _, ?_, ?_⟩
  · simp [Value.ownBlock] at e
    rcases hat with h | h
    · exact hnb (by rw [h, e])
    · omega
  · rcases hat with h | h
    · exact Or.inl h
    · exact Or.inr (by omega)
  · refine Fr.setCell (F := fun i => i = H ∨ i = b ∨ av.ownBlock = some i) (p := ⟨b, 0, none⟩) (Fr.grown ((e2.mono (fun i _ h => Or.inl h)).alloc o) hgrow (fun k hk => Or.inr (Or.inr (Or.inr hk)))) (Or.inr (show b = H ∨ b = b ∨ av.ownBlock = some b from Or.inr (Or.inl rfl))) _

set_option maxRecDepth 100000 in
set_option maxHeartbeats 2000000 in
theorem push_num (w : World) (H b : Nat) (room used : Int) (tv av : Value) (ref n : Nat) (xs : List Value) (m : Int)
    (hH : w.heap[H]? = some (.cells #[.int .i64 room, .int .i64 used, tv] 46 (0, 0))) (hlt : used < room) (h0 : 0 ≤ used) (hm : room ≤ 1048576)
    (hA : Says w nowhere anyW 42 #[.pointer (some ⟨H, 0, none⟩), .agg #[.int .i64 5, .int .i64 ref, .string ⟨#[]⟩]] (.pointer (some ⟨b, 0, none⟩)))
    (hb : w.heap[b]? = some (.cells #[av] 89 (0, 0))) (hr : w.ownsRow 0 34 3 av n xs) (hn : n ≤ 1048576) (h1 : -9007199254740991 < m) (h2 : m < 9007199254740991) :
    Calls Tryz.prog 32 #[.pointer (some ⟨H, 0, none⟩), .int .i64 ref, .agg #[.int .i64 3, .int .i64 m, .string ⟨#[]⟩]] w fun e w' => e = .returned (.tuple #[.int .i64 ((n : Int) + 1), .int .i64 0]) ∧
      ∃ g cap, w'.heap[H]? = some (.cells #[.int .i64 room, .int .i64 (used + 1), tv] 46 (0, 0)) ∧ w'.heap[b]? = some (.cells #[.slice (some ⟨g, 0, none⟩) (n + 1) cap] 89 (0, 0)) ∧
        w'.ownsRow 0 34 3 (.slice (some ⟨g, 0, none⟩) (n + 1) cap) (n + 1) (xs ++ [.int .i64 3, .int .i64 m, .string ⟨#[]⟩]) ∧ (av.ownBlock = some g ∨ w.heap.size ≤ g) ∧ Fr (fun i => i = H ∨ i = b ∨ av.ownBlock = some i) w w' := by
  obtain ⟨i0, hi, hz0, hz1, hz2⟩ := info_parts infoVal
  have hl := ltOf hH
  have hlb := ltOf hb
  have hbH : b ≠ H := fun e => by rw [e, hH] at hb; cases hb
  have HH := Lib.hid hH; clear hH
  have HB := Lib.hid hb; clear hb
  have HR := Lib.hid hr; clear hr
  go_enter Tryz.func32, Tryz.ntmps32
  go_wp2_with (first | (go_at_call 42; refine (hA _ ((Fr.refl _ _).alloc _) trivial).mono ?_; rintro e w1 ⟨rfl, hO1⟩; have hF1 := ((Fr.refl nowhere w).alloc _).old hO1; have b5 := hO1.at (heapNew w (.cells #[.int .i64 3, .int .i64 m, .string ⟨#[]⟩] 34)) (fun f => f); have B5 := Lib.hid b5; clear b5) | (go_at_call 43; refine (takes_yes _ H room used tv (hF1.at HH.out (fun f => f)) hlt h0 hm).mono ?_; rintro e w2 ⟨rfl, hH2, hK2⟩; have b52 := hK2.at B5.out (fun e => by omega); obtain ⟨d0, d1, d2, _, _, _⟩ := cells3 b52; have bb2 := hK2.at (hF1.at HB.out (fun f => f)) hbH; have c0 := cellOf bb2 0 _ rfl; have f0 := freeOf bb2 0))
  have HR2 := Lib.hid (hK2.row (hF1.row HR.out (fun _ _ f => f)) (fun g hg e => row_ne HR.out HH.out (by decide) (by rw [hg, e])))
  have hnb : av.ownBlock ≠ some b := row_ne HR.out HB.out (by decide)
  have HB2 := Lib.hid bb2; clear bb2
  have HS : ∀ W, Old w2.drew W → W.cell? ⟨b, 0, none⟩ = some av ∧ W.frozen? ⟨b, 0, none⟩ = false ∧ W.cell? ⟨w.heap.size, 0, none⟩ = some (.int .i64 3) ∧ W.cell? ⟨w.heap.size, 1, none⟩ = some (.int .i64 m) ∧ W.cell? ⟨w.heap.size, 2, none⟩ = some (.string ⟨#[]⟩) := fun W hO =>
    ⟨cellOf (hO.at (heapDrew HB2.out) (fun f => f)) 0 _ rfl, freeOf (hO.at (heapDrew HB2.out) (fun f => f)) 0, cellsAt hO (fun f => f) d0, cellsAt hO (fun f => f) d1, cellsAt hO (fun f => f) d2⟩
  have hpb : av.ownBlock ≠ some w.heap.size := fun e => by have := (HR.out.lt _ e).2; omega
  have HG : ∀ W W', Old w2.drew W → W.grownBy W' av.ownBlock → W'.cell? ⟨b, 0, none⟩ = some av ∧ W'.frozen? ⟨b, 0, none⟩ = false ∧ W'.cell? ⟨w.heap.size, 0, none⟩ = some (.int .i64 3) ∧ W'.cell? ⟨w.heap.size, 1, none⟩ = some (.int .i64 m) ∧ W'.cell? ⟨w.heap.size, 2, none⟩ = some (.string ⟨#[]⟩) := fun W W' hO hg => by
    have b1 := hO.at (heapDrew HB2.out) (fun f => f)
    have b2 := hO.at (heapDrew b52) (fun f => f)
    have b3 := (hg.block b (ltOf b1) (fun e => hnb e.symm)).trans b1
    have b4 := (hg.block w.heap.size (ltOf b2) (fun e => hpb e.symm)).trans b2
    exact ⟨cellOf b3 0 _ rfl, freeOf b3 0, cellOf b4 0 _ rfl, cellOf b4 1 _ rfl, cellOf b4 2 _ rfl⟩
  have HSG := Lib.hid HG; clear HG
  have HSH := Lib.hid HS; clear HS
  clear d0 d1 d2 c0 f0 b52
  obtain ⟨c02, f02, d0, d1, d2⟩ := HSH.out _ (Fr.refl _ _)
  have hne : b ≠ w.heap.size := by omega
  go_region_law (first | (refine step_append_lies _ (by rfl) _ _ _ (by rfl) 0 34 i0 (.agg #[.int .i64 0, .int .i64 0, .string ⟨#[]⟩]) 3 32 Tryz.underlying83 hi hz0 hz1 hz2 rfl (by omega) av n xs (by rfl) (((((Fr.refl nowhere w2).drew).old hO3).row HR2.out (fun _ _ f => f)).alloc _) ⟨w3.heap.size, 0, none⟩ 1 1 [.int .i64 3, .int .i64 m, .string ⟨#[]⟩] (by rfl) rfl (news3 w3 _ _ _ _) (fun u hu => by simp at hu; rcases hu with rfl | rfl | rfl <;> rfl) (by omega) (by unfold maxLen; omega) (by omega) (Nat.zero_le _) (w3.heap.size + 1) (by simp) ?_; intro g cap w4 hown4 hgrow hat hlt4; obtain ⟨c04, f04, -⟩ := HSG.out _ _ (hO3.alloc _) hgrow) | (rw [if_pos (by rfl)]; go_simp; go_at_call 35; refine (plain_num_mid _ m _ _ h1 h2).mono ?_; rintro e w3 ⟨rfl, hO3⟩; obtain ⟨c03, f03, d03, d13, d23⟩ := HSH.out _ hO3; have hb3 : b < w3.heap.size := ltOf (hO3.at (heapDrew HB2.out) (fun f => f))))
  all_goals (go_wp2_with fail; go_ret2; exact ⟨by simp, push_end hF1 hK2 hO3 hgrow hH2 hown4 hat HR.out hbH hnb HB.out (row_ne HR.out HH.out (by decide))⟩)
end Go.Proofs.YtlimgecmolhdhaaGreatDoor
