/- Members: set, where there is no map yet. -/
import Derived.Test.YtlimgecmolhdhaaGreatDoorHs
set_option linter.unusedVariables false
set_option linter.unusedSimpArgs false
namespace Go.Proofs.YtlimgecmolhdhaaGreatDoor
open Go.RowKit

set_option maxRecDepth 100000 in
set_option maxHeartbeats 800000 in
theorem set_nil (w : World) (mb : Nat) (ks : Value) (n : Nat) (keys : List Value) (key : ByteArray) (k m : Int) (s : ByteArray)
    (hm : w.heap[mb]? = some (.cells #[.map none, ks] 94 (0, 0)))
    (hr : w.ownsRow 0 9 1 ks n keys) (hks : ∃ a l c, ks = .slice a l c) (hng : ∀ g, ks.ownBlock = some g → g ≠ mb) (hn : n ≤ 1048576) :
    Calls Tryz.prog 45 #[.pointer (some ⟨mb, 0, none⟩), .string key, .agg #[.int .i64 k, .int .i64 m, .string s]] w fun e w' =>
      e = .returned (.tuple #[]) ∧ SetPost w mb (.map none) ks [(key, .agg #[.int .i64 k, .int .i64 m, .string s])] (n + 1) (keys ++ [.string key]) w' := by
  obtain ⟨i0, hi, hz0, hz1, hz2⟩ := info_parts infoStr
  obtain ⟨a, l, c, rfl⟩ := hks
  have hlt := ltOf hm
  have c0 := cellOf hm 0 (.map none) rfl
  have f0 := freeOf hm 0
  have HM := Lib.hid hm; clear hm
  have HG := Lib.hid hng; clear hng
  have qT : ∀ (w : World) (r : Option Nat), (binOp .eql 91 (.map r) (.map none)).run Tryz.prog w = .ok (.bool r.isNone) w := fun w r => run_eql_map_nil w _ _ _ r Tryz.underlying91
  have hmm := @run_makeMap Tryz.prog
  go_enter Tryz.func45, Tryz.ntmps45
  have hsz : (w.setCell ⟨mb, 0, none⟩ (.map (some (w.heap.size + 1)))).heap.size = w.heap.size := by simp [World.setCell]
  have hMn : MapIs strKey (((w.setCell ⟨mb, 0, none⟩ (.map (some (w.heap.size + 1)))).alloc (.cells #[.int .i64 k, .int .i64 m, .string s] 34)).alloc (.map #[] 0)) (w.heap.size + 1) [] := by
    have := MapIs.new strKey ((w.setCell ⟨mb, 0, none⟩ (.map (some (w.heap.size + 1)))).alloc (.cells #[.int .i64 k, .int .i64 m, .string s] 34))
    rw [World.size_alloc, hsz] at this
    exact this
  have hr0 := ownsRow_setCell_other hr (a := ⟨mb, 0, none⟩) (fun e => HG.out _ e rfl) (.map (some (w.heap.size + 1)))
  have hm0 := setOf HM.out 0 (.map (some (w.heap.size + 1)))
  have hb0 := heapNew (w.setCell ⟨mb, 0, none⟩ (.map (some (w.heap.size + 1)))) (.cells #[.int .i64 k, .int .i64 m, .string s] 34)
  rw [hsz] at hb0
  have HB0 := Lib.hid hb0; clear hb0
  have HM0 := Lib.hid hm0; clear hm0
  have HSZ := Lib.hid hsz; clear hsz
  have c1 := cellOf HM0.out 1 (.slice a l c) rfl
  have hlt0 : mb < w.heap.size + 1 := by omega
  have hlt00 : mb < w.heap.size + 1 + 1 := by omega
  go_wp2_with (first | (at_lookup; refine wpList_look rfl _ _ true rfl keyS Tryz.underlying91 key rfl rfl (zeroV _) hMn ?_; dsimp only [look, Option.getD, Option.isSome, if_true]) | (at_builtin; refine wpList_append_own_at _ rfl (.tmp 32) (.tmp 34) 92 rfl 0 9 i0 (.string ⟨#[]⟩) 1 16 Tryz.underlying92 hi hz0 hz1 hz2 rfl (by decide) _ n keys rfl ((((hr0.alloc _).alloc _).alloc _).alloc _) ⟨w.heap.size + 3, 0, none⟩ 1 1 [.string key] rfl rfl ?c1 ?c2 ?c3 ?c4 ?c5 ?_))
  case c1 => simpa [HSZ.out] using cell_one_new ((((w.setCell ⟨mb, 0, none⟩ (.map (some (w.heap.size + 1)))).alloc (.cells #[.int .i64 k, .int .i64 m, .string s] 34)).alloc (.map #[] 0)).alloc (.cells #[.int .i64 0, .int .i64 0, .string ⟨#[]⟩] 34)) (.string key) 9
  case c2 => intro u hu; simp at hu; subst hu; rfl
  case c3 => unfold maxLen; omega
  case c4 => omega
  case c5 => omega
  intro v' w1 hown1 hg1 hnil hat
  obtain ⟨g, cap, rfl, hgg⟩ := push_form hown1 hat
  have hm1 := grownAt hg1 (heapAlloc (heapAlloc (heapAlloc (heapAlloc HM0.out _) _) _) _) (fun e => HG.out _ e rfl)
  have hM1 : MapIs strKey w1 (w.heap.size + 1) [] := ((hMn.alloc _).alloc _).grown hg1 (fun e => by have := (hr.lt _ e).2; omega)
  have hb1 := grownAt hg1 (heapAlloc (heapAlloc (heapAlloc HB0.out (.map #[] 0)) (.cells #[.int .i64 0, .int .i64 0, .string ⟨#[]⟩] 34)) (.cells #[.string key] 9)) (fun e => by have := (hr.lt _ e).2; omega)
  obtain ⟨d0, d1, d2, _, _, _⟩ := cells3 hb1
  have hlt1 := ltOf hm1
  have e0 := cellOf hm1 0 (.map (some (w.heap.size + 1))) rfl
  have e1 := cellOf hm1 1 (.slice a l c) rfl
  have f1 := freeOf hm1 1
  have hwm : w.heap.size ≠ mb := by omega
  have hgm : g ≠ mb := by
    rcases hgg with h | h
    · exact HG.out g h
    · (try simp [HSZ.out] at h); omega
  have hF1 : Fr (fun b => b = mb ∨ Value.map none = .map (some b) ∨ (Value.slice a l c).ownBlock = some b) w w1 :=
    ((((((Fr.refl _ _).setCell (Or.inr (Or.inl rfl)) _).alloc _).alloc _).alloc _).alloc _).grown hg1 (fun k hk => Or.inr (Or.inr (Or.inr hk)))
  have HG1 := Lib.hid hgg
  have HM1 := Lib.hid hm1
  clear hnil hat hgg hg1 hm1 hb1 c0 f0 c1 hMn hlt0 hlt00
  go_wp2
  refine wp_region_still_tail 6 (by kernel_rfl) (by kernel_rfl) ?_
  change wpStill _ _ (World.drew _) (fun a' => wpList _ _ _ _ a' (World.drew _)) _ _
  simp only [List.take_succ_cons, List.take_zero, List.drop_succ_cons, List.drop_zero]
  repeat still_step
  refine wpStill_nil ?_
  go_wp2_with (at_mapUpdate; refine wpList_put rfl _ _ _ rfl keyS Tryz.underlying91 key (.agg #[.int .i64 k, .int .i64 m, .string s]) rfl rfl rfl (hM1.set _ (by show w.heap.size + 1 ≠ mb; omega) _) ?_; intro w2 hM2 hF2)
  refine bodyPost_end (results_none rfl _ _ _) rfl ⟨rfl, ?_⟩
  have hF : Fr (fun b => b = w.heap.size + 1) (w1.setCell ⟨mb, 1, none⟩ (.slice (some ⟨g, 0, none⟩) (n + 1) cap)) w2 := hF2.undrew
  refine ⟨_, _, hF.at (setOf HM1.out 1 _) (fun h => by omega), hM2, hF.row (ownsRow_setCell_other hown1 (by simp [Value.ownBlock]; exact hgm) _) ?_, Or.inr (by omega), ?_, ⟨_, _, _, rfl⟩, ?_⟩
  · rintro _ h
    simp [Value.ownBlock] at h
    subst h
    rcases HG1.out with h | h
    · have := (hr.lt g h).2; omega
    · (try simp [HSZ.out] at h); omega
  · rintro _ h
    simp [Value.ownBlock] at h
    subst h
    rcases HG1.out with h | h
    · exact Or.inl h
    · right; (try simp [HSZ.out] at h); omega
  · exact (hF1.setCell (Or.inr (Or.inl rfl)) _).trans hF (fun i _ h => by omega)
end Go.Proofs.YtlimgecmolhdhaaGreatDoor
