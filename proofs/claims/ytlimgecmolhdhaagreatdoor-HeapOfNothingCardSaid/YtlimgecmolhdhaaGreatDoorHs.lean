/- Members: set. -/
import Derived.Test.YtlimgecmolhdhaaGreatDoorHo
import Derived.StillTailTactics
set_option linter.unusedVariables false
set_option linter.unusedSimpArgs false
namespace Go.Proofs.YtlimgecmolhdhaaGreatDoor
open Go.RowKit

theorem infoStr : (Tryz.prog.info? 9).map (fun i => (i.zero, i.size, i.bytes)) = some (some (.string ⟨#[]⟩), 1, 16) := by kernel_rfl

/-- What set leaves: the members' block mb; keys are laid where the key is new. -/
def SetPost (w : World) (mb : Nat) (mv ks : Value) (kvs' : List (ByteArray × Value)) (n : Nat) (keys : List Value) (w' : World) : Prop :=
  ∃ bm ks', w'.heap[mb]? = some (.cells #[.map (some bm), ks'] 94 (0, 0)) ∧ MapIs strKey w' bm kvs' ∧ w'.ownsRow 0 9 1 ks' n keys ∧
    (mv = .map (some bm) ∨ w.heap.size ≤ bm) ∧ (∀ g, ks'.ownBlock = some g → ks.ownBlock = some g ∨ w.heap.size ≤ g) ∧
    (∃ a l c, ks' = .slice a l c) ∧ Fr (fun b => b = mb ∨ mv = .map (some b) ∨ ks.ownBlock = some b) w w'

set_option maxRecDepth 100000 in
set_option maxHeartbeats 800000 in
theorem set_there (w : World) (mb bm : Nat) (ks : Value) (kvs : List (ByteArray × Value)) (n : Nat) (keys : List Value) (key : ByteArray) (k m : Int) (s : ByteArray) (k0 m0 : Int) (s0 : ByteArray)
    (hm : w.heap[mb]? = some (.cells #[.map (some bm), ks] 94 (0, 0))) (hM : MapIs strKey w bm kvs) (hl : look key kvs = some (.agg #[.int .i64 k0, .int .i64 m0, .string s0]))
    (hr : w.ownsRow 0 9 1 ks n keys) (hks : ∃ a l c, ks = .slice a l c) (hnb : bm ≠ mb) (hng : ∀ g, ks.ownBlock = some g → g ≠ bm) :
    Calls Tryz.prog 45 #[.pointer (some ⟨mb, 0, none⟩), .string key, .agg #[.int .i64 k, .int .i64 m, .string s]] w fun e w' =>
      e = .returned (.tuple #[]) ∧ SetPost w mb (.map (some bm)) ks (put key (.agg #[.int .i64 k, .int .i64 m, .string s]) kvs) n keys w' := by
  have hlt := ltOf hm
  have c0 := cellOf hm 0 (.map (some bm)) rfl
  have HM := Lib.hid hm; clear hm
  have qT : ∀ (w : World) (r : Option Nat), (binOp .eql 91 (.map r) (.map none)).run Tryz.prog w = .ok (.bool r.isNone) w := fun w r => run_eql_map_nil w _ _ _ r Tryz.underlying91
  go_enter Tryz.func45, Tryz.ntmps45
  go_wp2_with (at_lookup; refine wpList_look rfl _ _ true rfl keyS Tryz.underlying91 key rfl rfl (zeroV _) (hM.alloc _) ?_; rw [hl]; dsimp only [Option.getD, Option.isSome, if_true])
  refine wp_region_still_tail 6 (by kernel_rfl) (by kernel_rfl) ?_
  change wpStill _ _ (World.drew _) (fun a' => wpList _ _ _ _ a' (World.drew _)) _ _
  simp only [List.take_succ_cons, List.take_zero, List.drop_succ_cons, List.drop_zero]
  repeat still_step
  refine wpStill_nil ?_
  go_wp2_with (at_mapUpdate; refine wpList_put rfl _ _ _ rfl keyS Tryz.underlying91 key (.agg #[.int .i64 k, .int .i64 m, .string s]) rfl rfl rfl ((hM.alloc _).alloc _) ?_; intro w2 hM2 hF2)
  refine bodyPost_end (results_none rfl _ _ _) rfl ⟨rfl, ?_⟩
  obtain ⟨a, l, c, rfl⟩ := hks
  have hF : Fr (fun b => b = bm) w w2 := ((((Fr.refl _ _).alloc _).alloc _).drew).trans hF2 (fun _ _ h => h)
  exact ⟨bm, _, hF.at HM.out (fun h => hnb h.symm), hM2, hF.row hr hng, Or.inl rfl, fun g h => Or.inl h, ⟨a, l, c, rfl⟩, hF.mono (fun i _ h => Or.inr (Or.inl (by rw [h])))⟩

set_option maxRecDepth 100000 in
set_option maxHeartbeats 800000 in
theorem set_new (w : World) (mb bm : Nat) (ks : Value) (kvs : List (ByteArray × Value)) (n : Nat) (keys : List Value) (key : ByteArray) (k m : Int) (s : ByteArray)
    (hm : w.heap[mb]? = some (.cells #[.map (some bm), ks] 94 (0, 0))) (hM : MapIs strKey w bm kvs) (hl : look key kvs = none)
    (hr : w.ownsRow 0 9 1 ks n keys) (hks : ∃ a l c, ks = .slice a l c) (hnb : bm ≠ mb) (hng : ∀ g, ks.ownBlock = some g → g ≠ bm ∧ g ≠ mb) (hn : n ≤ 1048576) :
    Calls Tryz.prog 45 #[.pointer (some ⟨mb, 0, none⟩), .string key, .agg #[.int .i64 k, .int .i64 m, .string s]] w fun e w' =>
      e = .returned (.tuple #[]) ∧ SetPost w mb (.map (some bm)) ks (put key (.agg #[.int .i64 k, .int .i64 m, .string s]) kvs) (n + 1) (keys ++ [.string key]) w' := by
  obtain ⟨i0, hi, hz0, hz1, hz2⟩ := info_parts infoStr
  obtain ⟨a, l, c, rfl⟩ := hks
  have hlt := ltOf hm
  have hbl := hM.lt
  have c0 := cellOf hm 0 (.map (some bm)) rfl
  have c1 := cellOf hm 1 (.slice a l c) rfl
  have HM := Lib.hid hm; clear hm
  have HG := Lib.hid hng; clear hng
  have qT : ∀ (w : World) (r : Option Nat), (binOp .eql 91 (.map r) (.map none)).run Tryz.prog w = .ok (.bool r.isNone) w := fun w r => run_eql_map_nil w _ _ _ r Tryz.underlying91
  go_enter Tryz.func45, Tryz.ntmps45
  go_wp2_with (first | (at_lookup; refine wpList_look rfl _ _ true rfl keyS Tryz.underlying91 key rfl rfl (zeroV _) (hM.alloc _) ?_; rw [hl]; dsimp only [Option.getD, Option.isSome, if_true]) | (at_builtin; refine wpList_append_own_at _ rfl (.tmp 32) (.tmp 34) 92 rfl 0 9 i0 (.string ⟨#[]⟩) 1 16 Tryz.underlying92 hi hz0 hz1 hz2 rfl (by decide) _ n keys rfl (((hr.alloc _).alloc _).alloc _) ⟨w.heap.size + 2, 0, none⟩ 1 1 [.string key] rfl rfl ?c1 ?c2 ?c3 ?c4 ?c5 ?_))
  case c1 => simpa using cell_one_new ((w.alloc (.cells #[.int .i64 k, .int .i64 m, .string s] 34)).alloc (.cells #[.int .i64 0, .int .i64 0, .string ⟨#[]⟩] 34)) (.string key) 9
  case c2 => intro u hu; simp at hu; subst hu; rfl
  case c3 => unfold maxLen; omega
  case c4 => omega
  case c5 => omega
  intro v' w1 hown1 hg1 hnil hat
  obtain ⟨g, cap, rfl, hgg⟩ := push_form hown1 hat
  have hm1 := grownAt hg1 (heapAlloc (heapAlloc (heapAlloc HM.out _) _) _) (fun e => (HG.out _ e).2 rfl)
  have hM1 : MapIs strKey w1 bm kvs := (((hM.alloc _).alloc _).alloc _).grown hg1 (fun e => (HG.out _ e).1 rfl)
  have hb1 := grownAt hg1 (heapAlloc (heapAlloc (heapNew w (.cells #[.int .i64 k, .int .i64 m, .string s] 34)) (.cells #[.int .i64 0, .int .i64 0, .string ⟨#[]⟩] 34)) (.cells #[.string key] 9)) (fun e => by have := (hr.lt _ e).2; omega)
  obtain ⟨d0, d1, d2, _, _, _⟩ := cells3 hb1
  have hlt1 := ltOf hm1
  have e0 := cellOf hm1 0 (.map (some bm)) rfl
  have e1 := cellOf hm1 1 (.slice a l c) rfl
  have f1 := freeOf hm1 1
  have hwm : w.heap.size ≠ mb := by omega
  have hgm : g ≠ mb := by
    rcases hgg with h | h
    · exact (HG.out g h).2
    · (try simp at h); omega
  have hF1 : Fr (fun b => b = mb ∨ Value.map (some bm) = .map (some b) ∨ (Value.slice a l c).ownBlock = some b) w w1 :=
    ((((Fr.refl _ _).alloc _).alloc _).alloc _).grown hg1 (fun k hk => Or.inr (Or.inr (Or.inr hk)))
  have HG1 := Lib.hid hgg
  have HM1 := Lib.hid hm1
  clear hnil hat hgg hg1 hm1 hb1
  go_wp2
  refine wp_region_still_tail 6 (by kernel_rfl) (by kernel_rfl) ?_
  change wpStill _ _ (World.drew _) (fun a' => wpList _ _ _ _ a' (World.drew _)) _ _
  simp only [List.take_succ_cons, List.take_zero, List.drop_succ_cons, List.drop_zero]
  repeat still_step
  refine wpStill_nil ?_
  go_wp2_with (at_mapUpdate; refine wpList_put rfl _ _ _ rfl keyS Tryz.underlying91 key (.agg #[.int .i64 k, .int .i64 m, .string s]) rfl rfl rfl (hM1.set _ hnb _) ?_; intro w2 hM2 hF2)
  refine bodyPost_end (results_none rfl _ _ _) rfl ⟨rfl, ?_⟩
  have hF : Fr (fun b => b = bm) (w1.setCell ⟨mb, 1, none⟩ (.slice (some ⟨g, 0, none⟩) (n + 1) cap)) w2 := hF2.undrew
  refine ⟨bm, _, hF.at (setOf HM1.out 1 _) (fun h => hnb h.symm), hM2, hF.row (ownsRow_setCell_other hown1 (by simp [Value.ownBlock]; exact hgm) _) ?_, Or.inl rfl, ?_, ⟨_, _, _, rfl⟩, ?_⟩
  · rintro _ h
    simp [Value.ownBlock] at h
    subst h
    rcases HG1.out with h | h
    · exact (HG.out g h).1
    · (try simp at h); omega
  · rintro _ h
    simp [Value.ownBlock] at h
    subst h
    rcases HG1.out with h | h
    · exact Or.inl h
    · right; (try simp at h); omega
  · exact (hF1.setCell (Or.inr (Or.inl rfl)) _).trans hF (fun i _ h => Or.inr (Or.inl (by rw [h])))
end Go.Proofs.YtlimgecmolhdhaaGreatDoor
