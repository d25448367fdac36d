/- Make: a new thing. -/
import Derived.Test.YtlimgecmolhdhaaGreatDoorHa
import Derived.Maps.AppendAt
set_option linter.unusedVariables false
set_option linter.unusedSimpArgs false
namespace Go.Proofs.YtlimgecmolhdhaaGreatDoor
open Go.RowKit

theorem infoThing : (Tryz.prog.info? 79).map (fun i => (i.zero, i.size, i.bytes)) = some (some .nilIface, 1, 16) := by kernel_rfl

/-- What is shown of an append of one element: where the new slice lies. -/
theorem push_form {w1 : World} {v v' : Value} {n e size B : Nat} {xs : List Value} (h : w1.ownsRow 0 e size v' (n + 1) xs) (hat : v'.ownBlock = v.ownBlock ∨ v'.ownBlock = some B) :
    ∃ g cap, v' = .slice (some ⟨g, 0, none⟩) (n + 1) cap ∧ (v.ownBlock = some g ∨ g = B) := by
  rcases h.2 with ⟨_, h0⟩ | ⟨g, cap, _, rfl, _⟩
  · omega
  · refine ⟨g, cap, rfl, ?_⟩
    rcases hat with h | h
    · exact Or.inl h.symm
    · simp [Value.ownBlock] at h; exact Or.inr h

def MadePost (w : World) (H : Nat) (room used : Int) (tv : Value) (n : Nat) (xs : List Value) (b : Nat) (body : Obj) (x : Value) (w' : World) : Prop :=
  ∃ g cap, w'.heap[H]? = some (.cells #[.int .i64 room, .int .i64 (used + 1), .slice (some ⟨g, 0, none⟩) (n + 1) cap] 46 (0, 0)) ∧
    w'.ownsRow 0 79 1 (.slice (some ⟨g, 0, none⟩) (n + 1) cap) (n + 1) (xs ++ [x]) ∧ (tv.ownBlock = some g ∨ w.heap.size ≤ g) ∧ g ≠ b ∧
    w'.heap[b]? = some body ∧ w.heap.size ≤ b ∧ Fr (fun k => k = H ∨ tv.ownBlock = some k) w w'

set_option maxRecDepth 100000 in
set_option maxHeartbeats 400000 in
theorem make_full (w : World) (H : Nat) (room used k p : Int) (th : Value) (hH : w.heap[H]? = some (.cells #[.int .i64 room, .int .i64 used, th] 46 (0, 0))) (hlt : room ≤ used) :
    Calls Tryz.prog 19 #[.pointer (some ⟨H, 0, none⟩), .int .i64 k, .int .i64 p] w fun e w' => e = .returned (.tuple #[.int .i64 (-1), .int .i64 3]) ∧ Old w w' := by
  have HH := Lib.hid hH; clear hH
  go_enter Tryz.func19, Tryz.ntmps19
  go_wp2_with (go_at_call 43; refine (takes_full _ H room used th HH.out hlt).mono ?_; rintro e w1 ⟨rfl, hO⟩)
  go_ret2
  exact ⟨rfl, hO⟩

set_option maxRecDepth 100000 in
set_option maxHeartbeats 400000 in
theorem make_nil (w : World) (k p : Int) :
    Calls Tryz.prog 19 #[.pointer none, .int .i64 k, .int .i64 p] w fun e w' => e = .returned (.tuple #[.int .i64 (-1), .int .i64 3]) ∧ Old w w' := by
  go_enter Tryz.func19, Tryz.ntmps19
  go_wp2_with (go_at_call 43; refine (takes_nil _).mono ?_; rintro e w1 ⟨rfl, hO⟩)
  go_ret2
  exact ⟨rfl, hO⟩

set_option maxRecDepth 100000 in
set_option maxHeartbeats 400000 in
theorem make_arr (w : World) (H : Nat) (room used p : Int) (tv : Value) (n : Nat) (xs : List Value)
    (hH : w.heap[H]? = some (.cells #[.int .i64 room, .int .i64 used, tv] 46 (0, 0))) (hlt : used < room) (h0 : 0 ≤ used) (hm : room ≤ 1048576)
    (hown : w.ownsRow 0 79 1 tv n xs) (hn : (n : Int) ≤ used) (hne : tv.ownBlock ≠ some H) :
    Calls Tryz.prog 19 #[.pointer (some ⟨H, 0, none⟩), .int .i64 2, .int .i64 p] w fun e w' => ∃ b,
      e = .returned (.tuple #[.int .i64 n, .int .i64 0]) ∧ MadePost w H room used tv n xs b (.cells #[.slice none 0 0] 89 (0, 0)) (.iface 86 (.pointer (some ⟨b, 0, none⟩))) w' := by
  obtain ⟨i0, hi, hz0, hz1, hz2⟩ := info_parts infoThing
  have hl := ltOf hH
  have HH := Lib.hid hH; clear hH
  have HN := Lib.hid hne; clear hne
  go_enter Tryz.func19, Tryz.ntmps19
  go_wp2_with (first | (go_at_call 43; refine (takes_yes _ H room used tv HH.out hlt h0 hm).mono ?_; rintro e w1 ⟨rfl, hH1, hF1⟩; have hl1 : H < w1.heap.size := Nat.lt_of_lt_of_le hl hF1.size; have c1 := cellOf hH1 2 _ rfl; have HH1 := Lib.hid hH1; clear hH1) | (at_builtin; refine wpList_append_own_at _ rfl (.tmp 50) (.tmp 52) 44 rfl 0 79 i0 .nilIface 1 16 Tryz.underlying44 hi hz0 hz1 hz2 rfl (by decide) tv n xs rfl (((hF1.row hown (fun g hg e => HN.out (by rw [hg, e]))).alloc _).alloc _) ⟨w1.heap.size + 1, 0, none⟩ 1 1 [.iface 86 (.pointer (some ⟨w1.heap.size, 0, none⟩))] rfl rfl ?c1 ?c2 ?c3 ?c4 ?c5 ?_))
  case c1 => simpa using cell_one_new (w1.alloc (.cells #[.slice none 0 0] 89)) (.iface 86 (.pointer (some ⟨w1.heap.size, 0, none⟩))) 79
  case c2 => intro u hu; simp at hu; subst hu; rfl
  case c3 => unfold maxLen; omega
  case c4 => omega
  case c5 => omega
  intro v' w2 hown2 hg2 hnil hat
  obtain ⟨g, cap, rfl, hgg⟩ := push_form hown2 hat
  have hb1 := heapNew w1 (.cells #[.slice none 0 0] 89)
  have hH2 := grownAt hg2 (heapAlloc (heapAlloc HH1.out _) _) HN.out
  have hb2 := grownAt hg2 (heapAlloc hb1 _) (fun e => by have := (hF1.row hown (fun g hg e => HN.out (by rw [hg, e]))).lt _ e; omega)
  have c2 := cellOf hH2 2 _ rfl
  have f2 := freeOf hH2 2
  have hbl := ltOf hb1
  have hnH : w1.heap.size ≠ H := by omega
  have hng : g ≠ H := by
    rcases hgg with h | h
    · intro e; subst e; exact HN.out h
    · (try simp at h); omega
  have HP : Hid (MadePost w H room used tv n xs w1.heap.size (.cells #[.slice none 0 0] 89 (0, 0)) (.iface 86 (.pointer (some ⟨w1.heap.size, 0, none⟩))) (w2.setCell ⟨H, 2, none⟩ (.slice (some ⟨g, 0, none⟩) (n + 1) cap))) := by
    refine ⟨g, cap, setOf hH2 2 _, ownsRow_setCell_other hown2 (by simp [Value.ownBlock]; exact hng) _, ?_, ?_, heapSet hb2 _ hnH _, hF1.size, ?_⟩
    · rcases hgg with h | h
      · exact Or.inl h
      · right; (try simp at h); have := hF1.size; omega
    · rcases hgg with h | h
      · have := (hown.lt g h).2; have := hF1.size; omega
      · (try simp at h); omega
    · refine Fr.setCell ?_ (Or.inr (Or.inl rfl)) _
      have h1 : Fr (fun k => k = H ∨ tv.ownBlock = some k) w w1 := hF1.mono (fun i _ h => Or.inl h)
      exact ((h1.alloc _).alloc _).grown hg2 (fun k hk => Or.inr (Or.inr hk))
  clear hnil hat hgg hown2 hg2 hH2 hb2 hb1 hown
  go_wp2
  go_ret2
  exact ⟨_, rfl, HP.out⟩

/-- The thing that is asked for behind it answers this. -/
def ThingIs (w : World) (H : Nat) (room used : Int) (tv : Value) (p : Int) (x : Value) : Prop :=
  ∀ W, Fr (· = H) w W → W.heap[H]? = some (.cells #[.int .i64 room, .int .i64 (used + 1), tv] 46 (0, 0)) →
    Calls Tryz.prog 40 #[.pointer (some ⟨H, 0, none⟩), .agg #[.int .i64 5, .int .i64 p, .string ⟨#[]⟩]] W fun e w' => e = .returned x ∧ Old W w'

-- PRINTED BELOW BY gen_make.py

set_option maxRecDepth 100000 in
set_option maxHeartbeats 800000 in
theorem make_obj_nil (w : World) (H : Nat) (room used k p : Int) (tv : Value) (n : Nat) (xs : List Value) (hk : 1 ≤ k ∧ k ≤ 4) (hk2 : k ≠ 2)
    (hH : w.heap[H]? = some (.cells #[.int .i64 room, .int .i64 used, tv] 46 (0, 0))) (hlt : used < room) (h0 : 0 ≤ used) (hm : room ≤ 1048576)
    (hown : w.ownsRow 0 79 1 tv n xs) (hn : (n : Int) ≤ used) (hne : tv.ownBlock ≠ some H) (hT : ThingIs w H room used tv p .nilIface) :
    Calls Tryz.prog 19 #[.pointer (some ⟨H, 0, none⟩), .int .i64 k, .int .i64 p] w fun e w' => ∃ b,
      e = .returned (.tuple #[.int .i64 n, .int .i64 0]) ∧ MadePost w H room used tv n xs b (.cells #[.map none, .slice none 0 0] 94 (0, 0)) (.iface 96 (.agg #[.pointer (some ⟨b, 0, none⟩), .int .i64 k, .nilIface])) w' := by
  obtain ⟨i0, hi, hz0, hz1, hz2⟩ := info_parts infoThing
  have hl := ltOf hH
  have HH := Lib.hid hH; clear hH
  have HN := Lib.hid hne; clear hne
  have HO := Lib.hid hown; clear hown
  have k1 : (k != 2) = true := by simpa using hk2
  have k2 : decide (k < 1) = false := decide_eq_false (by omega)
  have k3 : decide (4 < k) = false := decide_eq_false (by omega)
  clear hk2
  obtain ⟨hka, hkb⟩ := hk
  go_enter Tryz.func19, Tryz.ntmps19
  go_wp2_with (first | (go_at_call 43; refine (takes_yes _ H room used tv HH.out hlt h0 hm).mono ?_; rintro e w1 ⟨rfl, hH1, hF1⟩; have hl1 : H < w1.heap.size := Nat.lt_of_lt_of_le hl hF1.size; have HH1 := Lib.hid hH1; clear hH1) | (go_at_call 40; refine (hT _ (hF1.alloc _) (heapAlloc HH1.out _)).mono ?_; rintro e w2 ⟨rfl, hO2⟩; have hF2 := (hF1.alloc _).old hO2; have HH2 := Lib.hid (hO2.at (heapAlloc HH1.out _) (fun h => h)); have hl2 := ltOf HH2.out; have c2 := cellOf HH2.out 2 _ rfl; have HO2 := Lib.hid (hF2.row HO.out (fun g hg e => HN.out (by rw [hg, e])))) | (at_builtin; refine wpList_append_own_at _ rfl (.tmp 50) (.tmp 52) 44 rfl 0 79 i0 .nilIface 1 16 Tryz.underlying44 hi hz0 hz1 hz2 rfl (by decide) tv n xs rfl ((HO2.out.alloc _).alloc _) ⟨w2.heap.size + 1, 0, none⟩ 1 1 [.iface 96 (.agg #[.pointer (some ⟨w2.heap.size, 0, none⟩), .int .i64 k, .nilIface])] rfl rfl ?c1 ?c2 ?c3 ?c4 ?c5 ?_))
  case c1 => simpa using cell_one_new (w2.alloc (.cells #[.map none, .slice none 0 0] 94)) (.iface 96 (.agg #[.pointer (some ⟨w2.heap.size, 0, none⟩), .int .i64 k, .nilIface])) 79
  case c2 => intro u hu; simp at hu; subst hu; rfl
  case c3 => unfold maxLen; omega
  case c4 => omega
  case c5 => omega
  intro v' w3 hown3 hg3 hnil hat
  obtain ⟨g, cap, rfl, hgg⟩ := push_form hown3 hat
  have hb1 := heapNew w2 (.cells #[.map none, .slice none 0 0] 94)
  have hH3 := grownAt hg3 (heapAlloc (heapAlloc HH2.out _) _) HN.out
  have hb3 := grownAt hg3 (heapAlloc hb1 _) (fun e => by have := HO2.out.lt _ e; omega)
  have c3 := cellOf hH3 2 _ rfl
  have f3 := freeOf hH3 2
  have hbl := ltOf hb1
  have hnH : w2.heap.size ≠ H := by omega
  have hng : g ≠ H := by
    rcases hgg with h | h
    · intro e; subst e; exact HN.out h
    · (try simp at h); omega
  have HP : Hid (MadePost w H room used tv n xs w2.heap.size (.cells #[.map none, .slice none 0 0] 94 (0, 0)) (.iface 96 (.agg #[.pointer (some ⟨w2.heap.size, 0, none⟩), .int .i64 k, .nilIface])) (w3.setCell ⟨H, 2, none⟩ (.slice (some ⟨g, 0, none⟩) (n + 1) cap))) := by
    refine ⟨g, cap, setOf hH3 2 _, ownsRow_setCell_other hown3 (by simp [Value.ownBlock]; exact hng) _, ?_, ?_, heapSet hb3 _ hnH _, hF2.size, ?_⟩
    · rcases hgg with h | h
      · exact Or.inl h
      · right; (try simp at h); have := hF2.size; omega
    · rcases hgg with h | h
      · have := (HO.out.lt g h).2; have := hF2.size; omega
      · (try simp at h); omega
    · refine Fr.setCell ?_ (Or.inr (Or.inl rfl)) _
      have h1 : Fr (fun k => k = H ∨ tv.ownBlock = some k) w w2 := hF2.mono (fun i _ h => Or.inl h)
      exact ((h1.alloc _).alloc _).grown hg3 (fun k hk => Or.inr (Or.inr hk))
  clear hnil hat hgg hown3 hg3 hH3 hb3 hb1
  go_wp2
  go_ret2
  exact ⟨_, rfl, HP.out⟩

set_option maxRecDepth 100000 in
set_option maxHeartbeats 800000 in
theorem make_obj_keep1 (w : World) (H : Nat) (room used k p : Int) (tv : Value) (n : Nat) (xs : List Value) (mm pr : Value) (hk : 1 ≤ k ∧ k ≤ 4) (hk2 : k ≠ 2)
    (hH : w.heap[H]? = some (.cells #[.int .i64 room, .int .i64 used, tv] 46 (0, 0))) (hlt : used < room) (h0 : 0 ≤ used) (hm : room ≤ 1048576)
    (hown : w.ownsRow 0 79 1 tv n xs) (hn : (n : Int) ≤ used) (hne : tv.ownBlock ≠ some H) (hT : ThingIs w H room used tv p (.iface 96 (.agg #[mm, .int .i64 1, pr]))) :
    Calls Tryz.prog 19 #[.pointer (some ⟨H, 0, none⟩), .int .i64 k, .int .i64 p] w fun e w' => ∃ b,
      e = .returned (.tuple #[.int .i64 n, .int .i64 0]) ∧ MadePost w H room used tv n xs b (.cells #[.map none, .slice none 0 0] 94 (0, 0)) (.iface 96 (.agg #[.pointer (some ⟨b, 0, none⟩), .int .i64 k, (.iface 96 (.agg #[mm, .int .i64 1, pr]))])) w' := by
  obtain ⟨i0, hi, hz0, hz1, hz2⟩ := info_parts infoThing
  have hl := ltOf hH
  have HH := Lib.hid hH; clear hH
  have HN := Lib.hid hne; clear hne
  have HO := Lib.hid hown; clear hown
  have k1 : (k != 2) = true := by simpa using hk2
  have k2 : decide (k < 1) = false := decide_eq_false (by omega)
  have k3 : decide (4 < k) = false := decide_eq_false (by omega)
  clear hk2
  obtain ⟨hka, hkb⟩ := hk
  have m2 : ∀ (W : World), (method 277 96 (.agg #[mm, .int .i64 1, pr]) "shuck/heap.kind").run Tryz.prog W = .ok (123, (.agg #[mm, .int .i64 1, pr])) W := fun W => by kernel_rfl
  go_enter Tryz.func19, Tryz.ntmps19
  go_wp2_with (first | (go_at_call 43; refine (takes_yes _ H room used tv HH.out hlt h0 hm).mono ?_; rintro e w1 ⟨rfl, hH1, hF1⟩; have hl1 : H < w1.heap.size := Nat.lt_of_lt_of_le hl hF1.size; have HH1 := Lib.hid hH1; clear hH1) | (go_at_call 40; refine (hT _ (hF1.alloc _) (heapAlloc HH1.out _)).mono ?_; rintro e w2 ⟨rfl, hO2⟩; have hF2 := (hF1.alloc _).old hO2; have HH2 := Lib.hid (hO2.at (heapAlloc HH1.out _) (fun h => h)); have hl2 := ltOf HH2.out; have c2 := cellOf HH2.out 2 _ rfl; have HO2 := Lib.hid (hF2.row HO.out (fun g hg e => HN.out (by rw [hg, e])))) | (go_at_call 123; refine (kind_obj _ _ _ _).mono ?_; rintro e w2 ⟨rfl, hO2⟩; have hF2 := hF2.old hO2; have HH2 := Lib.hid (hO2.at HH2.out (fun h => h)); have hl2 := ltOf HH2.out; have c2 := cellOf HH2.out 2 _ rfl; have HO2 := Lib.hid (hO2.row HO2.out (fun _ _ h => h))) | (at_builtin; refine wpList_append_own_at _ rfl (.tmp 50) (.tmp 52) 44 rfl 0 79 i0 .nilIface 1 16 Tryz.underlying44 hi hz0 hz1 hz2 rfl (by decide) tv n xs rfl ((HO2.out.alloc _).alloc _) ⟨w2.heap.size + 1, 0, none⟩ 1 1 [.iface 96 (.agg #[.pointer (some ⟨w2.heap.size, 0, none⟩), .int .i64 k, (.iface 96 (.agg #[mm, .int .i64 1, pr]))])] rfl rfl ?c1 ?c2 ?c3 ?c4 ?c5 ?_))
  case c1 => simpa using cell_one_new (w2.alloc (.cells #[.map none, .slice none 0 0] 94)) (.iface 96 (.agg #[.pointer (some ⟨w2.heap.size, 0, none⟩), .int .i64 k, (.iface 96 (.agg #[mm, .int .i64 1, pr]))])) 79
  case c2 => intro u hu; simp at hu; subst hu; rfl
  case c3 => unfold maxLen; omega
  case c4 => omega
  case c5 => omega
  intro v' w3 hown3 hg3 hnil hat
  obtain ⟨g, cap, rfl, hgg⟩ := push_form hown3 hat
  have hb1 := heapNew w2 (.cells #[.map none, .slice none 0 0] 94)
  have hH3 := grownAt hg3 (heapAlloc (heapAlloc HH2.out _) _) HN.out
  have hb3 := grownAt hg3 (heapAlloc hb1 _) (fun e => by have := HO2.out.lt _ e; omega)
  have c3 := cellOf hH3 2 _ rfl
  have f3 := freeOf hH3 2
  have hbl := ltOf hb1
  have hnH : w2.heap.size ≠ H := by omega
  have hng : g ≠ H := by
    rcases hgg with h | h
    · intro e; subst e; exact HN.out h
    · (try simp at h); omega
  have HP : Hid (MadePost w H room used tv n xs w2.heap.size (.cells #[.map none, .slice none 0 0] 94 (0, 0)) (.iface 96 (.agg #[.pointer (some ⟨w2.heap.size, 0, none⟩), .int .i64 k, (.iface 96 (.agg #[mm, .int .i64 1, pr]))])) (w3.setCell ⟨H, 2, none⟩ (.slice (some ⟨g, 0, none⟩) (n + 1) cap))) := by
    refine ⟨g, cap, setOf hH3 2 _, ownsRow_setCell_other hown3 (by simp [Value.ownBlock]; exact hng) _, ?_, ?_, heapSet hb3 _ hnH _, hF2.size, ?_⟩
    · rcases hgg with h | h
      · exact Or.inl h
      · right; (try simp at h); have := hF2.size; omega
    · rcases hgg with h | h
      · have := (HO.out.lt g h).2; have := hF2.size; omega
      · (try simp at h); omega
    · refine Fr.setCell ?_ (Or.inr (Or.inl rfl)) _
      have h1 : Fr (fun k => k = H ∨ tv.ownBlock = some k) w w2 := hF2.mono (fun i _ h => Or.inl h)
      exact ((h1.alloc _).alloc _).grown hg3 (fun k hk => Or.inr (Or.inr hk))
  clear hnil hat hgg hown3 hg3 hH3 hb3 hb1
  go_wp2
  go_ret2
  exact ⟨_, rfl, HP.out⟩

set_option maxRecDepth 100000 in
set_option maxHeartbeats 800000 in
theorem make_obj_keep4 (w : World) (H : Nat) (room used k p : Int) (tv : Value) (n : Nat) (xs : List Value) (mm pr : Value) (hk : 1 ≤ k ∧ k ≤ 4) (hk2 : k ≠ 2)
    (hH : w.heap[H]? = some (.cells #[.int .i64 room, .int .i64 used, tv] 46 (0, 0))) (hlt : used < room) (h0 : 0 ≤ used) (hm : room ≤ 1048576)
    (hown : w.ownsRow 0 79 1 tv n xs) (hn : (n : Int) ≤ used) (hne : tv.ownBlock ≠ some H) (hT : ThingIs w H room used tv p (.iface 96 (.agg #[mm, .int .i64 4, pr]))) :
    Calls Tryz.prog 19 #[.pointer (some ⟨H, 0, none⟩), .int .i64 k, .int .i64 p] w fun e w' => ∃ b,
      e = .returned (.tuple #[.int .i64 n, .int .i64 0]) ∧ MadePost w H room used tv n xs b (.cells #[.map none, .slice none 0 0] 94 (0, 0)) (.iface 96 (.agg #[.pointer (some ⟨b, 0, none⟩), .int .i64 k, (.iface 96 (.agg #[mm, .int .i64 4, pr]))])) w' := by
  obtain ⟨i0, hi, hz0, hz1, hz2⟩ := info_parts infoThing
  have hl := ltOf hH
  have HH := Lib.hid hH; clear hH
  have HN := Lib.hid hne; clear hne
  have HO := Lib.hid hown; clear hown
  have k1 : (k != 2) = true := by simpa using hk2
  have k2 : decide (k < 1) = false := decide_eq_false (by omega)
  have k3 : decide (4 < k) = false := decide_eq_false (by omega)
  clear hk2
  obtain ⟨hka, hkb⟩ := hk
  have m2 : ∀ (W : World), (method 277 96 (.agg #[mm, .int .i64 4, pr]) "shuck/heap.kind").run Tryz.prog W = .ok (123, (.agg #[mm, .int .i64 4, pr])) W := fun W => by kernel_rfl
  go_enter Tryz.func19, Tryz.ntmps19
  go_wp2_with (first | (go_at_call 43; refine (takes_yes _ H room used tv HH.out hlt h0 hm).mono ?_; rintro e w1 ⟨rfl, hH1, hF1⟩; have hl1 : H < w1.heap.size := Nat.lt_of_lt_of_le hl hF1.size; have HH1 := Lib.hid hH1; clear hH1) | (go_at_call 40; refine (hT _ (hF1.alloc _) (heapAlloc HH1.out _)).mono ?_; rintro e w2 ⟨rfl, hO2⟩; have hF2 := (hF1.alloc _).old hO2; have HH2 := Lib.hid (hO2.at (heapAlloc HH1.out _) (fun h => h)); have hl2 := ltOf HH2.out; have c2 := cellOf HH2.out 2 _ rfl; have HO2 := Lib.hid (hF2.row HO.out (fun g hg e => HN.out (by rw [hg, e])))) | (go_at_call 123; refine (kind_obj _ _ _ _).mono ?_; rintro e w2 ⟨rfl, hO2⟩; have hF2 := hF2.old hO2; have HH2 := Lib.hid (hO2.at HH2.out (fun h => h)); have hl2 := ltOf HH2.out; have c2 := cellOf HH2.out 2 _ rfl; have HO2 := Lib.hid (hO2.row HO2.out (fun _ _ h => h))) | (at_builtin; refine wpList_append_own_at _ rfl (.tmp 50) (.tmp 52) 44 rfl 0 79 i0 .nilIface 1 16 Tryz.underlying44 hi hz0 hz1 hz2 rfl (by decide) tv n xs rfl ((HO2.out.alloc _).alloc _) ⟨w2.heap.size + 1, 0, none⟩ 1 1 [.iface 96 (.agg #[.pointer (some ⟨w2.heap.size, 0, none⟩), .int .i64 k, (.iface 96 (.agg #[mm, .int .i64 4, pr]))])] rfl rfl ?c1 ?c2 ?c3 ?c4 ?c5 ?_))
  case c1 => simpa using cell_one_new (w2.alloc (.cells #[.map none, .slice none 0 0] 94)) (.iface 96 (.agg #[.pointer (some ⟨w2.heap.size, 0, none⟩), .int .i64 k, (.iface 96 (.agg #[mm, .int .i64 4, pr]))])) 79
  case c2 => intro u hu; simp at hu; subst hu; rfl
  case c3 => unfold maxLen; omega
  case c4 => omega
  case c5 => omega
  intro v' w3 hown3 hg3 hnil hat
  obtain ⟨g, cap, rfl, hgg⟩ := push_form hown3 hat
  have hb1 := heapNew w2 (.cells #[.map none, .slice none 0 0] 94)
  have hH3 := grownAt hg3 (heapAlloc (heapAlloc HH2.out _) _) HN.out
  have hb3 := grownAt hg3 (heapAlloc hb1 _) (fun e => by have := HO2.out.lt _ e; omega)
  have c3 := cellOf hH3 2 _ rfl
  have f3 := freeOf hH3 2
  have hbl := ltOf hb1
  have hnH : w2.heap.size ≠ H := by omega
  have hng : g ≠ H := by
    rcases hgg with h | h
    · intro e; subst e; exact HN.out h
    · (try simp at h); omega
  have HP : Hid (MadePost w H room used tv n xs w2.heap.size (.cells #[.map none, .slice none 0 0] 94 (0, 0)) (.iface 96 (.agg #[.pointer (some ⟨w2.heap.size, 0, none⟩), .int .i64 k, (.iface 96 (.agg #[mm, .int .i64 4, pr]))])) (w3.setCell ⟨H, 2, none⟩ (.slice (some ⟨g, 0, none⟩) (n + 1) cap))) := by
    refine ⟨g, cap, setOf hH3 2 _, ownsRow_setCell_other hown3 (by simp [Value.ownBlock]; exact hng) _, ?_, ?_, heapSet hb3 _ hnH _, hF2.size, ?_⟩
    · rcases hgg with h | h
      · exact Or.inl h
      · right; (try simp at h); have := hF2.size; omega
    · rcases hgg with h | h
      · have := (HO.out.lt g h).2; have := hF2.size; omega
      · (try simp at h); omega
    · refine Fr.setCell ?_ (Or.inr (Or.inl rfl)) _
      have h1 : Fr (fun k => k = H ∨ tv.ownBlock = some k) w w2 := hF2.mono (fun i _ h => Or.inl h)
      exact ((h1.alloc _).alloc _).grown hg3 (fun k hk => Or.inr (Or.inr hk))
  clear hnil hat hgg hown3 hg3 hH3 hb3 hb1
  go_wp2
  go_ret2
  exact ⟨_, rfl, HP.out⟩

set_option maxRecDepth 100000 in
set_option maxHeartbeats 800000 in
theorem make_obj_drop (w : World) (H : Nat) (room used k p : Int) (tv : Value) (n : Nat) (xs : List Value) (mm pr : Value) (wh : Int) (q1 : (wh != 1) = true) (q4 : (wh != 4) = true) (hk : 1 ≤ k ∧ k ≤ 4) (hk2 : k ≠ 2)
    (hH : w.heap[H]? = some (.cells #[.int .i64 room, .int .i64 used, tv] 46 (0, 0))) (hlt : used < room) (h0 : 0 ≤ used) (hm : room ≤ 1048576)
    (hown : w.ownsRow 0 79 1 tv n xs) (hn : (n : Int) ≤ used) (hne : tv.ownBlock ≠ some H) (hT : ThingIs w H room used tv p (.iface 96 (.agg #[mm, .int .i64 wh, pr]))) :
    Calls Tryz.prog 19 #[.pointer (some ⟨H, 0, none⟩), .int .i64 k, .int .i64 p] w fun e w' => ∃ b,
      e = .returned (.tuple #[.int .i64 n, .int .i64 0]) ∧ MadePost w H room used tv n xs b (.cells #[.map none, .slice none 0 0] 94 (0, 0)) (.iface 96 (.agg #[.pointer (some ⟨b, 0, none⟩), .int .i64 k, .nilIface])) w' := by
  obtain ⟨i0, hi, hz0, hz1, hz2⟩ := info_parts infoThing
  have hl := ltOf hH
  have HH := Lib.hid hH; clear hH
  have HN := Lib.hid hne; clear hne
  have HO := Lib.hid hown; clear hown
  have k1 : (k != 2) = true := by simpa using hk2
  have k2 : decide (k < 1) = false := decide_eq_false (by omega)
  have k3 : decide (4 < k) = false := decide_eq_false (by omega)
  clear hk2
  obtain ⟨hka, hkb⟩ := hk
  have m2 : ∀ (W : World), (method 277 96 (.agg #[mm, .int .i64 wh, pr]) "shuck/heap.kind").run Tryz.prog W = .ok (123, (.agg #[mm, .int .i64 wh, pr])) W := fun W => by kernel_rfl
  go_enter Tryz.func19, Tryz.ntmps19
  go_wp2_with (first | (go_at_call 43; refine (takes_yes _ H room used tv HH.out hlt h0 hm).mono ?_; rintro e w1 ⟨rfl, hH1, hF1⟩; have hl1 : H < w1.heap.size := Nat.lt_of_lt_of_le hl hF1.size; have HH1 := Lib.hid hH1; clear hH1) | (go_at_call 40; refine (hT _ (hF1.alloc _) (heapAlloc HH1.out _)).mono ?_; rintro e w2 ⟨rfl, hO2⟩; have hF2 := (hF1.alloc _).old hO2; have HH2 := Lib.hid (hO2.at (heapAlloc HH1.out _) (fun h => h)); have hl2 := ltOf HH2.out; have c2 := cellOf HH2.out 2 _ rfl; have HO2 := Lib.hid (hF2.row HO.out (fun g hg e => HN.out (by rw [hg, e])))) | (go_at_call 123; refine (kind_obj _ _ _ _).mono ?_; rintro e w2 ⟨rfl, hO2⟩; have hF2 := hF2.old hO2; have HH2 := Lib.hid (hO2.at HH2.out (fun h => h)); have hl2 := ltOf HH2.out; have c2 := cellOf HH2.out 2 _ rfl; have HO2 := Lib.hid (hO2.row HO2.out (fun _ _ h => h))) | (at_builtin; refine wpList_append_own_at _ rfl (.tmp 50) (.tmp 52) 44 rfl 0 79 i0 .nilIface 1 16 Tryz.underlying44 hi hz0 hz1 hz2 rfl (by decide) tv n xs rfl ((HO2.out.alloc _).alloc _) ⟨w2.heap.size + 1, 0, none⟩ 1 1 [.iface 96 (.agg #[.pointer (some ⟨w2.heap.size, 0, none⟩), .int .i64 k, .nilIface])] rfl rfl ?c1 ?c2 ?c3 ?c4 ?c5 ?_))
  case c1 => simpa using cell_one_new (w2.alloc (.cells #[.map none, .slice none 0 0] 94)) (.iface 96 (.agg #[.pointer (some ⟨w2.heap.size, 0, none⟩), .int .i64 k, .nilIface])) 79
  case c2 => intro u hu; simp at hu; subst hu; rfl
  case c3 => unfold maxLen; omega
  case c4 => omega
  case c5 => omega
  intro v' w3 hown3 hg3 hnil hat
  obtain ⟨g, cap, rfl, hgg⟩ := push_form hown3 hat
  have hb1 := heapNew w2 (.cells #[.map none, .slice none 0 0] 94)
  have hH3 := grownAt hg3 (heapAlloc (heapAlloc HH2.out _) _) HN.out
  have hb3 := grownAt hg3 (heapAlloc hb1 _) (fun e => by have := HO2.out.lt _ e; omega)
  have c3 := cellOf hH3 2 _ rfl
  have f3 := freeOf hH3 2
  have hbl := ltOf hb1
  have hnH : w2.heap.size ≠ H := by omega
  have hng : g ≠ H := by
    rcases hgg with h | h
    · intro e; subst e; exact HN.out h
    · (try simp at h); omega
  have HP : Hid (MadePost w H room used tv n xs w2.heap.size (.cells #[.map none, .slice none 0 0] 94 (0, 0)) (.iface 96 (.agg #[.pointer (some ⟨w2.heap.size, 0, none⟩), .int .i64 k, .nilIface])) (w3.setCell ⟨H, 2, none⟩ (.slice (some ⟨g, 0, none⟩) (n + 1) cap))) := by
    refine ⟨g, cap, setOf hH3 2 _, ownsRow_setCell_other hown3 (by simp [Value.ownBlock]; exact hng) _, ?_, ?_, heapSet hb3 _ hnH _, hF2.size, ?_⟩
    · rcases hgg with h | h
      · exact Or.inl h
      · right; (try simp at h); have := hF2.size; omega
    · rcases hgg with h | h
      · have := (HO.out.lt g h).2; have := hF2.size; omega
      · (try simp at h); omega
    · refine Fr.setCell ?_ (Or.inr (Or.inl rfl)) _
      have h1 : Fr (fun k => k = H ∨ tv.ownBlock = some k) w w2 := hF2.mono (fun i _ h => Or.inl h)
      exact ((h1.alloc _).alloc _).grown hg3 (fun k hk => Or.inr (Or.inr hk))
  clear hnil hat hgg hown3 hg3 hH3 hb3 hb1
  go_wp2
  go_ret2
  exact ⟨_, rfl, HP.out⟩

set_option maxRecDepth 100000 in
set_option maxHeartbeats 800000 in
theorem make_obj_arr (w : World) (H : Nat) (room used k p : Int) (tv : Value) (n : Nat) (xs : List Value) (q : Option Addr) (hk : 1 ≤ k ∧ k ≤ 4) (hk2 : k ≠ 2)
    (hH : w.heap[H]? = some (.cells #[.int .i64 room, .int .i64 used, tv] 46 (0, 0))) (hlt : used < room) (h0 : 0 ≤ used) (hm : room ≤ 1048576)
    (hown : w.ownsRow 0 79 1 tv n xs) (hn : (n : Int) ≤ used) (hne : tv.ownBlock ≠ some H) (hT : ThingIs w H room used tv p (.iface 86 (.pointer q))) :
    Calls Tryz.prog 19 #[.pointer (some ⟨H, 0, none⟩), .int .i64 k, .int .i64 p] w fun e w' => ∃ b,
      e = .returned (.tuple #[.int .i64 n, .int .i64 0]) ∧ MadePost w H room used tv n xs b (.cells #[.map none, .slice none 0 0] 94 (0, 0)) (.iface 96 (.agg #[.pointer (some ⟨b, 0, none⟩), .int .i64 k, .nilIface])) w' := by
  obtain ⟨i0, hi, hz0, hz1, hz2⟩ := info_parts infoThing
  have hl := ltOf hH
  have HH := Lib.hid hH; clear hH
  have HN := Lib.hid hne; clear hne
  have HO := Lib.hid hown; clear hown
  have k1 : (k != 2) = true := by simpa using hk2
  have k2 : decide (k < 1) = false := decide_eq_false (by omega)
  have k3 : decide (4 < k) = false := decide_eq_false (by omega)
  clear hk2
  obtain ⟨hka, hkb⟩ := hk
  have m2 : ∀ (W : World), (method 277 86 (.pointer q) "shuck/heap.kind").run Tryz.prog W = .ok (120, (.pointer q)) W := fun W => by kernel_rfl
  go_enter Tryz.func19, Tryz.ntmps19
  go_wp2_with (first | (go_at_call 43; refine (takes_yes _ H room used tv HH.out hlt h0 hm).mono ?_; rintro e w1 ⟨rfl, hH1, hF1⟩; have hl1 : H < w1.heap.size := Nat.lt_of_lt_of_le hl hF1.size; have HH1 := Lib.hid hH1; clear hH1) | (go_at_call 40; refine (hT _ (hF1.alloc _) (heapAlloc HH1.out _)).mono ?_; rintro e w2 ⟨rfl, hO2⟩; have hF2 := (hF1.alloc _).old hO2; have HH2 := Lib.hid (hO2.at (heapAlloc HH1.out _) (fun h => h)); have hl2 := ltOf HH2.out; have c2 := cellOf HH2.out 2 _ rfl; have HO2 := Lib.hid (hF2.row HO.out (fun g hg e => HN.out (by rw [hg, e])))) | (go_at_call 120; refine (kind_arr _ _).mono ?_; rintro e w2 ⟨rfl, hO2⟩; have hF2 := hF2.old hO2; have HH2 := Lib.hid (hO2.at HH2.out (fun h => h)); have hl2 := ltOf HH2.out; have c2 := cellOf HH2.out 2 _ rfl; have HO2 := Lib.hid (hO2.row HO2.out (fun _ _ h => h))) | (at_builtin; refine wpList_append_own_at _ rfl (.tmp 50) (.tmp 52) 44 rfl 0 79 i0 .nilIface 1 16 Tryz.underlying44 hi hz0 hz1 hz2 rfl (by decide) tv n xs rfl ((HO2.out.alloc _).alloc _) ⟨w2.heap.size + 1, 0, none⟩ 1 1 [.iface 96 (.agg #[.pointer (some ⟨w2.heap.size, 0, none⟩), .int .i64 k, .nilIface])] rfl rfl ?c1 ?c2 ?c3 ?c4 ?c5 ?_))
  case c1 => simpa using cell_one_new (w2.alloc (.cells #[.map none, .slice none 0 0] 94)) (.iface 96 (.agg #[.pointer (some ⟨w2.heap.size, 0, none⟩), .int .i64 k, .nilIface])) 79
  case c2 => intro u hu; simp at hu; subst hu; rfl
  case c3 => unfold maxLen; omega
  case c4 => omega
  case c5 => omega
  intro v' w3 hown3 hg3 hnil hat
  obtain ⟨g, cap, rfl, hgg⟩ := push_form hown3 hat
  have hb1 := heapNew w2 (.cells #[.map none, .slice none 0 0] 94)
  have hH3 := grownAt hg3 (heapAlloc (heapAlloc HH2.out _) _) HN.out
  have hb3 := grownAt hg3 (heapAlloc hb1 _) (fun e => by have := HO2.out.lt _ e; omega)
  have c3 := cellOf hH3 2 _ rfl
  have f3 := freeOf hH3 2
  have hbl := ltOf hb1
  have hnH : w2.heap.size ≠ H := by omega
  have hng : g ≠ H := by
    rcases hgg with h | h
    · intro e; subst e; exact HN.out h
    · (try simp at h); omega
  have HP : Hid (MadePost w H room used tv n xs w2.heap.size (.cells #[.map none, .slice none 0 0] 94 (0, 0)) (.iface 96 (.agg #[.pointer (some ⟨w2.heap.size, 0, none⟩), .int .i64 k, .nilIface])) (w3.setCell ⟨H, 2, none⟩ (.slice (some ⟨g, 0, none⟩) (n + 1) cap))) := by
    refine ⟨g, cap, setOf hH3 2 _, ownsRow_setCell_other hown3 (by simp [Value.ownBlock]; exact hng) _, ?_, ?_, heapSet hb3 _ hnH _, hF2.size, ?_⟩
    · rcases hgg with h | h
      · exact Or.inl h
      · right; (try simp at h); have := hF2.size; omega
    · rcases hgg with h | h
      · have := (HO.out.lt g h).2; have := hF2.size; omega
      · (try simp at h); omega
    · refine Fr.setCell ?_ (Or.inr (Or.inl rfl)) _
      have h1 : Fr (fun k => k = H ∨ tv.ownBlock = some k) w w2 := hF2.mono (fun i _ h => Or.inl h)
      exact ((h1.alloc _).alloc _).grown hg3 (fun k hk => Or.inr (Or.inr hk))
  clear hnil hat hgg hown3 hg3 hH3 hb3 hb1
  go_wp2
  go_ret2
  exact ⟨_, rfl, HP.out⟩
end Go.Proofs.YtlimgecmolhdhaaGreatDoor
