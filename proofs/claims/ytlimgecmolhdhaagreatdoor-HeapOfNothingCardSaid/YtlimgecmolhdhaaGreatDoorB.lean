/- A strings.Builder that lies anywhere in a block. -/
import Derived.Test.YtlimgecmolhdhaaGreatDoorFr
import Derived.Lib.AppendStr
import Derived.Lib.UnsafeStr
import Derived.Lib.Builder
import Derived.Laws.Externs
set_option linter.unusedVariables false
set_option linter.unusedSimpArgs false
namespace Go.Proofs.YtlimgecmolhdhaaGreatDoor
open Go.RowKit

abbrev bc (l : List UInt8) : List Value := l.map fun b => Value.int .u8 b.toNat

theorem infoByte : (Tryz.prog.info? 5).map (fun i => (i.zero, i.size, i.bytes)) = some (some (.int .u8 0), 1, 1) := by kernel_rfl
theorem sizeBuilder : (Tryz.prog.info? 72).map (fun i => i.size) = some 2 := by kernel_rfl

/-- Block b (cells c, type T) has a Builder at off; it holds l. -/
def Bld (w : World) (b off : Nat) (T : TypeId) (c : Array Value) (l : List UInt8) : Prop :=
  w.heap[b]? = some (.cells c T (0, 0)) ∧ off + 1 < c.size ∧ (c[off]? = some (.pointer none) ∨ c[off]? = some (.pointer (some ⟨b, off, none⟩))) ∧
    liesAt Tryz.prog Tryz.prog.depth T (c.size / Tryz.prog.cellsOf T) off 72 1 = true ∧
    ∃ v, c[off + 1]? = some v ∧ w.ownsRow 0 5 1 v l.length (bc l) ∧ v.ownBlock ≠ some b

theorem ownsRow_slice {w : World} {base e size n : Nat} {v : Value} {xs : List Value} (h : w.ownsRow base e size v n xs) : ∃ a m, v = .slice a n m := by
  rcases h.2 with ⟨rfl, rfl⟩ | ⟨g, cap, _, rfl, _⟩
  · exact ⟨_, _, rfl⟩
  · exact ⟨_, _, rfl⟩

theorem Bld.kept {F : Nat → Prop} {w w' : World} {b off : Nat} {T : TypeId} {c : Array Value} {l : List UInt8} (h : Bld w b off T c l) (hf : Fr F w w') (hb : ¬ F b)
    (hr : ∀ v g, c[off + 1]? = some v → v.ownBlock = some g → ¬ F g) : Bld w' b off T c l := by
  obtain ⟨h1, h2, h3, h4, v, h5, h6, h7⟩ := h
  exact ⟨hf.at h1 hb, h2, h3, h4, v, h5, hf.row h6 (fun g hg => hr v g h5 hg), h7⟩

set_option maxHeartbeats 400000 in
theorem cc_used (b off : Nat) (w : World) (h0 : w.cell? ⟨b, off, none⟩ = some (.pointer (some ⟨b, off, none⟩))) :
    Calls Tryz.prog 81 #[.pointer (some ⟨b, off, none⟩)] w fun e w' => e = .returned (.tuple #[]) ∧ w = w' := by
  obtain ⟨j, hj, _⟩ := Option.map_eq_some_iff.1 sizeBuilder
  have hn := fun w => Lib.run_neq_ptr_same (P := Tryz.prog) w ⟨b, off, none⟩ Tryz.underlying69 hj
  go_enter Tryz.func81, Tryz.ntmps81
  go_wp2
  go_end0
  exact ⟨rfl, rfl⟩

set_option maxHeartbeats 400000 in
theorem cc_fresh (b off n : Nat) (T : TypeId) (w : World) (h0 : w.cell? ⟨b, off, none⟩ = some (.pointer none)) (hsh : w.shape? b = some (T, n)) (hoff : off < n) (hfz : w.frozen? ⟨b, off, none⟩ = false)
    (hlies : liesAt Tryz.prog Tryz.prog.depth T (n / Tryz.prog.cellsOf T) off 72 1 = true) :
    Calls Tryz.prog 81 #[.pointer (some ⟨b, off, none⟩)] w fun e w' => e = .returned (.tuple #[]) ∧ w.setCell ⟨b, off, none⟩ (.pointer (some ⟨b, off, none⟩)) = w' := by
  obtain ⟨j, hj, hjs⟩ := Option.map_eq_some_iff.1 sizeBuilder
  have r1 := Lib.run_to_unsafe (P := Tryz.prog) w ⟨b, off, none⟩ Tryz.underlying69 Tryz.underlying149 hj (by rw [hjs]; decide) hsh hoff
  have r2 : (callFunc 89 #[.pointer (some ⟨b, off, none⟩)]).run Tryz.prog w = .ok (.value (.pointer (some ⟨b, off, none⟩))) w := by
    rw [run_callFunc_extern Tryz.func89 (by kernel_rfl) (by kernel_rfl) (by kernel_rfl) (e := Extern.AbiNoEscape.same) (by kernel_rfl), Lib.run_noEscape]
    rfl
  have r3 := Lib.run_from_unsafe (P := Tryz.prog) w ⟨b, off, none⟩ Tryz.underlying149 Tryz.underlying69 hj hsh hlies
  clear hlies hsh
  go_enter Tryz.func81, Tryz.ntmps81
  go_wp2
  go_end0
  exact ⟨rfl, rfl⟩

/-- What copyCheck leaves. -/
theorem cc_any (b off : Nat) (T : TypeId) (c : Array Value) (l : List UInt8) (w : World) (h : Bld w b off T c l) :
    Calls Tryz.prog 81 #[.pointer (some ⟨b, off, none⟩)] w fun e w' => e = .returned (.tuple #[]) ∧ Bld w' b off T (c.setIfInBounds off (.pointer (some ⟨b, off, none⟩))) l ∧ Fr (· = b) w w' := by
  obtain ⟨h1, h2, h3, h4, v, h5, h6, h7⟩ := h
  have hv : (c.setIfInBounds off (.pointer (some ⟨b, off, none⟩)))[off + 1]? = some v := by rw [Array.getElem?_setIfInBounds]; simp [h5]
  have hs : (c.setIfInBounds off (.pointer (some ⟨b, off, none⟩)))[off]? = some (.pointer (some ⟨b, off, none⟩)) := by rw [Array.getElem?_setIfInBounds]; simp; omega
  rcases h3 with h3 | h3
  · refine (cc_fresh b off c.size T w (cellOf h1 off _ h3) (by simp [World.shape?, h1]) (by omega) (freeOf h1 off) h4).mono ?_
    rintro e w' ⟨rfl, rfl⟩
    exact ⟨rfl, ⟨setOf h1 off _, by simpa using h2, Or.inr hs, by simpa using h4, v, hv, ownsRow_setCell_other h6 h7 _, h7⟩, Fr.setCell (F := (· = b)) (Fr.refl _ _) (Or.inr rfl) _⟩
  · refine (cc_used b off w (cellOf h1 off _ h3)).mono ?_
    rintro e w' ⟨rfl, rfl⟩
    have e : c.setIfInBounds off (.pointer (some ⟨b, off, none⟩)) = c := by
      apply Array.ext_getElem?
      intro i
      rw [Array.getElem?_setIfInBounds]
      split
      · rename_i hi; subst hi; simp [h3]; omega
      · rfl
    rw [e]
    exact ⟨rfl, ⟨h1, h2, Or.inr h3, h4, v, h5, h6, h7⟩, Fr.refl _ _⟩

set_option maxHeartbeats 400000 in
theorem blen_any (b off : Nat) (T : TypeId) (c : Array Value) (l : List UInt8) (w : World) (h : Bld w b off T c l) :
    Calls Tryz.prog 66 #[.pointer (some ⟨b, off, none⟩)] w fun e w' => e = .returned (.int .i64 l.length) ∧ w = w' := by
  obtain ⟨h1, h2, h3, h4, v, h5, h6, h7⟩ := h
  obtain ⟨a, m, rfl⟩ := ownsRow_slice h6
  have c1 := cellOf h1 (off + 1) _ h5
  clear h1 h2 h3 h4 h5 h6 h7
  go_enter Tryz.func66, Tryz.ntmps66
  go_wp2
  go_ret
  exact ⟨rfl, rfl⟩

theorem ok_inj {α : Type} {a b : α} {w w' : World} (h : Result.ok a w = .ok b w') : a = b := by cases h; rfl

/-- An append of a string: where the new slice lies. -/
theorem app_str (w : World) (v : Value) (n : Nat) (xs : List Value) (hown : w.ownsRow 0 5 1 v n xs) (s : ByteArray) (hb : n + s.size ≤ 140737488355328) :
    ∃ v' w', (Builtin.append_ #[70, 9] 70 #[v, .string s]).run Tryz.prog w = .ok v' w' ∧ w'.ownsRow 0 5 1 v' (n + s.size) (xs ++ bc s.data.toList) ∧ w.grownBy w' v.ownBlock ∧
      (v'.ownBlock = v.ownBlock ∨ v'.ownBlock = some w.heap.size) := by
  obtain ⟨i0, hi, hz0, hz1, hz2⟩ := info_parts infoByte
  obtain ⟨v', w', hr, ho, hg, hn⟩ := Lib.run_append_own_string (P := Tryz.prog) w 0 70 9 70 5 i0 Tryz.underlying70 Tryz.underlying9 hi hz0 hz1 hz2 v n xs hown s (by unfold maxLen; omega) hb (Nat.zero_le _)
  refine ⟨v', w', hr, ho, hg, ?_⟩
  have hxl : xs.length = n := by simpa using hown.1
  rcases hown.2 with ⟨rfl, rfl⟩ | ⟨g, cap, cur, rfl, hbg, hgg, hnc, hcm, hcs, htake⟩
  · by_cases hm : s.size = 0
    · left; rw [hn.2 ⟨rfl, hm⟩]
    · right
      rw [run_append_nil_string (P := Tryz.prog) w 70 9 70 5 i0 (.int .u8 0) Tryz.underlying70 Tryz.underlying9 hi hz0 s (by omega) (by omega) (by rw [hz2]; omega)] at hr
      have e1 := ok_inj hr
      rw [← e1]; rfl
  · by_cases hroom : n + s.size ≤ cap
    · left
      rw [Lib.run_append_room_string (P := Tryz.prog) w 70 9 70 5 i0 Tryz.underlying70 Tryz.underlying9 hi hz1 g n cap cur hgg s hroom (by simp at hcs; omega)] at hr
      have e1 := ok_inj hr
      rw [← e1]; rfl
    · right
      rw [Lib.run_append_grow_string (P := Tryz.prog) w 70 9 70 5 i0 (.int .u8 0) Tryz.underlying70 Tryz.underlying9 hi hz0 ⟨g, 0, none⟩ n cap xs (by rw [hz1]; simpa using hxl) (hown.cells (g := g) rfl) s (by omega) (by omega) (by rw [hz2]; exact growslice_fits (by omega) (by omega))] at hr
      have e1 := ok_inj hr
      rw [← e1]; rfl

theorem wpList_app_str {ops : Array Oper} {rest : List Oper} {o : Oper} {a : Act} {Q : Exit → Act → World → Prop} {w : World} (hgd : o.guard = none) (sl x : Operand)
    (ho : o.op = .call { callee := .builtin .append, args := #[sl, x], argTypes := #[70, 9] }) (hty : o.type = 70)
    (v : Value) (n : Nat) (xs : List Value) (hs : a.eval sl = v) (hown : w.ownsRow 0 5 1 v n xs) (s : ByteArray) (hx : a.eval x = .string s) (hb : n + s.size ≤ 140737488355328)
    (h : ∀ v' w', w'.ownsRow 0 5 1 v' (n + s.size) (xs ++ bc s.data.toList) → w.grownBy w' v.ownBlock → (v'.ownBlock = v.ownBlock ∨ v'.ownBlock = some w.heap.size) → wpList Tryz.prog ops Q rest (a.put o.dst v') w') : wpList Tryz.prog ops Q (o :: rest) a w := by
  refine wpList_plain hgd fun K hK => ?_
  obtain ⟨v', w', hr, h2, h3, h4⟩ := app_str w v n xs hown s hb
  unfold Oper.wp execOp
  simp only [ho, hty, resolve, invoke, builtin, Sem.run_bind, Sem.run_pure, Result.andThen_ok, List.map_toArray, List.map_cons, List.map_nil, hs, hx, hr]
  exact hK _ _ (h v' w' h2 h3 h4)

/-- What a write leaves. -/
def Wrote (w : World) (b off : Nat) (T : TypeId) (c : Array Value) (l : List UInt8) (w' : World) : Prop :=
  ∃ v', Bld w' b off T ((c.setIfInBounds off (.pointer (some ⟨b, off, none⟩))).setIfInBounds (off + 1) v') l ∧
    (∀ g, v'.ownBlock = some g → w.heap.size ≤ g ∨ ∃ v, c[off + 1]? = some v ∧ v.ownBlock = some g) ∧
    Fr (fun k => k = b ∨ ∃ v, c[off + 1]? = some v ∧ v.ownBlock = some k) w w'

set_option maxHeartbeats 400000 in
theorem write_str (b off : Nat) (T : TypeId) (c : Array Value) (l : List UInt8) (s : ByteArray) (w : World) (h : Bld w b off T c l) (hb : l.length + s.size ≤ 140737488355328) :
    Calls Tryz.prog 67 #[.pointer (some ⟨b, off, none⟩), .string s] w fun e w' => e = .returned (.tuple #[.int .i64 s.size, .nilIface]) ∧ Wrote w b off T c (l ++ s.data.toList) w' := by
  have hv : (c.setIfInBounds off (.pointer (some ⟨b, off, none⟩)))[off + 1]? = c[off + 1]? := by rw [Array.getElem?_setIfInBounds]; simp
  go_enter Tryz.func67, Tryz.ntmps67
  go_wp2_with (first | (go_at_call 81; refine (cc_any b off T c l _ h).mono ?_; rintro e w1 ⟨rfl, ⟨h1, h2, h3, h4, v, h5, h6, h7⟩, hF1⟩; obtain ⟨a0, m0, rfl⟩ := ownsRow_slice h6; have c1 := cellOf h1 (off + 1) _ h5; have HH1 := Lib.hid h1; have HH2 := Lib.hid h2; have HH4 := Lib.hid h4; have HH5 := Lib.hid h5; have HH7 := Lib.hid h7; clear h1 h2 h3 h4 h5 h7) | (at_builtin; refine wpList_app_str rfl (.tmp 12) (.tmp 13) rfl rfl _ l.length (bc l) rfl h6 s rfl hb ?_))
  intro v' w2 hown2 hg2 hat
  have hb2 := grownAt hg2 HH1.out (fun e => HH7.out e)
  have hne : v'.ownBlock ≠ some b := by
    rcases hat with e | e
    · rw [e]; exact HH7.out
    · rw [e]; intro e'; have := ltOf HH1.out; simp at e'; omega
  have hoff : off + 1 < (c.setIfInBounds off (.pointer (some ⟨b, off, none⟩))).size := HH2.out
  obtain ⟨a1, m1, rfl⟩ := ownsRow_slice hown2
  have c2 := cellOf hb2 (off + 1) _ HH5.out
  have f2 := freeOf hb2 (off + 1)
  have HP : Hid (Wrote w b off T c (l ++ s.data.toList) (w2.setCell ⟨b, off + 1, none⟩ (.slice a1 (l.length + s.size) m1))) := by
    have hF2 : Fr (fun k => k = b ∨ ∃ v, c[off + 1]? = some v ∧ v.ownBlock = some k) w w2 :=
      (hF1.mono (fun i _ h => Or.inl h)).grown hg2 (fun k hk => Or.inr (Or.inr ⟨_, hv ▸ HH5.out, hk⟩))
    refine ⟨.slice a1 (l.length + s.size) m1, ⟨setOf hb2 (off + 1) _, by simpa using HH2.out, Or.inr ?_, by simpa using HH4.out, _, ?_, ?_, hne⟩, ?_, hF2.setCell (Or.inr (Or.inl rfl)) _⟩
    · have h1 : off < c.size := by simp at hoff; omega
      simp [Array.getElem?_setIfInBounds, h1]
    · have h1 : off + 1 < c.size := by simp at hoff; omega
      simp [Array.getElem?_setIfInBounds, h1]
    · have := ownsRow_setCell_other hown2 (a := ⟨b, off + 1, none⟩) hne (.slice a1 (l.length + s.size) m1)
      rw [List.length_append, show s.data.toList.length = s.size from by rw [Array.length_toList]; rfl, bc, List.map_append]
      exact this
    · intro g hg
      rcases hat with e | e
      · right; exact ⟨_, hv ▸ HH5.out, by rw [← e]; exact hg⟩
      · left; rw [e] at hg; simp at hg; have := hF1.size; omega
  clear hown2 hg2 hat hb2 hne hoff h6
  go_wp2
  go_ret2
  exact ⟨rfl, HP.out⟩

theorem cellsByte : Tryz.prog.cellsOf 5 = 1 := by kernel_rfl
theorem Fr.freeze (w : World) (a : Addr) (n : Nat) : Fr (· = a.block) w (w.freeze a n) := by
  unfold World.freeze
  split
  · exact Fr.refl _ _
  · refine ⟨rfl, rfl, rfl, by simp, fun k hk hn => ?_⟩
    simp only [Array.getElem?_modify]
    rw [if_neg (fun e => hn e.symm)]

set_option maxHeartbeats 800000 in
set_option maxRecDepth 100000 in
theorem bstring_any (b off : Nat) (T : TypeId) (c : Array Value) (l : List UInt8) (w : World) (h : Bld w b off T c l) (hl : l ≠ []) :
    Calls Tryz.prog 37 #[.pointer (some ⟨b, off, none⟩)] w fun e w' => e = .returned (.string ⟨l.toArray⟩) ∧ Fr (fun k => ∃ v, c[off + 1]? = some v ∧ v.ownBlock = some k) w w' := by
  obtain ⟨h1, h2, h3, h4, v, h5, h6, h7⟩ := h
  have hlen : l.length ≠ 0 := by simpa using hl
  rcases h6.2 with ⟨_, h0⟩ | ⟨g, cap, cur, rfl, hbg, hg, hnc, hcm, hcs, htake⟩
  · exact absurd h0 hlen
  have c1 : w.drew.cell? ⟨b, off + 1, none⟩ = some (.slice (some ⟨g, 0, none⟩) l.length cap) := cellOf (heapDrew h1) (off + 1) _ h5
  have hSD : (Builtin.unsafeSliceData_ #[70] 124 #[.slice (some ⟨g, 0, none⟩) l.length cap]).run Tryz.prog w.drew = .ok (.pointer (some ⟨g, 0, none⟩)) w.drew :=
    Lib.run_unsafeSliceData_row _ _ _ _ _ _ (by omega)
  have hUS : (Builtin.unsafeString_ #[124, 3] 9 #[.pointer (some ⟨g, 0, none⟩), .int .i64 l.length]).run Tryz.prog w.drew = .ok (.string ⟨l.toArray⟩) (w.drew.freeze ⟨g, 0, none⟩ l.length) := by
    refine Lib.run_unsafeString_row w.drew 124 3 9 5 Tryz.underlying124 cellsByte g cur.size (by simp [World.shape?, heapDrew hg]) l hl (by omega) (by unfold maxLen at hcm; omega) ?_
    intro j x hx
    exact h6.cells (g := g) rfl j (.int .u8 x.toNat) (by simp [hx])
  have hF : Hid (Fr (fun k => ∃ v, c[off + 1]? = some v ∧ v.ownBlock = some k) w (w.drew.freeze ⟨g, 0, none⟩ l.length)) :=
    ((Fr.refl _ _).drew).trans (Fr.freeze w.drew ⟨g, 0, none⟩ l.length) (fun i _ e => ⟨_, h5, by rw [e]; rfl⟩)
  clear h1 h2 h3 h4 h5 h6 h7 hl hlen hbg hg hnc hcm hcs htake
  go_enter Tryz.func37, Tryz.ntmps37
  go_wp2
  go_region
  all_goals (go_wp2; go_ret; exact ⟨rfl, hF.out⟩)
end Go.Proofs.YtlimgecmolhdhaaGreatDoor
