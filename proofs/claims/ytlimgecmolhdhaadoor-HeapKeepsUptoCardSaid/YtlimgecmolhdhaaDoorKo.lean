/- HeapKeeps: for every slice of strings and every slice of ints that hold together at most 1048576 values and letters (the bound is not used) the law returns true, and both read as they did. Conditions: the listed package-level variables hold what the program's text lays; nothing else. -/
import Derived.Test.YtlimgecmolhdhaaDoorKw
import Derived.SliceStrings
import Derived.Test.YtlimgecmolhdhaaDoorLw
set_option linter.unusedVariables false
set_option linter.unusedSimpArgs false
namespace Go.Proofs.YtlimgecmolhdhaaDoor.heapKeeps
open Go.ChangeShapes Go.WideShapes Go.ChangeAt Go.RowKit

theorem bulk_part {H : Type} {d : DataW H} : ∀ {l : List (DataW H)}, d ∈ l → Rows.uptoBulk d ≤ Rows.uptoBulkAll l
  | [], h => by cases h
  | x :: r, h => by
    simp only [Rows.uptoBulkAll]
    rcases List.mem_cons.1 h with h | h
    · subst h; omega
    · have := bulk_part h; omega

set_option maxRecDepth 100000 in
theorem contract (H : Type) (enc : TypeId × Value → H) (W : World) (base : Nat) (args : Array Value) (ds gs : List (DataW H)) (before : List MemPlace)
    (hval : ∀ (j : Nat) t v, Tryd.f5.params[j]? = some t → args[j]? = some v → Value.okWide Tryd.prog W .any base t v)
    (hbulk : Rows.uptoBulkAll (ds ++ gs) ≤ 1048576)
    (hW : DataW.Whole enc Tryd.prog Tryd.f5.params.toList Rows.heapKeepsSpec.vars false W args.toList ds gs before) :
    Calls Tryd.prog 5 args W fun e W' => ∃ v, e = .returned v ∧ Rows.heapKeepsSpec.post enc Tryd.prog Tryd.f5 false true false false W args v W' := by
  have hW' := hW
  obtain ⟨p, q, hA0, hV, rfl, hfz, hnd⟩ := hW
  have hA : DataW.TrodAll enc Tryd.prog W 0 (fun _ => true) true Tryd.f5.params.toList args.toList ds p := hA0
  rw [show Tryd.f5.params = #[39, 22] from Tryd.params5] at hA hval
  obtain ⟨v0, vs0, d0, ds0, p0, q0, hargs, rfl, rfl, h0, r0⟩ := trodAll_cons hA
  obtain ⟨v1, vs1, d1, ds1, p1, q1, rfl, rfl, rfl, h1, r1⟩ := trodAll_cons r0
  obtain ⟨rfl, rfl, rfl⟩ := trodAll_nil r1
  obtain rfl : args = #[v0, v1] := by cases args; simp_all
  obtain ⟨A, n, c, rfl⟩ := okWide_slice Tryd.underlying39 (hval 0 39 v0 rfl rfl)
  obtain ⟨B, m, c', rfl⟩ := okWide_slice Tryd.underlying22 (hval 1 22 v1 rfl rfl)
  obtain ⟨fuel, hf⟩ := h0
  obtain ⟨fuel2, hf2⟩ := h1
  have s0 : ∃ ss : Nat → ByteArray, n ≤ 9223372036854775807 ∧ ∀ i, i < n → ∃ ad, A = some ad ∧ ad.block < W.heap.size ∧ W.cell? (ad.add i) = some (.string (ss i)) ∧ (ss i).size ≤ 140737488351232 := by
    rcases open_strings Tryd.underlying39 Tryd.underlying9 (show Tryd.prog.cellsOf 9 = 1 by kernel_rfl) hf with ⟨hcs, hx⟩ | ⟨a, len', cap', zs, hcs, _, hl, hm, hz, hrest⟩
    · simp [Value.cells] at hcs
      obtain ⟨rfl, rfl, rfl⟩ := hcs
      exact ⟨fun _ => ⟨#[]⟩, by omega, fun i hi => by omega⟩
    · simp [Value.cells] at hcs
      obtain ⟨rfl, rfl, rfl⟩ := hcs
      simp only [if_true] at hz
      obtain ⟨hx, hcell, hwz⟩ := hrest
      refine ⟨fun i => zs.getD i ByteArray.empty, Nat.le_trans hl hm, fun i hi => ⟨a, rfl, cell_lt (hcell i (by omega)), hcell i (by omega), ?_⟩⟩
      simp only [Prod.mk.injEq] at hx
      obtain ⟨rfl, rfl⟩ := hx
      have hlen : i < zs.length := by omega
      have hmem : zs.getD i ByteArray.empty ∈ zs.take n := by
        rw [List.getD_eq_getElem?_getD, List.getElem?_eq_getElem hlen, Option.getD_some]
        exact List.mem_take_iff_getElem.2 ⟨i, by omega, rfl⟩
      have h1 := bulk_part (List.mem_map.2 ⟨_, hmem, rfl⟩ : (DataW.lit (H := H) (.string (zs.getD i ByteArray.empty).data.toList)) ∈ strs (zs.take n))
      simp only [Rows.uptoBulkAll, Rows.uptoBulk, List.cons_append, Array.length_toList] at hbulk h1
      have h2 : (zs.getD i ByteArray.empty).size = (zs.getD i ByteArray.empty).data.size := rfl
      show (zs.getD i ByteArray.empty).size ≤ 140737488351232
      rw [h2]
      have h3 : (zs.getD i ByteArray.empty).data.size + 1 ≤ Rows.uptoBulkAll (strs (H := H) (zs.take n)) := h1
      omega
  have s1 : ∃ vs : Nat → Int, m ≤ 9223372036854775807 ∧ ∀ i, i < m → ∃ ad, B = some ad ∧ ad.block < W.heap.size ∧ W.cell? (ad.add i) = some (.int .i64 (vs i)) := by
    rcases open_ints Tryd.underlying22 Tryd.underlying3 (show Tryd.prog.cellsOf 3 = 1 by kernel_rfl) hf2 with ⟨hcs, hx⟩ | ⟨a, len', cap', zs, hcs, _, hl, hm, hz, hx, hcell, hwz⟩
    · simp [Value.cells] at hcs
      obtain ⟨rfl, rfl, rfl⟩ := hcs
      exact ⟨fun _ => 0, by omega, fun i hi => by omega⟩
    · simp [Value.cells] at hcs
      obtain ⟨rfl, rfl, rfl⟩ := hcs
      simp only [if_true] at hz
      exact ⟨fun i => zs.getD i 0, Nat.le_trans hl hm, fun i hi => ⟨a, rfl, cell_lt (hcell i (by omega)), hcell i (by omega)⟩⟩
  obtain ⟨ss, hn, hss⟩ := s0
  obtain ⟨vs, hm, hvs⟩ := s1
  have walk : Calls Tryd.prog 5 #[.slice A n c, .slice B m c'] W fun e w' => e = .returned (.bool true) ∧ Old W w' :=
    keeps_law W A B n c m c' ss vs hss hvs hn hm
  refine walk.mono fun e W' ⟨he, hO⟩ => ?_
  subst he
  exact ⟨_, rfl, law_post (by kernel_rfl) rfl (by
    rw [show Tryd.f5.params = #[39, 22] from Tryd.params5]
    intro t ht
    simp at ht
    rcases ht with rfl | rfl
    · exact ⟨by kernel_rfl, of_decide_eq_true (by kernel_rfl)⟩
    · exact ⟨by kernel_rfl, of_decide_eq_true (by kernel_rfl)⟩) hW' rfl hO⟩

theorem laid_met (os : Os) : laidMet Tryd.prog Rows.heapKeepsUptoRow.laid ((laidWorld os).forCall (fun _ _ => 0) ⟨#[], #[.slice none 0 0, .slice none 0 0], []⟩).memory :=
  laidMet_of_run' 8 (by kernel_rfl) (by kernel_rfl)
theorem reads (os : Os) {H : Type} (enc : TypeId × Value → H) : ∃ places, DataW.whole enc Tryd.prog ((laidWorld os).forCall (fun _ _ => 0) ⟨#[], #[.slice none 0 0, .slice none 0 0], []⟩).memory Tryd.f5.params.toList Rows.heapKeepsSpec.vars false #[Value.slice none 0 0, .slice none 0 0].toList 8 = some ([.nil, .nil], [], places) :=
  ⟨[], by kernel_rfl⟩

set_option maxRecDepth 100000 in
theorem lifted (os : Os) (started : os.Started) (H : Type) (enc : TypeId × Value → H) (F : Stop.Interp) :
    ReturnsInHanded {} Tryd.checked os 5 .any ((Rows.OpenSpec.upto Rows.heapKeepsSpec).preRow enc Tryd.prog Tryd.f5 Rows.heapKeepsUptoRow.domain false Rows.heapKeepsUptoRow.laid) (((Rows.OpenSpec.upto Rows.heapKeepsSpec).at F).post enc Tryd.prog Tryd.f5 false true false false) := by
  obtain ⟨places, hx⟩ := reads os enc
  refine returnsInHanded_of_row (C := Tryd.checked) (s := Rows.OpenSpec.upto Rows.heapKeepsSpec) ownKnobNone started (by kernel_rfl) Tryd.func5
    (witness_row_at (enc := enc) (C := Tryd.checked) false (laidWorld os) #[.slice none 0 0, .slice none 0 0] rfl (by kernel_rfl) (by kernel_rfl) (by kernel_rfl)
      (OpenSpec.preRow_of_cond 8 hx (by kernel_rfl) (fun k hk => by cases hk; kernel_rfl) (by kernel_rfl) (laid_met os))) ?_
  intro W base args ds gs before hval hW _ hcond _ hL _ _
  exact contract H enc W base args ds gs before hval (by simpa [Rows.uptoSmall] using hcond _ rfl) hW

theorem said : Rows.HeapKeepsUptoSaid :=
  OpenClaim.holds_of_cond 5 Tryd.f5 rfl rfl rfl rfl rfl rfl rfl ⟨rfl, rfl, rfl, rfl, rfl⟩ rfl rfl rfl rfl rfl (by kernel_rfl) Tryd.func5 (by kernel_rfl)
    (of_decide_eq_true (by kernel_rfl)) (by unfold Func.isWrapper; first | (rw [if_pos (by decide +kernel)]; kernel_rfl) | (rw [if_neg (by decide +kernel)]; exact ⟨rfl, rfl⟩))
    (fun os started H enc _ F => by rw [OpenClaim.pre_eq_preRow]; exact lifted os started H enc F)

theorem plain (f : FuncId) (fn' : Func) (hf : Tryd.pinned.checked.prog.funcNamed "shuck/shucklaw15.HeapKeeps" = some f) (hfn : Tryd.pinned.checked.prog.funcs[f]? = some fn') :
    true = Tryd.pinned.checked.prog.looks [] ∧ ∀ (j : Nat) t, fn'.params[j]? = some t → Tryd.pinned.checked.prog.wantsStandIn t = false := by
  obtain rfl : f = 5 := Option.some.inj ((show Tryd.prog.funcNamed "shuck/shucklaw15.HeapKeeps" = some 5 by kernel_rfl).symm.trans hf) |>.symm
  obtain rfl : fn' = Tryd.f5 := (Option.some.inj (Tryd.func5.symm.trans hfn)).symm
  refine ⟨by kernel_rfl, fun j t ht => ?_⟩
  rw [show Tryd.f5.params = #[39, 22] from Tryd.params5] at ht
  have hm : t = 39 ∨ t = 22 := by simpa using Array.mem_of_getElem? ht
  rcases hm with rfl | rfl
  · exact (show Tryd.prog.wantsStandIn 39 = false by kernel_rfl)
  · exact (show Tryd.prog.wantsStandIn 22 = false by kernel_rfl)

theorem card : Rows.HeapKeepsUptoCardSaid :=
  Claim7.holds_tied_plain_at .later [] _ _ _ _ said (fun _ h => by cases h) (by kernel_rfl) (fun _ h => by cases h) heapKeepsUpto_row_tie rfl ⟨rfl, rfl⟩ (by kernel_rfl) rfl plain (by kernel_rfl)
#print axioms card
end Go.Proofs.YtlimgecmolhdhaaDoor.heapKeeps
