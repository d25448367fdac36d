/- The program's Get of a text's length. -/
import Derived.Test.YtlimgecmolhdhaaGreatDoorPg
import Derived.Test.YtlimgecmolhdhaaGreatDoorVo
set_option linter.unusedVariables false
set_option linter.unusedSimpArgs false
namespace Go.Proofs.YtlimgecmolhdhaaGreatDoor
open Go.RowKit
attribute [local go_sem] Oper.semAt_some

theorem rowsP_le : ∀ (m : Nat) (l : List UInt8) (p : Nat), l.length ≤ m → (rowsP p l).length ≤ l.length
  | 0, l, p, h => by
    have : l = [] := List.length_eq_zero_iff.1 (by omega)
    subst this; rw [rowsP_nil]; exact Nat.le_refl _
  | m + 1, l, p, h => by
    by_cases hl : l = []
    · subst hl; rw [rowsP_nil]; exact Nat.le_refl _
    · rw [rowsP_cons p l hl]
      have h1 := decP_size l hl
      have h2 := rowsP_le m (l.drop (decP l).2.1) (p + (decP l).2.1) (by rw [List.length_drop]; omega)
      rw [List.length_drop] at h2
      simp only [List.length_cons]; omega

theorem runes_str (w : World) (g : Nat) (s : ByteArray) (hg : g = w.heap.size) :
    Calls Tryz.prog 46 #[.slice (some ⟨g, 0, none⟩) s.size (grownCap w s.size 0 5)] (Lib.bytesWorld w 5 s) fun e w' => e = .returned (.func (.func 63) #[] #[.pointer (some ⟨w.heap.size + 1, 0, none⟩)]) ∧ (Lib.bytesWorld w 5 s).alloc (.cells #[.string s] 9) = w' := by
  subst hg
  have e : s.data.toList.length = s.size := by rw [Array.length_toList]; rfl
  have := runes_any (Lib.bytesWorld w 5 s) w.heap.size (grownCap w s.size 0 5) s.data.toList (bytes_new w s)
  rw [e, Lib.bytesWorld_size] at this
  exact this

/-- Ahead of round k: so many have been counted; the variables stand. -/
def CI (W : World) (bx : List Obj) (N k : Nat) (G : Nat → Prop) (V : World) : Prop :=
  (∀ b, G b ↔ b = N) ∧ Boxes W V bx ∧ V.heap[N]? = some (.cells #[.int .i64 k] 3 (0, 0))
theorem CI.lt {W V : World} {bx : List Obj} {N k : Nat} {G : Nat → Prop} (h : CI W bx N k G V) : ∀ b, G b → b < V.heap.size := fun b hb => by rw [(h.1 b).1 hb]; exact ltOf h.2.2
theorem CI.keep {W V V' : World} {bx : List Obj} {N k n : Nat} {G : Nat → Prop} (h : CI W bx N k G V) (hf : Fr (fun b => n ≤ b ∧ ¬ G b) V V') (hn : W.heap.size + bx.length ≤ n) : CI W bx N k G V' :=
  ⟨h.1, ⟨h.2.1.old.trans hf (fun i hi e => by omega), fun i o hi => hf.at (h.2.1.get i o hi) (fun e => by have := (List.getElem?_eq_some_iff.1 hi).1; omega)⟩, hf.at h.2.2 (fun e => e.2 ((h.1 N).2 rfl))⟩

set_option maxRecDepth 100000 in
set_option maxHeartbeats 2000000 in
theorem pget_len (w : World) (h : Value) (xk xn : Int) (xs : ByteArray) (yn : Int) (ys : ByteArray) (key : ByteArray) (hkey : key = lenKey) (hys : ys.size ≤ 1000000)
    (hP : Says w nowhere anyW 35 #[h, .agg #[.int .i64 xk, .int .i64 xn, .string xs]] (.agg #[.int .i64 4, .int .i64 yn, .string ys])) :
    Says w nowhere anyW 22 #[h, .agg #[.int .i64 xk, .int .i64 xn, .string xs], .string key] (.tuple #[.agg #[.int .i64 3, .int .i64 ((rowsP 0 ys.data.toList).length : Nat), .string ⟨#[]⟩], .string ⟨#[]⟩, .int .i64 0]) := by
  intro W hW _
  have HW := Lib.hid hW; clear hW
  have hP' : ∀ W', Old W W' → Calls Tryz.prog 35 #[h, .agg #[.int .i64 xk, .int .i64 xn, .string xs]] W' fun e w' => e = .returned (.agg #[.int .i64 4, .int .i64 yn, .string ys]) ∧ Old W' w' := fun W' h' => hP W' (HW.out.old h') trivial
  have HP := Lib.hid hP'; clear hP hP'
  have hkb : (key.toList == [108, 101, 110, 103, 116, 104]) = true := str_is hkey rfl
  clear hkey
  have kc := fun (w : World) (s : ByteArray) => Lib.run_convert_string_bytes (P := Tryz.prog) w 9 70 5 s Tryz.underlying9 Tryz.underlying70 Tryz.underlying5
  refine callsIn_wide.1 (callsIn_of_wp_marks (n := 3) Tryz.func22 rfl trivial ?_ rfl)
  rw [wpIn_wide]
  simp only [Tryz.ntmps22, List.size_toArray, List.length_cons, List.length_nil, Nat.reduceAdd, Nat.reduceSub, Array.replicate_succ, Array.replicate_zero, List.push_toArray, List.append_toArray, List.nil_append, List.cons_append]
  go_upto_region 2 with ((go_at_call 35; ((with_reducible refine (HP.out _ ?_).mono ?_)); (exact ((Fr.refl _ _).alloc _).alloc _); rintro e w1 ⟨rfl, hO1⟩; have hB := (Boxes.start2 W (.cells #[.int .i64 xk, .int .i64 xn, .string xs] 34 (0, 0)) (.cells #[.int .i64 0, .int .i64 0, .string ⟨#[]⟩] 34 (0, 0))).later hO1; obtain ⟨p0, p1, p2, e0, e1, e2⟩ := cells3 hB.g0; have hl := ltOf hB.g0; have HB := Lib.hid hB; clear hB))
  refine wp_gen (R := fun V => Boxes W V [(.cells #[.int .i64 4, .int .i64 yn, .string ys] 34 (0, 0)), (.cells #[.int .i64 0, .int .i64 0, .string ⟨#[]⟩] 34 (0, 0))]) (HB.out.three0 _ _ _) ?_
  intro V hV
  clear p0 p1 p2 e0 e1 e2 hl HB
  obtain ⟨p0, p1, p2, -⟩ := cells3 hV.g0
  have hl := ltOf hV.g0
  have hl1 := ltOf hV.g1
  have HV := Lib.hid hV; clear hV
  go_upto_region 10 with fail
  refine wp_gen (R := fun V' => Boxes W V' [(.cells #[.int .i64 4, .int .i64 yn, .string ys] 34 (0, 0)), (.cells #[.int .i64 0, .int .i64 0, .string ⟨#[]⟩] 34 (0, 0))] ∧ V'.heap[V.heap.size]? = some (.cells #[.int .i64 0] 3 (0, 0)) ∧ W.heap.size + 1 < V.heap.size) ⟨HV.out.later ((Fr.refl _ _).alloc _), heapNew V _, hl1⟩ ?_
  intro V' hV'
  clear p0 p1 p2 hl hl1 HV
  generalize V.heap.size = N at *
  obtain ⟨hB, hN, hNl⟩ := hV'
  obtain ⟨p0, p1, p2, -⟩ := cells3 hB.g0
  have hl := ltOf hB.g0
  have HB := Lib.hid hB; clear hB
  have HN := Lib.hid hN; clear hN
  go_wp2_with (go_at_call 46; refine (runes_str V' _ ys rfl).mono ?_; rintro e w3 ⟨rfl, rfl⟩)
  have hO3 : Old V' ((Lib.bytesWorld V' 5 ys).alloc (.cells #[.string ys] 9)) := (Old.bytesWorld V' _ ys).alloc _
  have hbox : ((Lib.bytesWorld V' 5 ys).alloc (.cells #[.string ys] 9)).heap[V'.heap.size + 1]? = some (.cells #[.string ys] 9 (0, 0)) := by
    have := heapNew (Lib.bytesWorld V' 5 ys) (.cells #[.string ys] 9)
    rw [Lib.bytesWorld_size] at this
    exact this
  have hNV := ltOf HN.out
  have hsz : ((Lib.bytesWorld V' 5 ys).alloc (.cells #[.string ys] 9)).heap.size = V'.heap.size + 1 + 1 := by rw [World.size_alloc, Lib.bytesWorld_size]
  have hI0 : CI W [(.cells #[.int .i64 4, .int .i64 yn, .string ys] 34 (0, 0)), (.cells #[.int .i64 0, .int .i64 0, .string ⟨#[]⟩] 34 (0, 0))] N 0 (fun b => b = N) ((Lib.bytesWorld V' 5 ys).alloc (.cells #[.string ys] 9)) := ⟨fun _ => Iff.rfl, HB.out.later hO3, hO3.at HN.out (fun f => f)⟩
  generalize (Lib.bytesWorld V' 5 ys).alloc (.cells #[.string ys] 9) = w3 at *
  refine wp_range (gf := 63) rfl (enters_of Tryz.func63 (by kernel_rfl) rfl)
    (runes_iter w3 (V'.heap.size + 1) ys (by omega) hbox)
    (fun x hx => by simp only [runesV, List.mem_map] at hx; obtain ⟨a, _, rfl⟩ := hx; rfl) (fun b hb => by omega) (fun b => b = N) (fun b hb hg => by omega)
    (CI W [(.cells #[.int .i64 4, .int .i64 yn, .string ys] 34 (0, 0)), (.cells #[.int .i64 0, .int .i64 0, .string ⟨#[]⟩] 34 (0, 0))] N) (fun _ _ _ => False)
    (fun _ _ _ h => h.lt) (fun _ _ _ h => h.elim) (fun _ _ _ _ h hf => h.keep hf (by simp; omega)) (fun _ _ _ _ h _ => h.elim) hI0 ?round ?done (fun _ _ _ _ h => h.elim)
  case round =>
    intro n' lp i G V3 hi hI hlp1 hlp2 hlp3
    rw [runesV_length] at hi
    have hlen := rowsP_le _ ys.data.toList 0 (Nat.le_refl _)
    have hl2 : ys.data.toList.length = ys.size := by rw [Array.length_toList]; rfl
    have hib : i < 1000000 := by omega
    clear hlen hl2
    rw [runesV_get _ i hi, zip2]
    gi_wp2
    refine ⟨Fr.refl _ _, ?_⟩
    intro W2 hF2 hI2
    have n0 := cellOf hI2.2.2 0 _ rfl
    have n1 := freeOf hI2.2.2 0
    have HI2 := Lib.hid hI2; clear hI2
    gi_wp2
    refine ⟨⟨G, ⟨HI2.out.1, ⟨HI2.out.2.1.old.setCell (Or.inl (by dsimp only; omega)) _, fun j o hj => heapSet (HI2.out.2.1.get j o hj) _ (by have := (List.getElem?_eq_some_iff.1 hj).1; simp at this; dsimp only; omega) _⟩, ?_⟩, fun b hb => Or.inl hb⟩, ?_⟩
    · exact setOf HI2.out.2.2 0 _
    · exact Fr.setCell (Fr.refl _ _) (Or.inr (Or.inl ((HI2.out.1 N).2 rfl))) _
  case done =>
    intro D G V3 hI hD1 hD2 hD3
    rw [runesV_length] at hI
    have n0 := cellOf hI.2.2 0 _ rfl
    obtain ⟨r0, r1, r2, g0, g1, g2⟩ := cells3 hI.2.1.g1
    have hl1 := ltOf hI.2.1.g1
    have HI := Lib.hid hI; clear hI
    rename_i K hK
    refine hK _ _ ?_
    dsimp only
    go_wp2_with (go_at_call 47; refine (number_any _ _).mono ?_; rintro e w4 ⟨rfl, hO4⟩; clear r0 r1 r2 g0 g1 g2 hl1; obtain ⟨r0, r1, r2, g0, g1, g2⟩ := cells3 (HI.out.2.1.later hO4).g1; have hl1 := ltOf (HI.out.2.1.later hO4).g1)
    have hB5 := (HI.out.2.1.later hO4).three1 (.int .i64 3) (.int .i64 ((rowsP 0 ys.data.toList).length : Nat)) (.string ⟨#[]⟩)
    have hD5 := heapSet (heapSet (heapSet (hO4.at hD3 (fun f => f)) ⟨W.heap.size + 1, 0, none⟩ (by dsimp only; omega) (.int .i64 3)) ⟨W.heap.size + 1, 1, none⟩ (by dsimp only; omega) (.int .i64 ((rowsP 0 ys.data.toList).length : Nat))) ⟨W.heap.size + 1, 2, none⟩ (by dsimp only; omega) (.string ⟨#[]⟩)
    generalize ((w4.setCell ⟨W.heap.size + 1, 0, none⟩ (.int .i64 3)).setCell ⟨W.heap.size + 1, 1, none⟩ (.int .i64 ((rowsP 0 ys.data.toList).length : Nat))).setCell ⟨W.heap.size + 1, 2, none⟩ (.string ⟨#[]⟩) = V5 at *
    obtain ⟨s0, s1, s2, -⟩ := cells3 ((World.putObj_heap_other (o := .deferred none) (show W.heap.size + 1 ≠ D by omega)).trans hB5.g1)
    refine retMark (v := .tuple #[.agg #[.int .i64 3, .int .i64 ((rowsP 0 ys.data.toList).length : Nat), .string ⟨#[]⟩], .string ⟨#[]⟩, .int .i64 0]) rfl hD5 (by simp [results, Tryz.results22, go_sem, s0, s1, s2]) ⟨rfl, ?_⟩
    exact hB5.old.trans (Fr.putObj V5 D _) (fun i hi e => by omega)
end Go.Proofs.YtlimgecmolhdhaaGreatDoor
