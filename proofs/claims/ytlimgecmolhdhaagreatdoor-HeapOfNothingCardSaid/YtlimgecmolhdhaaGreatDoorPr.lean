/- The program's At of a text with a number. -/
import Derived.Test.YtlimgecmolhdhaaGreatDoorPl
import Derived.Test.YtlimgecmolhdhaaGreatDoorRc
set_option linter.unusedVariables false
set_option linter.unusedSimpArgs false
namespace Go.Proofs.YtlimgecmolhdhaaGreatDoor
open Go.RowKit
attribute [local go_sem] Oper.semAt_some

theorem AtW.keep {W V V' : World} {k n k2 n2 : Int} {s s2 : ByteArray} {F : Nat → Prop} (h : AtW W V k n s k2 n2 s2) (hf : Fr F V V') (hF : ∀ b, F b → W.heap.size + 1 + 1 + 1 + 1 < b) : AtW W V' k n s k2 n2 s2 :=
  ⟨h.old.trans hf (fun i hi e => by have := hF i e; omega), hf.at h.v (fun e => by have := hF _ e; omega), hf.at h.i (fun e => by have := hF _ e; omega), hf.at h.r0 (fun e => by have := hF _ e; omega), hf.at h.r1 (fun e => by have := hF _ e; omega), hf.at h.r2 (fun e => by have := hF _ e; omega)⟩

theorem AtW.five {W V : World} {k n k2 n2 : Int} {s s2 : ByteArray} (h : AtW W V k n s k2 n2 s2) (a b : Int) (c t : ByteArray) (f : Int) :
    Old W (((((V.setCell ⟨W.heap.size + 1 + 1, 0, none⟩ (.int .i64 a)).setCell ⟨W.heap.size + 1 + 1, 1, none⟩ (.int .i64 b)).setCell ⟨W.heap.size + 1 + 1, 2, none⟩ (.string c)).setCell ⟨W.heap.size + 1 + 1 + 1, 0, none⟩ (.string t)).setCell ⟨W.heap.size + 1 + 1 + 1 + 1, 0, none⟩ (.int .i64 f)) ∧
    (((((V.setCell ⟨W.heap.size + 1 + 1, 0, none⟩ (.int .i64 a)).setCell ⟨W.heap.size + 1 + 1, 1, none⟩ (.int .i64 b)).setCell ⟨W.heap.size + 1 + 1, 2, none⟩ (.string c)).setCell ⟨W.heap.size + 1 + 1 + 1, 0, none⟩ (.string t)).setCell ⟨W.heap.size + 1 + 1 + 1 + 1, 0, none⟩ (.int .i64 f)).heap[W.heap.size + 1 + 1]? = some (.cells #[.int .i64 a, .int .i64 b, .string c] 34 (0, 0)) ∧
    (((((V.setCell ⟨W.heap.size + 1 + 1, 0, none⟩ (.int .i64 a)).setCell ⟨W.heap.size + 1 + 1, 1, none⟩ (.int .i64 b)).setCell ⟨W.heap.size + 1 + 1, 2, none⟩ (.string c)).setCell ⟨W.heap.size + 1 + 1 + 1, 0, none⟩ (.string t)).setCell ⟨W.heap.size + 1 + 1 + 1 + 1, 0, none⟩ (.int .i64 f)).heap[W.heap.size + 1 + 1 + 1]? = some (.cells #[.string t] 9 (0, 0)) ∧
    (((((V.setCell ⟨W.heap.size + 1 + 1, 0, none⟩ (.int .i64 a)).setCell ⟨W.heap.size + 1 + 1, 1, none⟩ (.int .i64 b)).setCell ⟨W.heap.size + 1 + 1, 2, none⟩ (.string c)).setCell ⟨W.heap.size + 1 + 1 + 1, 0, none⟩ (.string t)).setCell ⟨W.heap.size + 1 + 1 + 1 + 1, 0, none⟩ (.int .i64 f)).heap[W.heap.size + 1 + 1 + 1 + 1]? = some (.cells #[.int .i64 f] 3 (0, 0)) ∧
    (∀ D o, V.heap[D]? = some o → W.heap.size + 1 + 1 + 1 + 1 < D → (((((V.setCell ⟨W.heap.size + 1 + 1, 0, none⟩ (.int .i64 a)).setCell ⟨W.heap.size + 1 + 1, 1, none⟩ (.int .i64 b)).setCell ⟨W.heap.size + 1 + 1, 2, none⟩ (.string c)).setCell ⟨W.heap.size + 1 + 1 + 1, 0, none⟩ (.string t)).setCell ⟨W.heap.size + 1 + 1 + 1 + 1, 0, none⟩ (.int .i64 f)).heap[D]? = some o) := by
  refine ⟨((((h.old.setCell (Or.inl (by dsimp only; omega)) _).setCell (Or.inl (by dsimp only; omega)) _).setCell (Or.inl (by dsimp only; omega)) _).setCell (Or.inl (by dsimp only; omega)) _).setCell (Or.inl (by dsimp only; omega)) _, ?_, ?_, ?_, fun D o hD hlt => heapSet (heapSet (heapSet (heapSet (heapSet hD _ (by dsimp only; omega) _) _ (by dsimp only; omega) _) _ (by dsimp only; omega) _) _ (by dsimp only; omega) _) _ (by dsimp only; omega) _⟩
  · have h0 := setOf (setOf (setOf h.r0 0 (.int .i64 a)) 1 (.int .i64 b)) 2 (.string c)
    exact heapSet (heapSet (by simpa using h0) _ (by dsimp only; omega) _) _ (by dsimp only; omega) _
  · exact heapSet (by simpa using setOf (heapSet (heapSet (heapSet h.r1 ⟨W.heap.size + 1 + 1, 0, none⟩ (by dsimp only; omega) (.int .i64 a)) ⟨W.heap.size + 1 + 1, 1, none⟩ (by dsimp only; omega) (.int .i64 b)) ⟨W.heap.size + 1 + 1, 2, none⟩ (by dsimp only; omega) (.string c)) 0 (.string t)) _ (by dsimp only; omega) _
  · simpa using setOf (heapSet (heapSet (heapSet (heapSet h.r2 ⟨W.heap.size + 1 + 1, 0, none⟩ (by dsimp only; omega) (.int .i64 a)) ⟨W.heap.size + 1 + 1, 1, none⟩ (by dsimp only; omega) (.int .i64 b)) ⟨W.heap.size + 1 + 1, 2, none⟩ (by dsimp only; omega) (.string c)) ⟨W.heap.size + 1 + 1 + 1, 0, none⟩ (by dsimp only; omega) (.string t)) 0 (.int .i64 f)

/-- The blocks that a round may turn. -/
def RG (W : World) (N : Nat) (b : Nat) : Prop := b = N ∨ b = W.heap.size + 1 + 1 ∨ b = W.heap.size + 1 + 1 + 1 ∨ b = W.heap.size + 1 + 1 + 1 + 1
/-- Ahead of round k: none of the runes so far was the one. -/
def RI (W : World) (yn : Int) (ys : ByteArray) (zn : Int) (zs : ByteArray) (N k : Nat) (G : Nat → Prop) (V : World) : Prop :=
  G = RG W N ∧ AtW W V 4 yn ys 3 zn zs ∧ V.heap[N]? = some (.cells #[.int .i64 k] 3 (0, 0)) ∧ W.heap.size + 1 + 1 + 1 + 1 < N ∧ ∀ j : Nat, j < k → zn ≠ j
/-- The rune has been found. -/
structure RX (W : World) (ys : ByteArray) (zn : Int) (N : Nat) (c : Code) (G : Nat → Prop) (V : World) : Prop where
  c : c = .ret
  g : G = RG W N
  old : Old W V
  n : W.heap.size + 1 + 1 + 1 + 1 < N
  lt : N < V.heap.size
  q : ∃ q, runeAt ys zn = some q ∧ V.heap[W.heap.size + 1 + 1]? = some (.cells #[.int .i64 4, .int .i64 0, .string q] 34 (0, 0))
  r1 : V.heap[W.heap.size + 1 + 1 + 1]? = some (.cells #[.string ⟨#[]⟩] 9 (0, 0))
  r2 : V.heap[W.heap.size + 1 + 1 + 1 + 1]? = some (.cells #[.int .i64 0] 3 (0, 0))
theorem RI.lt {W V : World} {yn : Int} {ys : ByteArray} {zn : Int} {zs : ByteArray} {N k : Nat} {G : Nat → Prop} (h : RI W yn ys zn zs N k G V) : ∀ b, G b → b < V.heap.size := by
  obtain ⟨rfl, h1, h2, h3, _⟩ := h
  rintro b (rfl | rfl | rfl | rfl)
  · exact ltOf h2
  · exact ltOf h1.r0
  · exact ltOf h1.r1
  · exact ltOf h1.r2
theorem RX.ltG {W V : World} {ys : ByteArray} {zn : Int} {N : Nat} {c : Code} {G : Nat → Prop} (h : RX W ys zn N c G V) : ∀ b, G b → b < V.heap.size := by
  have h1 := h.lt
  have h2 := h.n
  intro b hb
  rw [h.g] at hb
  rcases hb with rfl | rfl | rfl | rfl <;> omega
theorem RI.keep {W V V' : World} {yn : Int} {ys : ByteArray} {zn : Int} {zs : ByteArray} {N k n : Nat} {G : Nat → Prop} (h : RI W yn ys zn zs N k G V) (hf : Fr (fun b => n ≤ b ∧ ¬ G b) V V') (hn : W.heap.size + 1 + 1 + 1 + 1 < n) : RI W yn ys zn zs N k G V' := by
  obtain ⟨rfl, h1, h2, h3, h4⟩ := h
  exact ⟨rfl, h1.keep hf (fun b e => by omega), hf.at h2 (fun e => e.2 (Or.inl rfl)), h3, h4⟩
theorem RX.keep {W V V' : World} {ys : ByteArray} {zn : Int} {N n : Nat} {c : Code} {G : Nat → Prop} (h : RX W ys zn N c G V) (hf : Fr (fun b => n ≤ b ∧ ¬ G b) V V') (hn : W.heap.size + 1 + 1 + 1 + 1 < n) : RX W ys zn N c G V' := by
  obtain ⟨q, hq, hr⟩ := h.q
  exact ⟨h.c, h.g, h.old.trans hf (fun i hi e => by omega), h.n, Nat.lt_of_lt_of_le h.lt hf.size, ⟨q, hq, hf.at hr (fun e => by omega)⟩, hf.at h.r1 (fun e => by omega), hf.at h.r2 (fun e => by omega)⟩

theorem runeAt_at (s : ByteArray) (k : Nat) (hk : k < (rowsP 0 s.data.toList).length) : runeAt s k = some (Utf8.encode (rowsP 0 s.data.toList)[k].2.1) := by
  unfold runeAt
  rw [if_pos (by omega), Int.toNat_natCast, List.getElem?_eq_getElem hk]
  rfl
theorem runeAt_none (s : ByteArray) (n : Int) (h : ∀ j : Nat, j < (rowsP 0 s.data.toList).length → n ≠ j) : runeAt s n = none := by
  unfold runeAt
  split
  · rename_i h0
    rw [List.getElem?_eq_none]
    · rfl
    · rcases Nat.lt_or_ge n.toNat (rowsP 0 s.data.toList).length with h1 | h1
      · exact absurd (Int.toNat_of_nonneg h0).symm (h _ h1)
      · exact h1
  · rfl
def runeV (s : ByteArray) (n : Int) : Value := match runeAt s n with
  | some q => .agg #[.int .i64 4, .int .i64 0, .string q]
  | none => .agg #[.int .i64 0, .int .i64 0, .string ⟨#[]⟩]

set_option maxRecDepth 100000 in
set_option maxHeartbeats 2000000 in
theorem pat_rune (w : World) (h : Value) (xk xn : Int) (xs : ByteArray) (yn : Int) (ys : ByteArray) (ik in_ : Int) (is_ : ByteArray) (zn : Int) (zs : ByteArray) (hys : ys.size ≤ 1000000)
    (hP : Says w nowhere anyW 35 #[h, .agg #[.int .i64 xk, .int .i64 xn, .string xs]] (.agg #[.int .i64 4, .int .i64 yn, .string ys]))
    (hI : Says w nowhere anyW 35 #[h, .agg #[.int .i64 ik, .int .i64 in_, .string is_]] (.agg #[.int .i64 3, .int .i64 zn, .string zs]))
    (hA : Says w nowhere anyW 42 #[h, .agg #[.int .i64 4, .int .i64 yn, .string ys]] (.pointer none)) :
    Says w nowhere anyW 28 #[h, .agg #[.int .i64 xk, .int .i64 xn, .string xs], .agg #[.int .i64 ik, .int .i64 in_, .string is_]] (.tuple #[runeV ys zn, .string ⟨#[]⟩, .int .i64 0]) := by
  intro W hW _
  have HW := Lib.hid hW; clear hW
  have hP' : ∀ W', Old W W' → Calls Tryz.prog 35 #[h, .agg #[.int .i64 xk, .int .i64 xn, .string xs]] W' fun e w' => e = .returned (.agg #[.int .i64 4, .int .i64 yn, .string ys]) ∧ Old W' w' := fun W' h' => hP W' (HW.out.old h') trivial
  have HP := Lib.hid hP'; clear hP hP'
  have hI' : ∀ W', Old W W' → Calls Tryz.prog 35 #[h, .agg #[.int .i64 ik, .int .i64 in_, .string is_]] W' fun e w' => e = .returned (.agg #[.int .i64 3, .int .i64 zn, .string zs]) ∧ Old W' w' := fun W' h' => hI W' (HW.out.old h') trivial
  have HI := Lib.hid hI'; clear hI hI'
  have hA' : ∀ W', Old W W' → Calls Tryz.prog 42 #[h, .agg #[.int .i64 4, .int .i64 yn, .string ys]] W' fun e w' => e = .returned (.pointer none) ∧ Old W' w' := fun W' h' => hA W' (HW.out.old h') trivial
  have HA := Lib.hid hA'; clear hA hA'
  have kc := fun (w : World) (s : ByteArray) => Lib.run_convert_string_bytes (P := Tryz.prog) w 9 70 5 s Tryz.underlying9 Tryz.underlying70 Tryz.underlying5
  refine callsIn_wide.1 (callsIn_of_wp_marks (n := 3) Tryz.func28 rfl trivial ?_ rfl)
  rw [wpIn_wide]
  simp only [Tryz.ntmps28, List.size_toArray, List.length_cons, List.length_nil, Nat.reduceAdd, Nat.reduceSub, Array.replicate_succ, Array.replicate_zero, List.push_toArray, List.append_toArray, List.nil_append, List.cons_append]
  go_upto_region 1 with fail
  refine wp_gen (R := fun V => AtW W V xk xn xs ik in_ is_) (AtW.start W _ _ _ _ _ _) ?_
  intro W0 hA0
  have HA0 := Lib.hid hA0; clear hA0
  go_cut [] from 13 to 19 (fun wx => AtW W wx 4 yn ys 3 zn zs)
  case first =>
    obtain ⟨p0, p1, p2, e0, e1, e2⟩ := cells3 HA0.out.v
    obtain ⟨r0, r1, r2, g0, g1, g2⟩ := cells3 HA0.out.i
    have hl4 := ltOf HA0.out.v
    have hl5 := ltOf HA0.out.i
    refine wp_region_noPanic ?_
    go_region_with (go_at_call 35; first | ((with_reducible refine (HP.out _ ?_).mono ?_); (exact HA0.out.old.drew); rintro e wA ⟨rfl, hOA⟩; have HAA := Lib.hid (HA0.out.later ((Fr.refl _ _).drew.old hOA)); obtain ⟨pA0, pA1, pA2, eA0, eA1, eA2⟩ := cells3 HAA.out.v; obtain ⟨rA0, rA1, rA2, gA0, gA1, gA2⟩ := cells3 HAA.out.i) | ((with_reducible refine (HI.out _ ?_).mono ?_); (exact HAA.out.old); rintro e wB ⟨rfl, hOB⟩; have HAB := Lib.hid (HAA.out.later hOB); obtain ⟨pB0, pB1, pB2, eB0, eB1, eB2⟩ := cells3 HAB.out.v; obtain ⟨rB0, rB1, rB2, gB0, gB1, gB2⟩ := cells3 HAB.out.i))
    all_goals (refine NoPanic.normal ?_; go_wp2_with fail; go_meet; exact HAB.out.six _ _ _ _ _ _)
  case rest =>
    have HC := Lib.hid hcut; clear hcut HA0
    obtain ⟨p0, p1, p2, e0, e1, e2⟩ := cells3 HC.out.v
    obtain ⟨r0, r1, r2, g0, g1, g2⟩ := cells3 HC.out.i
    go_upto_region 10 with fail
    refine wp_gen (R := fun V' => AtW W V' 4 yn ys 3 zn zs ∧ V'.heap[wc.heap.size]? = some (.cells #[.int .i64 0] 3 (0, 0)) ∧ W.heap.size + 1 + 1 + 1 + 1 < wc.heap.size) ⟨HC.out.later ((Fr.refl _ _).alloc _), heapNew wc _, ltOf HC.out.r2⟩ ?_
    intro V' hV'
    clear p0 p1 p2 e0 e1 e2 r0 r1 r2 g0 g1 g2 HC
    generalize wc.heap.size = N at *
    obtain ⟨hB, hN, hNl⟩ := hV'
    obtain ⟨p0, p1, p2, -⟩ := cells3 hB.v
    have hl := ltOf hB.v
    have HB := Lib.hid hB; clear hB
    have HN := Lib.hid hN; clear hN
    go_wp2_with (go_at_call 46; refine (runes_str V' _ ys rfl).mono ?_; rintro e w3 ⟨rfl, rfl⟩)
    have hO3 : Old V' ((Lib.bytesWorld V' 5 ys).alloc (.cells #[.string ys] 9)) := (Old.bytesWorld V' _ ys).alloc _
    have hbox : ((Lib.bytesWorld V' 5 ys).alloc (.cells #[.string ys] 9)).heap[V'.heap.size + 1]? = some (.cells #[.string ys] 9 (0, 0)) := by
      have := heapNew (Lib.bytesWorld V' 5 ys) (.cells #[.string ys] 9)
      rw [Lib.bytesWorld_size] at this
      exact this
    have hNV := ltOf HN.out
    have hsz : ((Lib.bytesWorld V' 5 ys).alloc (.cells #[.string ys] 9)).heap.size = V'.heap.size + 1 + 1 := by rw [World.size_alloc, Lib.bytesWorld_size]
    have hI0 : RI W yn ys zn zs N 0 (RG W N) ((Lib.bytesWorld V' 5 ys).alloc (.cells #[.string ys] 9)) := ⟨rfl, HB.out.later hO3, hO3.at HN.out (fun f => f), hNl, fun j hj => by omega⟩
    generalize (Lib.bytesWorld V' 5 ys).alloc (.cells #[.string ys] 9) = w3 at *
    clear p0 p1 p2 hl HB HN
    refine wp_range (gf := 63) rfl (enters_of Tryz.func63 (by kernel_rfl) rfl)
      (runes_iter w3 (V'.heap.size + 1) ys (by omega) hbox)
      (fun x hx => by simp only [runesV, List.mem_map] at hx; obtain ⟨a, _, rfl⟩ := hx; rfl) (fun b hb => by omega) (RG W N) (fun b hb hg => by unfold RG at hg; omega)
      (RI W yn ys zn zs N) (RX W ys zn N)
      (fun _ _ _ h => h.lt) (fun _ _ _ h => h.ltG) (fun _ _ _ _ h hf => h.keep hf (by omega)) (fun _ _ _ _ h hf => h.keep hf (by omega)) hI0 ?round ?done ?stop
    case round =>
      intro n' lp i G V3 hi hI hlp1 hlp2 hlp3
      rw [runesV_length] at hi
      have hlen := rowsP_le _ ys.data.toList 0 (Nat.le_refl _)
      have hl2 : ys.data.toList.length = ys.size := by rw [Array.length_toList]; rfl
      have hib : i < 1000000 := by omega
      clear hlen hl2
      rw [runesV_get _ i hi, zip2]
      have hra := Lib.hid (runeAt_at ys i hi)
      generalize (rowsP 0 ys.data.toList)[i].2.1 = rn at *
      generalize (rowsP 0 ys.data.toList)[i].1 = ri at *
      gi_wp2
      refine ⟨Fr.refl _ _, ?_⟩
      intro W2 hF2 hI2
      obtain ⟨hG, hA2, hN2, -, hne⟩ := hI2
      have n0 := cellOf hN2 0 _ rfl
      have n1 := freeOf hN2 0
      obtain ⟨r0, r1, r2, -⟩ := cells3 hA2.i
      obtain ⟨s0, s1, s2, t0, t1, t2⟩ := cells3 hA2.r0
      have u0 := cellOf hA2.r1 0 _ rfl
      have u1 := freeOf hA2.r1 0
      have v0 := cellOf hA2.r2 0 _ rfl
      have v1 := freeOf hA2.r2 0
      have HA2 := Lib.hid hA2; clear hA2
      have HN2 := Lib.hid hN2; clear hN2
      have HNE := Lib.hid hne; clear hne
      by_cases e : zn = i
      · subst e
        gi_wp2
        have h0 := setOf (setOf (setOf HA2.out.r0 0 (.int .i64 4)) 1 (.int .i64 0)) 2 (.string (Utf8.encode rn))
        refine ⟨⟨RG W N, ⟨rfl, rfl, ((((HA2.out.old.setCell (Or.inl (by dsimp only; omega)) _).setCell (Or.inl (by dsimp only; omega)) _).setCell (Or.inl (by dsimp only; omega)) _).setCell (Or.inl (by dsimp only; omega)) _).setCell (Or.inl (by dsimp only; omega)) _, hNl, by simp; exact ltOf HN2.out, ⟨_, hra.out, ?_⟩, ?_, ?_⟩, fun b hb => Or.inl (by rw [hG]; exact hb)⟩, ?_⟩
        · exact heapSet (heapSet (by simpa using h0) _ (by dsimp only; omega) _) _ (by dsimp only; omega) _
        · exact heapSet (by simpa using setOf (heapSet (heapSet (heapSet HA2.out.r1 ⟨W.heap.size + 1 + 1, 0, none⟩ (by dsimp only; omega) (.int .i64 4)) ⟨W.heap.size + 1 + 1, 1, none⟩ (by dsimp only; omega) (.int .i64 0)) ⟨W.heap.size + 1 + 1, 2, none⟩ (by dsimp only; omega) (.string (Utf8.encode rn))) 0 (.string ⟨#[]⟩)) _ (by dsimp only; omega) _
        · simpa using setOf (heapSet (heapSet (heapSet (heapSet HA2.out.r2 ⟨W.heap.size + 1 + 1, 0, none⟩ (by dsimp only; omega) (.int .i64 4)) ⟨W.heap.size + 1 + 1, 1, none⟩ (by dsimp only; omega) (.int .i64 0)) ⟨W.heap.size + 1 + 1, 2, none⟩ (by dsimp only; omega) (.string (Utf8.encode rn))) ⟨W.heap.size + 1 + 1 + 1, 0, none⟩ (by dsimp only; omega) (.string ⟨#[]⟩)) 0 (.int .i64 0)
        · refine ((((Fr.setCell ?_ (Or.inr ?_) _).setCell (Or.inr ?_) _).setCell (Or.inr ?_) _).setCell (Or.inr ?_) _).setCell (Or.inr ?_) _
          · exact Fr.refl _ _
          all_goals (left; rw [hG]; unfold RG; dsimp only; omega)
      · have e' : ((i : Int) == zn) = false := by simpa using fun h => e h.symm
        gi_wp2
        refine ⟨⟨RG W N, ⟨rfl, HA2.out.keep (Fr.setCell (Fr.refl (fun b => b = N) W2) (Or.inr rfl) _) (fun b hb => by omega), setOf HN2.out 0 _, hNl, ?_⟩, fun b hb => Or.inl (by rw [hG]; exact hb)⟩, Fr.setCell (Fr.refl _ _) (Or.inr (Or.inl (by rw [hG]; exact Or.inl rfl))) _⟩
        intro j hj h
        rcases Nat.lt_or_ge j i with h1 | h1
        · exact HNE.out j h1 h
        · exact e (by rw [h]; congr 1; omega)
    case done =>
      intro D G V3 hI hD1 hD2 hD3
      rw [runesV_length] at hI
      obtain ⟨rfl, hA, hN3, -, hne⟩ := hI
      have hrv : runeV ys zn = .agg #[.int .i64 0, .int .i64 0, .string ⟨#[]⟩] := by unfold runeV; rw [runeAt_none ys zn hne]
      have HRV := Lib.hid hrv; clear hrv
      obtain ⟨p0, p1, p2, -⟩ := cells3 hA.v
      have HA3 := Lib.hid hA; clear hA
      have HD3 := Lib.hid hD3; clear hD3
      rename_i K hK
      refine hK _ _ ?_
      dsimp only
      go_wp2_with (go_at_call 42; ((with_reducible refine (HA.out _ ?_).mono ?_)); (exact HA3.out.old); rintro e w4 ⟨rfl, hO4⟩; have HC4 := Lib.hid (HA3.out.later hO4); clear p0 p1 p2; obtain ⟨r0, r1, r2, -⟩ := cells3 HC4.out.i)
      refine wp_region_noPanic ?_
      go_quiet (fail)
      refine NoPanic.normal ?_
      clear r0 r1 r2
      have HE := Lib.hid (HC4.out.later ((Fr.refl _ _).drewN nq))
      have HD5 := Lib.hid (heapDrewN (hO4.at HD3.out (fun f => f)) nq)
      generalize w4.drewN nq = wE at *
      obtain ⟨s0, s1, s2, t0, t1, t2⟩ := cells3 HE.out.r0
      have u0 := cellOf HE.out.r1 0 _ rfl
      have u1 := freeOf HE.out.r1 0
      have v0 := cellOf HE.out.r2 0 _ rfl
      have v1 := freeOf HE.out.r2 0
      have l6 := ltOf HE.out.r0
      have l7 := ltOf HE.out.r1
      have l8 := ltOf HE.out.r2
      go_wp2_with fail
      obtain ⟨hF5, b0, b1, b2, hDk⟩ := HE.out.five 0 0 ⟨#[]⟩ ⟨#[]⟩ 0
      have hD6 := hDk D _ HD5.out (by omega)
      clear hDk
      generalize ((((wE.setCell ⟨W.heap.size + 1 + 1, 0, none⟩ (.int .i64 0)).setCell ⟨W.heap.size + 1 + 1, 1, none⟩ (.int .i64 0)).setCell ⟨W.heap.size + 1 + 1, 2, none⟩ (.string ⟨#[]⟩)).setCell ⟨W.heap.size + 1 + 1 + 1, 0, none⟩ (.string ⟨#[]⟩)).setCell ⟨W.heap.size + 1 + 1 + 1 + 1, 0, none⟩ (.int .i64 0) = V6 at *
      clear s0 s1 s2 t0 t1 t2 u0 u1 v0 v1 l6 l7 l8
      obtain ⟨s0, s1, s2, -⟩ := cells3 ((World.putObj_heap_other (o := .deferred none) (show W.heap.size + 1 + 1 ≠ D by omega)).trans b0)
      have u0 := cellOf ((World.putObj_heap_other (o := .deferred none) (show W.heap.size + 1 + 1 + 1 ≠ D by omega)).trans b1) 0 _ rfl
      have v0 := cellOf ((World.putObj_heap_other (o := .deferred none) (show W.heap.size + 1 + 1 + 1 + 1 ≠ D by omega)).trans b2) 0 _ rfl
      refine retMark (v := .tuple #[.agg #[.int .i64 0, .int .i64 0, .string ⟨#[]⟩], .string ⟨#[]⟩, .int .i64 0]) rfl hD6 (by simp [results, Tryz.results28, go_sem, s0, s1, s2, u0, v0]) ⟨by rw [HRV.out], ?_⟩
      exact hF5.trans (Fr.putObj V6 D _) (fun i hi e => by omega)
    case stop =>
      intro D c G V3 hX hD1 hD2 hD3
      obtain ⟨rfl, rfl, hold, -, hlt, ⟨q, hq, h0⟩, h1, h2⟩ := hX
      dsimp only
      have hrv : runeV ys zn = .agg #[.int .i64 4, .int .i64 0, .string q] := by unfold runeV; rw [hq]
      have HRV := Lib.hid hrv; clear hrv
      go_wp2_with fail
      obtain ⟨s0, s1, s2, -⟩ := cells3 ((World.putObj_heap_other (o := .deferred none) (show W.heap.size + 1 + 1 ≠ D by omega)).trans h0)
      have u0 := cellOf ((World.putObj_heap_other (o := .deferred none) (show W.heap.size + 1 + 1 + 1 ≠ D by omega)).trans h1) 0 _ rfl
      have v0 := cellOf ((World.putObj_heap_other (o := .deferred none) (show W.heap.size + 1 + 1 + 1 + 1 ≠ D by omega)).trans h2) 0 _ rfl
      refine retMark (v := .tuple #[.agg #[.int .i64 4, .int .i64 0, .string q], .string ⟨#[]⟩, .int .i64 0]) rfl hD3 (by simp [results, Tryz.results28, go_sem, s0, s1, s2, u0, v0]) ⟨by rw [HRV.out], ?_⟩
      exact hold.trans (Fr.putObj V3 D _) (fun i hi e => by omega)
end Go.Proofs.YtlimgecmolhdhaaGreatDoor
