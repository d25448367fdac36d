/- At, Len of an array. -/
import Derived.Test.YtlimgecmolhdhaaGreatDoorPu
import Derived.Deep.RegionWith
import Derived.Deep.DeepCutAuto
import Derived.Deep.RegionHeld3
set_option linter.unusedVariables false
set_option linter.unusedSimpArgs false
namespace Go.Proofs.YtlimgecmolhdhaaGreatDoor
open Go.RowKit

set_option maxRecDepth 100000 in
set_option maxHeartbeats 2000000 in
theorem len_any (w : World) (h : Value) (ref : Int) (b : Nat) (av : Value) (n : Nat) (xs : List Value)
    (hA : Says w nowhere anyW 42 #[h, .agg #[.int .i64 5, .int .i64 ref, .string ⟨#[]⟩]] (.pointer (some ⟨b, 0, none⟩)))
    (hb : w.heap[b]? = some (.cells #[av] 89 (0, 0))) (hr : w.ownsRow 0 34 3 av n xs) :
    Calls Tryz.prog 16 #[h, .int .i64 ref] w fun e w' => e = .returned (.int .i64 n) ∧ Old w w' := by
  obtain ⟨a, c, rfl⟩ : ∃ a c, av = .slice a n c := by
    rcases hr.2 with ⟨rfl, e⟩ | ⟨g, cap, _, rfl, _⟩
    · exact ⟨none, 0, by rw [e]⟩
    · exact ⟨_, _, rfl⟩
  have HB := Lib.hid hb; clear hb
  go_enter Tryz.func16, Tryz.ntmps16
  go_wp2_with (go_at_call 42; refine (hA _ (Fr.refl _ _) trivial).mono ?_; rintro e w1 ⟨rfl, hO1⟩; have c0 := cellOf (hO1.at HB.out (fun f => f)) 0 _ rfl)
  go_ret
  exact ⟨rfl, hO1⟩


theorem drewCell {W : World} {p : Addr} {u : Value} (h : W.cell? p = some u) : W.drew.cell? p = some u := h
theorem farCell {W : World} {q p : Addr} {v u : Value} (h : W.cell? p = some u) (hne : p.block ≠ q.block) : (W.setCell q v).cell? p = some u :=
  (World.cell?_setCell_far W q p v (Ne.symm hne)).trans h

theorem wp_gen {P : Program} {s : Code} {Q : Exit → Act → World → Prop} {a : Act} {w0 : World} {R : World → Prop} (h : R w0) (k : ∀ W, R W → s.wp P Q a W) : s.wp P Q a w0 := k w0 h

/-- In At: both values stand in blocks of their own; three blocks for the results. -/
structure AtW (w W : World) (k n : Int) (s : ByteArray) (k2 n2 : Int) (s2 : ByteArray) : Prop where
  old : Old w W
  v : W.heap[w.heap.size]? = some (.cells #[.int .i64 k, .int .i64 n, .string s] 34 (0, 0))
  i : W.heap[w.heap.size + 1]? = some (.cells #[.int .i64 k2, .int .i64 n2, .string s2] 34 (0, 0))
  r0 : W.heap[w.heap.size + 1 + 1]? = some (.cells #[.int .i64 0, .int .i64 0, .string ⟨#[]⟩] 34 (0, 0))
  r1 : W.heap[w.heap.size + 1 + 1 + 1]? = some (.cells #[.string ⟨#[]⟩] 9 (0, 0))
  r2 : W.heap[w.heap.size + 1 + 1 + 1 + 1]? = some (.cells #[.int .i64 0] 3 (0, 0))

section
variable {w W W' : World} {k n k2 n2 : Int} {s s2 : ByteArray}

theorem AtW.start (w : World) (k n : Int) (s : ByteArray) (k2 n2 : Int) (s2 : ByteArray) :
    AtW w (((((w.alloc (.cells #[.int .i64 k, .int .i64 n, .string s] 34)).alloc (.cells #[.int .i64 k2, .int .i64 n2, .string s2] 34)).alloc (.cells #[.int .i64 0, .int .i64 0, .string ⟨#[]⟩] 34)).alloc (.cells #[.string ⟨#[]⟩] 9)).alloc (.cells #[.int .i64 0] 3)) k n s k2 n2 s2 where
  old := (((((Fr.refl _ _).alloc _).alloc _).alloc _).alloc _).alloc _
  v := heapAlloc (heapAlloc (heapAlloc (heapAlloc (heapNew w _) _) _) _) _
  i := heapAlloc (heapAlloc (heapAlloc (heapNew1 w _ _) _) _) _
  r0 := heapAlloc (heapAlloc (by simpa using heapNew ((w.alloc (.cells #[.int .i64 k, .int .i64 n, .string s] 34)).alloc (.cells #[.int .i64 k2, .int .i64 n2, .string s2] 34)) (.cells #[.int .i64 0, .int .i64 0, .string ⟨#[]⟩] 34)) _) _
  r1 := heapAlloc (by simpa using heapNew (((w.alloc (.cells #[.int .i64 k, .int .i64 n, .string s] 34)).alloc (.cells #[.int .i64 k2, .int .i64 n2, .string s2] 34)).alloc (.cells #[.int .i64 0, .int .i64 0, .string ⟨#[]⟩] 34)) (.cells #[.string ⟨#[]⟩] 9)) _
  r2 := by simpa using heapNew ((((w.alloc (.cells #[.int .i64 k, .int .i64 n, .string s] 34)).alloc (.cells #[.int .i64 k2, .int .i64 n2, .string s2] 34)).alloc (.cells #[.int .i64 0, .int .i64 0, .string ⟨#[]⟩] 34)).alloc (.cells #[.string ⟨#[]⟩] 9)) (.cells #[.int .i64 0] 3)

theorem AtW.later (h : AtW w W k n s k2 n2 s2) (hO : Old W W') : AtW w W' k n s k2 n2 s2 :=
  ⟨h.old.old hO, hO.at h.v (fun f => f), hO.at h.i (fun f => f), hO.at h.r0 (fun f => f), hO.at h.r1 (fun f => f), hO.at h.r2 (fun f => f)⟩

theorem AtW.six (h : AtW w W k n s k2 n2 s2) (a b : Int) (c : ByteArray) (a2 b2 : Int) (c2 : ByteArray) :
    AtW w ((((((W.setCell ⟨w.heap.size, 0, none⟩ (.int .i64 a)).setCell ⟨w.heap.size, 1, none⟩ (.int .i64 b)).setCell ⟨w.heap.size, 2, none⟩ (.string c)).setCell ⟨w.heap.size + 1, 0, none⟩ (.int .i64 a2)).setCell ⟨w.heap.size + 1, 1, none⟩ (.int .i64 b2)).setCell ⟨w.heap.size + 1, 2, none⟩ (.string c2)) a b c a2 b2 c2 := by
  have far : ∀ {j : Nat} {x : Obj}, W.heap[j]? = some x → j ≠ w.heap.size → j ≠ w.heap.size + 1 → ((((((W.setCell ⟨w.heap.size, 0, none⟩ (.int .i64 a)).setCell ⟨w.heap.size, 1, none⟩ (.int .i64 b)).setCell ⟨w.heap.size, 2, none⟩ (.string c)).setCell ⟨w.heap.size + 1, 0, none⟩ (.int .i64 a2)).setCell ⟨w.heap.size + 1, 1, none⟩ (.int .i64 b2)).setCell ⟨w.heap.size + 1, 2, none⟩ (.string c2)).heap[j]? = some x :=
    fun h h1 h2 => heapSet (heapSet (heapSet (heapSet (heapSet (heapSet h _ h1 _) _ h1 _) _ h1 _) _ h2 _) _ h2 _) _ h2 _
  refine ⟨?_, ?_, ?_, far h.r0 (by omega) (by omega), far h.r1 (by omega) (by omega), far h.r2 (by omega) (by omega)⟩
  · exact (((((h.old.setCell (Or.inl (Nat.le_refl _)) _).setCell (Or.inl (Nat.le_refl _)) _).setCell (Or.inl (Nat.le_refl _)) _).setCell (Or.inl (by simp)) _).setCell (Or.inl (by simp)) _).setCell (Or.inl (by simp)) _
  · have h1 := setOf (setOf (setOf h.v 0 (.int .i64 a)) 1 (.int .i64 b)) 2 (.string c)
    exact heapSet (heapSet (heapSet (by simpa using h1) _ (by simp) _) _ (by simp) _) _ (by simp) _
  · have h1 : (((W.setCell ⟨w.heap.size, 0, none⟩ (.int .i64 a)).setCell ⟨w.heap.size, 1, none⟩ (.int .i64 b)).setCell ⟨w.heap.size, 2, none⟩ (.string c)).heap[w.heap.size + 1]? = _ := heapSet (heapSet (heapSet h.i _ (by simp) _) _ (by simp) _) _ (by simp) _
    have h2 := setOf (setOf (setOf h1 0 (.int .i64 a2)) 1 (.int .i64 b2)) 2 (.string c2)
    simpa using h2
end

set_option maxRecDepth 100000 in
set_option maxHeartbeats 2000000 in
theorem at_lo (w : World) (h : Value) (ref : Int) (m : Int) (b : Nat) (av : Value) (n : Nat) (xs : List Value) (h1 : -9007199254740991 < m) (h2 : m < 9007199254740991) (hout : m < 0)
    (hP : Says w nowhere anyW 35 #[h, .agg #[.int .i64 5, .int .i64 ref, .string ⟨#[]⟩]] (.agg #[.int .i64 5, .int .i64 ref, .string ⟨#[]⟩]))
    (hA : Says w nowhere anyW 42 #[h, .agg #[.int .i64 5, .int .i64 ref, .string ⟨#[]⟩]] (.pointer (some ⟨b, 0, none⟩)))
    (hb : w.heap[b]? = some (.cells #[av] 89 (0, 0))) (hr : w.ownsRow 0 34 3 av n xs) :
    Calls Tryz.prog 28 #[h, .agg #[.int .i64 5, .int .i64 ref, .string ⟨#[]⟩], .agg #[.int .i64 3, .int .i64 m, .string ⟨#[]⟩]] w fun e w' => e = .returned (.tuple #[.agg #[.int .i64 0, .int .i64 0, .string ⟨#[]⟩], .string ⟨#[]⟩, .int .i64 0]) ∧ Old w w' := by
  have HR := Lib.hid hr
  obtain ⟨a, c, rfl⟩ : ∃ a c, av = .slice a n c := by
    rcases hr.2 with ⟨rfl, e⟩ | ⟨g, cap, _, rfl, _⟩
    · exact ⟨none, 0, by rw [e]⟩
    · exact ⟨_, _, rfl⟩
  clear hr
  have HB := Lib.hid hb; clear hb
  have HA := Lib.hid hA; clear hA
  have hP' : ∀ W, Old w W → Calls Tryz.prog 35 #[h, .agg #[.int .i64 5, .int .i64 ref, .string ⟨#[]⟩]] W fun e w' => e = .returned (.agg #[.int .i64 5, .int .i64 ref, .string ⟨#[]⟩]) ∧ Old W w' := fun W hW => hP W hW trivial
  have HP := Lib.hid hP'; clear hP hP'
  go_enter Tryz.func28, Tryz.ntmps28
  go_upto_region 1 with fail
  refine wp_gen (R := fun W => AtW w W 5 ref ⟨#[]⟩ 3 m ⟨#[]⟩) (AtW.start w _ _ _ _ _ _) ?_
  intro W0 hA0
  have HA0 := Lib.hid hA0; clear hA0
  go_cut [] (fun wx => AtW w wx 5 ref ⟨#[]⟩ 3 m ⟨#[]⟩)
  case first =>
    obtain ⟨p0, p1, p2, e0, e1, e2⟩ := cells3 HA0.out.v
    obtain ⟨r0, r1, r2, g0, g1, g2⟩ := cells3 HA0.out.i
    have hl4 := ltOf HA0.out.v
    have hl5 := ltOf HA0.out.i
    go_region_with (go_at_call 35; first | ((with_reducible refine (HP.out _ ?_).mono ?_); (exact HA0.out.old.drew); rintro e wA ⟨rfl, hOA⟩; have HAA := Lib.hid (HA0.out.later ((Fr.refl _ _).drew.old hOA)); obtain ⟨pA0, pA1, pA2, eA0, eA1, eA2⟩ := cells3 HAA.out.v; obtain ⟨rA0, rA1, rA2, gA0, gA1, gA2⟩ := cells3 HAA.out.i) | ((with_reducible refine (plain_num_mid h m _ _ h1 h2).mono ?_); rintro e wB ⟨rfl, hOB⟩; have HAB := Lib.hid (HAA.out.later hOB); obtain ⟨pB0, pB1, pB2, eB0, eB1, eB2⟩ := cells3 HAB.out.v; obtain ⟨rB0, rB1, rB2, gB0, gB1, gB2⟩ := cells3 HAB.out.i))
    all_goals (go_wp2_with fail; go_meet; exact HAB.out.six _ _ _ _ _ _)
  case rest =>
    have HC := Lib.hid hcut; clear hcut HA0
    obtain ⟨p0, p1, p2, e0, e1, e2⟩ := cells3 HC.out.v
    obtain ⟨r0, r1, r2, g0, g1, g2⟩ := cells3 HC.out.i
    go_wp2_with (go_at_call 42; refine (HA.out _ HC.out.old trivial).mono ?_; rintro e wC ⟨rfl, hOC⟩; have HD := Lib.hid (HC.out.later hOC); clear HC p0 p1 p2 e0 e1 e2 r0 r1 r2 g0 g1 g2; obtain ⟨r0, r1, r2, g0, g1, g2⟩ := cells3 HD.out.i; have c0 := cellOf (HD.out.old.at HB.out (fun f => f)) 0 _ rfl)
    have hm0 : decide (0 ≤ m) = false := decide_eq_false (by omega)
    have hm1 : decide (m ≥ 0) = false := decide_eq_false (by omega)
    go_quiet (fail)
    clear r0 r1 r2 g0 g1 g2 c0
    have HE := Lib.hid (HD.out.later ((Fr.refl _ _).drewN nq))
    generalize wC.drewN nq = wE at *
    obtain ⟨r0, r1, r2, g0, g1, g2⟩ := cells3 HE.out.i
    obtain ⟨s0, s1, s2, t0, t1, t2⟩ := cells3 HE.out.r0
    have u0 := cellOf HE.out.r1 0 _ rfl
    have u1 := freeOf HE.out.r1 0
    have v0 := cellOf HE.out.r2 0 _ rfl
    have v1 := freeOf HE.out.r2 0
    have l6 := ltOf HE.out.r0
    have l7 := ltOf HE.out.r1
    have l8 := ltOf HE.out.r2
    go_wp2_with fail
    refine bodyPost_ret (v := .tuple #[.agg #[.int .i64 0, .int .i64 0, .string ⟨#[]⟩], .string ⟨#[]⟩, .int .i64 0]) (by simp [results, Tryz.results28, go_sem, s0, s1, s2, u0, v0, l6, l7, l8]) rfl ⟨rfl, ?_⟩
    exact ((((HE.out.old.setCell (Or.inl (by simp; omega)) _).setCell (Or.inl (by simp; omega)) _).setCell (Or.inl (by simp; omega)) _).setCell (Or.inl (by simp; omega)) _).setCell (Or.inl (by simp; omega)) _

set_option maxRecDepth 100000 in
set_option maxHeartbeats 2000000 in
theorem at_hi (w : World) (h : Value) (ref : Int) (m : Int) (b : Nat) (av : Value) (n : Nat) (xs : List Value) (h1 : -9007199254740991 < m) (h2 : m < 9007199254740991) (hout : (n : Int) ≤ m)
    (hP : Says w nowhere anyW 35 #[h, .agg #[.int .i64 5, .int .i64 ref, .string ⟨#[]⟩]] (.agg #[.int .i64 5, .int .i64 ref, .string ⟨#[]⟩]))
    (hA : Says w nowhere anyW 42 #[h, .agg #[.int .i64 5, .int .i64 ref, .string ⟨#[]⟩]] (.pointer (some ⟨b, 0, none⟩)))
    (hb : w.heap[b]? = some (.cells #[av] 89 (0, 0))) (hr : w.ownsRow 0 34 3 av n xs) :
    Calls Tryz.prog 28 #[h, .agg #[.int .i64 5, .int .i64 ref, .string ⟨#[]⟩], .agg #[.int .i64 3, .int .i64 m, .string ⟨#[]⟩]] w fun e w' => e = .returned (.tuple #[.agg #[.int .i64 0, .int .i64 0, .string ⟨#[]⟩], .string ⟨#[]⟩, .int .i64 0]) ∧ Old w w' := by
  have HR := Lib.hid hr
  obtain ⟨a, c, rfl⟩ : ∃ a c, av = .slice a n c := by
    rcases hr.2 with ⟨rfl, e⟩ | ⟨g, cap, _, rfl, _⟩
    · exact ⟨none, 0, by rw [e]⟩
    · exact ⟨_, _, rfl⟩
  clear hr
  have HB := Lib.hid hb; clear hb
  have HA := Lib.hid hA; clear hA
  have hP' : ∀ W, Old w W → Calls Tryz.prog 35 #[h, .agg #[.int .i64 5, .int .i64 ref, .string ⟨#[]⟩]] W fun e w' => e = .returned (.agg #[.int .i64 5, .int .i64 ref, .string ⟨#[]⟩]) ∧ Old W w' := fun W hW => hP W hW trivial
  have HP := Lib.hid hP'; clear hP hP'
  go_enter Tryz.func28, Tryz.ntmps28
  go_upto_region 1 with fail
  refine wp_gen (R := fun W => AtW w W 5 ref ⟨#[]⟩ 3 m ⟨#[]⟩) (AtW.start w _ _ _ _ _ _) ?_
  intro W0 hA0
  have HA0 := Lib.hid hA0; clear hA0
  go_cut [] (fun wx => AtW w wx 5 ref ⟨#[]⟩ 3 m ⟨#[]⟩)
  case first =>
    obtain ⟨p0, p1, p2, e0, e1, e2⟩ := cells3 HA0.out.v
    obtain ⟨r0, r1, r2, g0, g1, g2⟩ := cells3 HA0.out.i
    have hl4 := ltOf HA0.out.v
    have hl5 := ltOf HA0.out.i
    go_region_with (go_at_call 35; first | ((with_reducible refine (HP.out _ ?_).mono ?_); (exact HA0.out.old.drew); rintro e wA ⟨rfl, hOA⟩; have HAA := Lib.hid (HA0.out.later ((Fr.refl _ _).drew.old hOA)); obtain ⟨pA0, pA1, pA2, eA0, eA1, eA2⟩ := cells3 HAA.out.v; obtain ⟨rA0, rA1, rA2, gA0, gA1, gA2⟩ := cells3 HAA.out.i) | ((with_reducible refine (plain_num_mid h m _ _ h1 h2).mono ?_); rintro e wB ⟨rfl, hOB⟩; have HAB := Lib.hid (HAA.out.later hOB); obtain ⟨pB0, pB1, pB2, eB0, eB1, eB2⟩ := cells3 HAB.out.v; obtain ⟨rB0, rB1, rB2, gB0, gB1, gB2⟩ := cells3 HAB.out.i))
    all_goals (go_wp2_with fail; go_meet; exact HAB.out.six _ _ _ _ _ _)
  case rest =>
    have HC := Lib.hid hcut; clear hcut HA0
    obtain ⟨p0, p1, p2, e0, e1, e2⟩ := cells3 HC.out.v
    obtain ⟨r0, r1, r2, g0, g1, g2⟩ := cells3 HC.out.i
    go_wp2_with (go_at_call 42; refine (HA.out _ HC.out.old trivial).mono ?_; rintro e wC ⟨rfl, hOC⟩; have HD := Lib.hid (HC.out.later hOC); clear HC p0 p1 p2 e0 e1 e2 r0 r1 r2 g0 g1 g2; obtain ⟨r0, r1, r2, g0, g1, g2⟩ := cells3 HD.out.i; have c0 := cellOf (HD.out.old.at HB.out (fun f => f)) 0 _ rfl)
    have hm0 : decide (0 ≤ m) = true := decide_eq_true (by omega)
    have hm1 : decide (m ≥ 0) = true := decide_eq_true (by omega)
    have hm2 : decide (m < (n : Int)) = false := decide_eq_false (by omega)
    go_quiet (fail)
    clear r0 r1 r2 g0 g1 g2 c0
    have HE := Lib.hid (HD.out.later ((Fr.refl _ _).drewN nq))
    generalize wC.drewN nq = wE at *
    obtain ⟨r0, r1, r2, g0, g1, g2⟩ := cells3 HE.out.i
    obtain ⟨s0, s1, s2, t0, t1, t2⟩ := cells3 HE.out.r0
    have u0 := cellOf HE.out.r1 0 _ rfl
    have u1 := freeOf HE.out.r1 0
    have v0 := cellOf HE.out.r2 0 _ rfl
    have v1 := freeOf HE.out.r2 0
    have l6 := ltOf HE.out.r0
    have l7 := ltOf HE.out.r1
    have l8 := ltOf HE.out.r2
    go_wp2_with fail
    refine bodyPost_ret (v := .tuple #[.agg #[.int .i64 0, .int .i64 0, .string ⟨#[]⟩], .string ⟨#[]⟩, .int .i64 0]) (by simp [results, Tryz.results28, go_sem, s0, s1, s2, u0, v0, l6, l7, l8]) rfl ⟨rfl, ?_⟩
    exact ((((HE.out.old.setCell (Or.inl (by simp; omega)) _).setCell (Or.inl (by simp; omega)) _).setCell (Or.inl (by simp; omega)) _).setCell (Or.inl (by simp; omega)) _).setCell (Or.inl (by simp; omega)) _

set_option maxRecDepth 100000 in
set_option maxHeartbeats 2000000 in
theorem at_in (w : World) (h : Value) (ref : Int) (m : Int) (b : Nat) (av : Value) (n : Nat) (xs : List Value) (h1 : -9007199254740991 < m) (h2 : m < 9007199254740991) (h0 : 0 ≤ m) (hn : m < n) (x y : Int) (z : ByteArray) (hx0 : xs[m.toNat * 3]? = some (.int .i64 x)) (hx1 : xs[m.toNat * 3 + 1]? = some (.int .i64 y)) (hx2 : xs[m.toNat * 3 + 2]? = some (.string z))
    (hP : Says w nowhere anyW 35 #[h, .agg #[.int .i64 5, .int .i64 ref, .string ⟨#[]⟩]] (.agg #[.int .i64 5, .int .i64 ref, .string ⟨#[]⟩]))
    (hA : Says w nowhere anyW 42 #[h, .agg #[.int .i64 5, .int .i64 ref, .string ⟨#[]⟩]] (.pointer (some ⟨b, 0, none⟩)))
    (hb : w.heap[b]? = some (.cells #[av] 89 (0, 0))) (hr : w.ownsRow 0 34 3 av n xs) :
    Calls Tryz.prog 28 #[h, .agg #[.int .i64 5, .int .i64 ref, .string ⟨#[]⟩], .agg #[.int .i64 3, .int .i64 m, .string ⟨#[]⟩]] w fun e w' => e = .returned (.tuple #[.agg #[.int .i64 x, .int .i64 y, .string z], .string ⟨#[]⟩, .int .i64 0]) ∧ Old w w' := by
  obtain ⟨k, rfl⟩ := Int.eq_ofNat_of_zero_le h0
  rw [Int.toNat_natCast] at hx0 hx1 hx2
  have HX := Lib.hid (And.intro hx0 (And.intro hx1 hx2)); clear hx0 hx1 hx2
  have HR := Lib.hid hr
  obtain ⟨a, c, rfl⟩ : ∃ a c, av = .slice a n c := by
    rcases hr.2 with ⟨rfl, e⟩ | ⟨g, cap, _, rfl, _⟩
    · exact ⟨none, 0, by rw [e]⟩
    · exact ⟨_, _, rfl⟩
  clear hr
  have HB := Lib.hid hb; clear hb
  have HA := Lib.hid hA; clear hA
  have hP' : ∀ W, Old w W → Calls Tryz.prog 35 #[h, .agg #[.int .i64 5, .int .i64 ref, .string ⟨#[]⟩]] W fun e w' => e = .returned (.agg #[.int .i64 5, .int .i64 ref, .string ⟨#[]⟩]) ∧ Old W w' := fun W hW => hP W hW trivial
  have HP := Lib.hid hP'; clear hP hP'
  go_enter Tryz.func28, Tryz.ntmps28
  go_upto_region 1 with fail
  refine wp_gen (R := fun W => AtW w W 5 ref ⟨#[]⟩ 3 (k : Int) ⟨#[]⟩) (AtW.start w _ _ _ _ _ _) ?_
  intro W0 hA0
  have HA0 := Lib.hid hA0; clear hA0
  go_cut [] (fun wx => AtW w wx 5 ref ⟨#[]⟩ 3 (k : Int) ⟨#[]⟩)
  case first =>
    obtain ⟨p0, p1, p2, e0, e1, e2⟩ := cells3 HA0.out.v
    obtain ⟨r0, r1, r2, g0, g1, g2⟩ := cells3 HA0.out.i
    have hl4 := ltOf HA0.out.v
    have hl5 := ltOf HA0.out.i
    go_region_with (go_at_call 35; first | ((with_reducible refine (HP.out _ ?_).mono ?_); (exact HA0.out.old.drew); rintro e wA ⟨rfl, hOA⟩; have HAA := Lib.hid (HA0.out.later ((Fr.refl _ _).drew.old hOA)); obtain ⟨pA0, pA1, pA2, eA0, eA1, eA2⟩ := cells3 HAA.out.v; obtain ⟨rA0, rA1, rA2, gA0, gA1, gA2⟩ := cells3 HAA.out.i) | ((with_reducible refine (plain_num_mid h (k : Int) _ _ h1 h2).mono ?_); rintro e wB ⟨rfl, hOB⟩; have HAB := Lib.hid (HAA.out.later hOB); obtain ⟨pB0, pB1, pB2, eB0, eB1, eB2⟩ := cells3 HAB.out.v; obtain ⟨rB0, rB1, rB2, gB0, gB1, gB2⟩ := cells3 HAB.out.i))
    all_goals (go_wp2_with fail; go_meet; exact HAB.out.six _ _ _ _ _ _)
  case rest =>
    have HC := Lib.hid hcut; clear hcut HA0
    obtain ⟨p0, p1, p2, e0, e1, e2⟩ := cells3 HC.out.v
    obtain ⟨r0, r1, r2, g0, g1, g2⟩ := cells3 HC.out.i
    go_wp2_with (go_at_call 42; refine (HA.out _ HC.out.old trivial).mono ?_; rintro e wC ⟨rfl, hOC⟩; have HD := Lib.hid (HC.out.later hOC); clear HC p0 p1 p2 e0 e1 e2 r0 r1 r2 g0 g1 g2; obtain ⟨r0, r1, r2, g0, g1, g2⟩ := cells3 HD.out.i; have c0 := cellOf (HD.out.old.at HB.out (fun f => f)) 0 _ rfl)
    have hm0 : decide (0 ≤ (k : Int)) = true := decide_eq_true (by omega)
    have hm1 : decide ((k : Int) ≥ 0) = true := decide_eq_true (by omega)
    have hm2 : decide (k < n) = true := decide_eq_true (by omega)
    go_quiet (fail)
    clear r0 r1 r2 g0 g1 g2 c0
    have HE := Lib.hid (HD.out.later ((Fr.refl _ _).drewN nq))
    generalize wC.drewN nq = wE at *
    obtain ⟨r0, r1, r2, g0, g1, g2⟩ := cells3 HE.out.i
    obtain ⟨s0, s1, s2, t0, t1, t2⟩ := cells3 HE.out.r0
    have u0 := cellOf HE.out.r1 0 _ rfl
    have u1 := freeOf HE.out.r1 0
    have v0 := cellOf HE.out.r2 0 _ rfl
    have v1 := freeOf HE.out.r2 0
    have l6 := ltOf HE.out.r0
    have l7 := ltOf HE.out.r1
    have l8 := ltOf HE.out.r2
    have hlb := ltOf HB.out
    have hrE := HE.out.old.row HR.out (fun _ _ f => f)
    obtain ⟨g, rfl, hg⟩ : ∃ g, a = some ⟨g, 0, none⟩ ∧ g < wE.heap.size ∧ g < w.heap.size := by
      rcases HR.out.2 with ⟨e1, e2⟩ | ⟨g, cap, cur, e1, _, hg, _⟩
      · omega
      · cases e1
        exact ⟨g, rfl, Nat.lt_of_lt_of_le (ltOf hg) HE.out.old.size, ltOf hg⟩
    have hadd : ∀ j, (⟨g, 0, none⟩ : Addr).add j = ⟨g, j, none⟩ := fun j => by unfold Addr.add; split <;> simp_all
    have x0 := hrE.cells (g := g) rfl _ _ HX.out.1
    have x1 := hrE.cells (g := g) rfl _ _ HX.out.2.1
    have x2 := hrE.cells (g := g) rfl _ _ HX.out.2.2
    rw [hadd] at x0 x1 x2
    clear hadd hrE
    have c0 := cellOf (HE.out.old.at HB.out (fun f => f)) 0 _ rfl
    obtain ⟨hg1, hg2⟩ := hg
    have nb6 : ¬ w.heap.size + 1 + 1 = b := by omega
    have mb6 : ¬ b = w.heap.size + 1 + 1 := by omega
    have nb7 : ¬ w.heap.size + 1 + 1 + 1 = b := by omega
    have mb7 : ¬ b = w.heap.size + 1 + 1 + 1 := by omega
    have nb8 : ¬ w.heap.size + 1 + 1 + 1 + 1 = b := by omega
    have mb8 : ¬ b = w.heap.size + 1 + 1 + 1 + 1 := by omega
    have ng6 : ¬ w.heap.size + 1 + 1 = g := by omega
    have mg6 : ¬ g = w.heap.size + 1 + 1 := by omega
    have ng7 : ¬ w.heap.size + 1 + 1 + 1 = g := by omega
    have mg7 : ¬ g = w.heap.size + 1 + 1 + 1 := by omega
    have ng8 : ¬ w.heap.size + 1 + 1 + 1 + 1 = g := by omega
    have mg8 : ¬ g = w.heap.size + 1 + 1 + 1 + 1 := by omega
    have q2 : ¬ w.heap.size + 1 + 1 = w.heap.size := by omega
    have q3 : ¬ w.heap.size + 1 + 1 + 1 = w.heap.size := by omega
    have k0 : (0 : Int) ≤ (k : Int) := by omega
    have k1 : (k : Int) < (n : Int) := by omega
    go_wp2_with fail
    go_region_held3 (fun w' => w'.cell? ⟨b, 0, none⟩ = some (.slice (some ⟨g, 0, none⟩) n c) ∧ w'.cell? ⟨w.heap.size + 1, 1, none⟩ = some (.int .i64 (k : Int)) ∧ w'.cell? ⟨g, k * 3, none⟩ = some (.int .i64 x) ∧ w'.cell? ⟨g, k * 3 + 1, none⟩ = some (.int .i64 y) ∧ w'.cell? ⟨g, k * 3 + 2, none⟩ = some (.string z)) (go_keep) (fail)
    all_goals (go_wp2_with fail)
    refine bodyPost_ret (v := .tuple #[.agg #[.int .i64 x, .int .i64 y, .string z], .string ⟨#[]⟩, .int .i64 0]) (by simp [results, Tryz.results28, go_sem, s0, s1, s2, u0, v0, l6, l7, l8, q2, q3]) rfl ⟨rfl, ?_⟩
    exact (((((HE.out.old.setCell (Or.inl (by dsimp only; omega)) _).setCell (Or.inl (by dsimp only; omega)) _).setCell (Or.inl (by dsimp only; omega)) _).setCell (Or.inl (by dsimp only; omega)) _).setCell (Or.inl (by dsimp only; omega)) _).drew

end Go.Proofs.YtlimgecmolhdhaaGreatDoor
