/- Types in memory. -/
import Derived.Test.YtmheonaddidbjaaGreatDoorFr
import Derived.Test.YtmheonaddidbjaaGreatDoorKy
set_option linter.unusedVariables false
set_option linter.unusedSimpArgs false
namespace Go.Proofs.YtmheonaddidbjaaGreatDoor
open Go.RowKit

abbrev ptr (b : Nat) : Value := .pointer (some ⟨b, 0, none⟩)
abbrev strV (s : Bs) : Value := .string (S s)

/-- A slice that reads as these cells; its row lies in no block of N. -/
def Rd (w : World) (N : Nat → Prop) (E : TypeId) (v : Value) (n : Nat) (xs : List Value) : Prop :=
  xs.length = n ∧ ((n = 0 ∧ ∃ a c, v = .slice a 0 c) ∨ ∃ g cap cur, v = .slice (some ⟨g, 0, none⟩) n cap ∧ w.heap[g]? = some (.cells cur E (0, 0)) ∧ ¬ N g ∧ n ≤ cap ∧ cur.toList.take n = xs)

theorem Rd.slice {w : World} {N : Nat → Prop} {E n : Nat} {v : Value} {xs : List Value} (h : Rd w N E v n xs) : ∃ a c, v = .slice a n c := by
  rcases h.2 with ⟨e, a, c, rfl⟩ | ⟨g, cap, cur, rfl, _⟩
  · exact ⟨a, c, by rw [e]⟩
  · exact ⟨_, _, rfl⟩

theorem Rd.cell {w : World} {N : Nat → Prop} {E n : Nat} {v : Value} {xs : List Value} (h : Rd w N E v n xs) (i : Nat) (hi : i < n) :
    ∃ g cap x, v = .slice (some ⟨g, 0, none⟩) n cap ∧ xs[i]? = some x ∧ w.cell? ⟨g, i, none⟩ = some x ∧ ¬ N g ∧ g < w.heap.size := by
  rcases h.2 with ⟨e, _⟩ | ⟨g, cap, cur, rfl, hg, hN, hc, ht⟩
  · omega
  · have hx : i < xs.length := by rw [h.1]; exact hi
    refine ⟨g, cap, xs[i], rfl, by simp, cellOf hg i _ ?_, hN, ltOf hg⟩
    have e : (cur.toList.take n)[i]? = some xs[i] := by rw [ht]; simp
    rw [List.getElem?_take] at e
    simpa [hi] using e

theorem Rd.det {w : World} {N N2 : Nat → Prop} {E n n2 : Nat} {v : Value} {xs xs2 : List Value} (h : Rd w N E v n xs) (h2 : Rd w N2 E v n2 xs2) : n = n2 ∧ xs = xs2 := by
  have hn : n = n2 := by
    obtain ⟨a, c, e⟩ := h.slice
    obtain ⟨a2, c2, e2⟩ := h2.slice
    rw [e] at e2; cases e2; rfl
  subst hn
  refine ⟨rfl, ?_⟩
  rcases h.2 with ⟨e, _⟩ | ⟨g, cap, cur, rfl, hg, hN, hc, ht⟩
  · rw [List.length_eq_zero_iff.1 (h.1.trans e), List.length_eq_zero_iff.1 (h2.1.trans e)]
  · rcases h2.2 with ⟨e, _⟩ | ⟨g2, cap2, cur2, e2, hg2, hN2, hc2, ht2⟩
    · rw [List.length_eq_zero_iff.1 (h.1.trans e), List.length_eq_zero_iff.1 (h2.1.trans e)]
    · cases e2
      rw [hg] at hg2; cases hg2
      rw [← ht, ← ht2]

mutual
/-- In block b lies the type t, in no block of N. -/
def TY (w : World) (N : Nat → Prop) : Ty → Nat → Prop
  | .mk k n nm ps ns ms, b => ∃ pv nv mv said bs, w.heap[b]? = some (.cells #[.int .i64 k, .int .i64 n, strV nm, pv, nv, mv, .int .i64 (tszs 1 ps : Nat), .string said] 84 (0, 0)) ∧ ¬ N b ∧
      (said = S [] ∨ said = S (tx (.mk k n nm ps ns ms))) ∧ Rd w N 74 pv ps.length (bs.map ptr) ∧ Rd w N 9 nv ns.length (ns.map strV) ∧ Rd w N 4 mv ms.length (ms.map .bool) ∧ TYs w N ps bs
def TYs (w : World) (N : Nat → Prop) : List Ty → List Nat → Prop
  | [], bs => bs = []
  | t :: r, bs => ∃ b bs', bs = b :: bs' ∧ TY w N t b ∧ TYs w N r bs'
end

theorem strV_inj {a b : List Bs} (h : a.map strV = b.map strV) : a = b := by
  refine List.map_inj_right (fun x y e => ?_) |>.1 h
  have : S x = S y := by simpa [strV] using e
  exact S_inj this
theorem bool_inj {a b : List Bool} (h : a.map Value.bool = b.map Value.bool) : a = b :=
  List.map_inj_right (fun x y e => by simpa using e) |>.1 h
theorem ptr_inj {a b : List Nat} (h : a.map ptr = b.map ptr) : a = b :=
  List.map_inj_right (fun x y e => by simpa using e) |>.1 h

mutual
theorem TY_det {w : World} {N N2 : Nat → Prop} : ∀ (t t2 : Ty) (b : Nat), TY w N t b → TY w N2 t2 b → t = t2
  | .mk k n nm ps ns ms, .mk k2 n2 nm2 ps2 ns2 ms2, b, h, h2 => by
    obtain ⟨pv, nv, mv, said, bs, h1, _, _, hp, hn, hm, hs⟩ := h
    obtain ⟨pv2, nv2, mv2, said2, bs2, g1, _, _, gp, gn, gm, gs⟩ := h2
    rw [h1] at g1
    simp only [Option.some.injEq, Obj.cells.injEq, Array.mk.injEq, List.cons.injEq, Value.int.injEq, Value.string.injEq, true_and, and_true] at g1
    obtain ⟨e1, e2, e3, rfl, rfl, rfl, _, _⟩ := g1
    obtain ⟨_, hb⟩ := hp.det gp
    obtain rfl := ptr_inj hb
    rw [e1, e2, S_inj e3, strV_inj (hn.det gn).2, bool_inj (hm.det gm).2, TYs_det ps ps2 bs hs gs]
theorem TYs_det {w : World} {N N2 : Nat → Prop} : ∀ (l l2 : List Ty) (bs : List Nat), TYs w N l bs → TYs w N2 l2 bs → l = l2
  | [], [], _, _, _ => rfl
  | [], t :: r, bs, h, h2 => by
    obtain ⟨b, bs', rfl, _⟩ := h2
    cases h
  | t :: r, [], bs, h, h2 => by
    obtain ⟨b, bs', rfl, _⟩ := h
    cases h2
  | t :: r, t2 :: r2, bs, h, h2 => by
    obtain ⟨b, bs', rfl, h, hr⟩ := h
    obtain ⟨b2, bs2, e, h2, hr2⟩ := h2
    cases e
    rw [TY_det t t2 b h h2, TYs_det r r2 bs' hr hr2]
end

mutual
theorem TY.weaken {w : World} {N N' : Nat → Prop} (hN : ∀ i, i < w.heap.size → N' i → N i) : ∀ (t : Ty) (b : Nat), TY w N t b → TY w N' t b
  | .mk k n nm ps ns ms, b, h => by
    obtain ⟨pv, nv, mv, said, bs, h1, hNb, hsd, hp, hn, hm, hs⟩ := h
    have weak : ∀ {E n v xs}, Rd w N E v n xs → Rd w N' E v n xs := fun h => ⟨h.1, h.2.imp id (fun ⟨g, cap, cur, a, b, e, c, d⟩ => ⟨g, cap, cur, a, b, fun f => e (hN g (ltOf b) f), c, d⟩)⟩
    exact ⟨pv, nv, mv, said, bs, h1, fun f => hNb (hN b (ltOf h1) f), hsd, weak hp, weak hn, weak hm, TYs.weaken hN ps bs hs⟩
theorem TYs.weaken {w : World} {N N' : Nat → Prop} (hN : ∀ i, i < w.heap.size → N' i → N i) : ∀ (l : List Ty) (bs : List Nat), TYs w N l bs → TYs w N' l bs
  | [], _, h => h
  | t :: r, bs, h => by
    obtain ⟨b, bs', rfl, h1, h2⟩ := h
    exact ⟨b, bs', rfl, TY.weaken hN t b h1, TYs.weaken hN r bs' h2⟩
end

/-- w' is w but for the blocks of F, new ones, and texts that were laid in types (not below B). -/
structure Up (B : Nat) (F : Nat → Prop) (w w' : World) : Prop where
  os : w'.os = w.os
  tape : w'.tape = w.tape
  output : w'.output = w.output
  size : w.heap.size ≤ w'.heap.size
  block : ∀ k, k < w.heap.size → ¬ F k → w'.heap[k]? = w.heap[k]? ∨ ∃ c s, B ≤ k ∧ w.heap[k]? = some (.cells c 84 (0, 0)) ∧ w'.heap[k]? = some (.cells (c.setIfInBounds 7 (.string s)) 84 (0, 0)) ∧ ∀ t, TY w F t k → s = S (tx t)

variable {B : Nat}
theorem Fr.up {F : Nat → Prop} {w w' : World} (h : Fr F w w') : Up B F w w' := ⟨h.os, h.tape, h.output, h.size, fun k hk hF => Or.inl (h.block k hk hF)⟩

/-- What is no type is as it was. -/
theorem Up.at {F : Nat → Prop} {w w' : World} (h : Up B F w w') {b : Nat} {x : Obj} (hx : w.heap[b]? = some x) (hF : ¬ F b) (hn : ∀ c, x ≠ .cells c 84 (0, 0)) : w'.heap[b]? = some x := by
  rcases h.block b (ltOf hx) hF with e | ⟨c, s, _, h1, _⟩
  · exact e.trans hx
  · rw [hx] at h1; cases h1; exact absurd rfl (hn c)

theorem Rd.up {F N N' : Nat → Prop} {w w' : World} {E n : Nat} {v : Value} {xs : List Value} (h : Rd w N E v n xs) (hU : Up B F w w') (hF : ∀ i, F i → N i) (hN : ∀ i, i < w.heap.size → N' i → N i) (hE : E ≠ 84) : Rd w' N' E v n xs := by
  refine ⟨h.1, ?_⟩
  rcases h.2 with h2 | ⟨g, cap, cur, rfl, hg, hNg, hc, ht⟩
  · exact Or.inl h2
  · exact Or.inr ⟨g, cap, cur, rfl, hU.at hg (fun f => hNg (hF g f)) (fun c e => by cases e; exact hE rfl), fun f => hNg (hN g (ltOf hg) f), hc, ht⟩

mutual
theorem TY.up {F N N' : Nat → Prop} {w w' : World} (hU : Up B F w w') (hF : ∀ i, F i → N i) (hN : ∀ i, i < w.heap.size → N' i → N i) : ∀ (t : Ty) (b : Nat), TY w N t b → TY w' N' t b
  | .mk k n nm ps ns ms, b, h => by
    have h0 := h
    obtain ⟨pv, nv, mv, said, bs, h1, hNb, hsd, hp, hn, hm, hs⟩ := h
    have hs' := TYs.up hU hF hN ps bs hs
    have hp' := hp.up hU hF hN (by decide)
    have hn' := hn.up hU hF hN (by decide)
    have hm' := hm.up hU hF hN (by decide)
    have hNb' : ¬ N' b := fun f => hNb (hN b (ltOf h1) f)
    rcases hU.block b (ltOf h1) (fun f => hNb (hF b f)) with e | ⟨c, s, _, g2, g3, g1⟩
    · exact ⟨pv, nv, mv, said, bs, e.trans h1, hNb', hsd, hp', hn', hm', hs'⟩
    · have e := g1 _ (TY.weaken (fun i _ f => hF i f) _ _ h0)
      rw [h1] at g2; cases g2
      exact ⟨pv, nv, mv, s, bs, g3, hNb', Or.inr e, hp', hn', hm', hs'⟩
theorem TYs.up {F N N' : Nat → Prop} {w w' : World} (hU : Up B F w w') (hF : ∀ i, F i → N i) (hN : ∀ i, i < w.heap.size → N' i → N i) : ∀ (l : List Ty) (bs : List Nat), TYs w N l bs → TYs w' N' l bs
  | [], _, h => h
  | t :: r, bs, h => by
    obtain ⟨b, bs', rfl, h1, h2⟩ := h
    exact ⟨b, bs', rfl, TY.up hU hF hN t b h1, TYs.up hU hF hN r bs' h2⟩
end

theorem Up.refl (F : Nat → Prop) (w : World) : Up B F w w := (Fr.refl F w).up
theorem Up.trans {F G : Nat → Prop} {a b c : World} (h : Up B F a b) (k : Up B G b c) (hG : ∀ i, i < a.heap.size → G i → F i) : Up B F a c := by
  refine ⟨k.os.trans h.os, k.tape.trans h.tape, k.output.trans h.output, Nat.le_trans h.size k.size, fun i hi hF => ?_⟩
  have fwd : ∀ t, TY a F t i → TY b G t i := fun t ht => TY.up h (fun _ f => f) hG t i ht
  rcases k.block i (Nat.lt_of_lt_of_le hi h.size) (fun g => hF (hG i hi g)) with e | ⟨d, s, k0, k1, k2, k3⟩
  · rw [e]; exact h.block i hi hF
  · rcases h.block i hi hF with e | ⟨d', s', h0, h1, h2, h3⟩
    · exact Or.inr ⟨d, s, k0, e ▸ k1, k2, fun t ht => k3 t (fwd t ht)⟩
    · rw [h2] at k1; cases k1
      exact Or.inr ⟨d', s, h0, h1, by rw [k2]; simp, fun t ht => k3 t (fwd t ht)⟩
theorem Up.old {F : Nat → Prop} {a b c : World} (h : Up B F a b) (k : Old b c) : Up B F a c := h.trans k.up (fun _ _ f => f.elim)
theorem Up.mono {F G : Nat → Prop} {a b : World} (h : Up B F a b) (hG : ∀ i, i < a.heap.size → F i → G i) : Up B G a b :=
  ⟨h.os, h.tape, h.output, h.size, fun i hi hg => (h.block i hi (fun f => hg (hG i hi f))).imp id (fun ⟨c, s, h0, h1, h2, h3⟩ => ⟨c, s, h0, h1, h2, fun t ht => h3 t (TY.weaken (fun i hi f => hG i hi f) t i ht)⟩)⟩
abbrev Same (B : Nat) (w w' : World) : Prop := Up B (fun _ => False) w w'
theorem Up.same {F : Nat → Prop} {a b c : World} (h : Up B F a b) (k : Same B b c) : Up B F a c := h.trans k (fun _ _ f => f.elim)
theorem TY.same {N : Nat → Prop} {w w' : World} (hU : Same B w w') {t : Ty} {b : Nat} (h : TY w N t b) : TY w' N t b := TY.up hU (fun _ f => f.elim) (fun _ _ f => f) t b h
theorem TYs.same {N : Nat → Prop} {w w' : World} (hU : Same B w w') {t : List Ty} {b : List Nat} (h : TYs w N t b) : TYs w' N t b := TYs.up hU (fun _ f => f.elim) (fun _ _ f => f) t b h
theorem Rd.same {N : Nat → Prop} {w w' : World} {E n : Nat} {v : Value} {xs : List Value} (h : Rd w N E v n xs) (hU : Same B w w') (hE : E ≠ 84) : Rd w' N E v n xs := h.up hU (fun _ f => f.elim) (fun _ _ f => f) hE

/-- A text laid in a type. -/
theorem Up.said {w : World} {N : Nat → Prop} {t : Ty} {b : Nat} (h : TY w N t b) (hB : B ≤ b) : Same B w (w.setCell ⟨b, 7, none⟩ (strV (tx t))) := by
  cases t with
  | mk k n nm ps ns ms =>
    have h0 := h
    obtain ⟨pv, nv, mv, said, bs, h1, _⟩ := h
    refine ⟨rfl, rfl, rfl, by simp [World.setCell], fun i hi hF => ?_⟩
    by_cases e : i = b
    · subst e
      exact Or.inr ⟨_, _, hB, h1, setOf h1 7 _, fun t ht => by rw [TY_det _ _ _ ht h0]⟩
    · exact Or.inl (Below.heap_setCell _ _ _ _ e)
end Go.Proofs.YtmheonaddidbjaaGreatDoor
