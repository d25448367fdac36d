/- slices.DeleteFunc of types that go. -/
import Derived.Test.YtmheonaddidbjaaGreatDoorDf
import Derived.Lib.SliceRun
set_option linter.unusedVariables false
set_option linter.unusedSimpArgs false
namespace Go.Proofs.YtmheonaddidbjaaGreatDoor
open Go.RowKit

variable {B : Nat}

/-- Types and where they lie. -/
def TQ (w : World) (N : Nat → Prop) (q : List (Ty × Nat)) : Prop := ∀ p ∈ q, TY w N p.1 p.2
theorem TYs.tq {w : World} {N : Nat → Prop} : ∀ {l : List Ty} {bs : List Nat}, TYs w N l bs → ∃ q : List (Ty × Nat), l = q.map (·.1) ∧ bs = q.map (·.2) ∧ TQ w N q
  | [], bs, h => ⟨[], rfl, h, fun p hp => by cases hp⟩
  | t :: r, bs, h => by
    obtain ⟨b, bs', rfl, h1, h2⟩ := h
    obtain ⟨q, rfl, rfl, h3⟩ := TYs.tq h2
    exact ⟨(t, b) :: q, rfl, rfl, fun p hp => by rcases List.mem_cons.1 hp with rfl | hp; exact h1; exact h3 p hp⟩
theorem TQ.tys {w : World} {N : Nat → Prop} : ∀ {q : List (Ty × Nat)}, TQ w N q → TYs w N (q.map (·.1)) (q.map (·.2))
  | [], _ => rfl
  | p :: r, h => ⟨p.2, _, rfl, h p (by simp), TQ.tys (fun x hx => h x (by simp [hx]))⟩
theorem TQ.up {F N N' : Nat → Prop} {w w' : World} {q : List (Ty × Nat)} (h : TQ w N q) (hU : Up B F w w') (hF : ∀ i, F i → N i) (hN : ∀ i, i < w.heap.size → N' i → N i) : TQ w' N' q := fun p hp => TY.up hU hF hN _ _ (h p hp)

/-- The slots of a row that stands in block g: at first these types, then whatever. -/
structure Rw (W : World) (g cap : Nat) (q : List (Ty × Nat)) (cur : List Value) : Prop where
  at_ : W.heap[g]? = some (.cells cur.toArray 74 (0, 0))
  len : cur.length = cap
  pre : cur.take q.length = q.map fun p => ptr p.2

theorem take_set {α : Type} (l : List α) (i : Nat) (x : α) (h : i < l.length) : (l.set i x).take (i + 1) = l.take i ++ [x] := by
  rw [take_snoc _ i (by simpa using h)]
  simp [List.take_set_of_le]
theorem drop_set {α : Type} (l : List α) (i j : Nat) (x : α) (h : i < j) : (l.set i x).drop j = l.drop j := by
  rw [List.drop_set_of_lt h]

abbrev keepQ (fl : List Ty) (q : List (Ty × Nat)) : List (Ty × Nat) := q.filter fun p => !goesT fl p.1

/-- Behind j slots. -/
def DSt (B : Nat) (w : World) (N : Nat → Prop) (g cap : Nat) (q : List (Ty × Nat)) (orig : List Value) (fl : List Ty) (C1 C2 m1 m2 : Nat) (kv1 : List (Int × Value)) (kv2 : List (ByteArray × Value)) (j : Nat) (W : World) : Prop :=
  ∃ cur, Rw W g cap (keepQ fl (q.take j)) cur ∧ cur.drop j = orig.drop j ∧ Up B (· = g) w W ∧ TQ W N q ∧ CapOk W C1 C2 fl m1 m2 kv1 kv2

section
variable {w W : World} {N : Nat → Prop} {g cap : Nat} {q : List (Ty × Nat)} {orig cur : List Value}

theorem Rw.cell (h : Rw W g cap q cur) (i : Nat) (hi : i < q.length) : W.cell? ⟨g, i, none⟩ = some (ptr q[i].2) := by
  refine cellOf h.at_ i _ ?_
  have e : (cur.take q.length)[i]? = some (ptr q[i].2) := by rw [h.pre]; simp [hi]
  rw [List.getElem?_take] at e
  simpa [hi] using e
theorem Rw.le (h : Rw W g cap q cur) : q.length ≤ cap := by
  have := congrArg List.length h.pre
  simp [h.len] at this
  omega
theorem Rw.rd (h : Rw W g cap q cur) : Rd W (fun _ => False) 74 (.slice (some ⟨g, 0, none⟩) q.length cap) q.length ((q.map (·.2)).map ptr) :=
  ⟨by simp, Or.inr ⟨g, cap, cur.toArray, rfl, h.at_, fun f => f, h.le, by rw [List.toList_toArray, h.pre]; simp [Function.comp_def]⟩⟩
theorem Rw.up {F : Nat → Prop} {W' : World} (h : Rw W g cap q cur) (hU : Up B F W W') (hF : ¬ F g) : Rw W' g cap q cur := ⟨hU.at h.at_ hF (fun c e => by cases e), h.len, h.pre⟩

/-- One more is stored behind the first ones. -/
theorem Rw.push (h : Rw W g cap q cur) (p : Ty × Nat) (hi : q.length < cap) : Rw (W.setCell ⟨g, q.length, none⟩ (ptr p.2)) g cap (q ++ [p]) (cur.set q.length (ptr p.2)) := by
  refine ⟨by simpa using setOf h.at_ q.length (ptr p.2), by simpa using h.len, ?_⟩
  rw [List.length_append, List.length_singleton, take_set _ _ _ (by rw [h.len]; exact hi), h.pre]
  simp

theorem setCells_block (b : Nat) : ∀ (vs : List Value) (o : Nat) (W : World) (c : Array Value) (t : TypeId), W.heap[b]? = some (.cells c t (0, 0)) →
    ∃ c', (W.setCells b o vs).heap[b]? = some (.cells c' t (0, 0)) ∧ c'.size = c.size ∧ (∀ i, i < o → c'[i]? = c[i]?) ∧ Fr (· = b) W (W.setCells b o vs)
  | [], o, W, c, t, h => ⟨c, h, rfl, fun _ _ => rfl, Fr.refl _ _⟩
  | v :: r, o, W, c, t, h => by
    obtain ⟨c', h1, h2, h3, h4⟩ := setCells_block b r (o + 1) (W.setCell ⟨b, o, none⟩ v) _ t (setOf h o v)
    refine ⟨c', h1, by simpa using h2, fun i hi => ?_, (Fr.setCell (F := (· = b)) (p := ⟨b, o, none⟩) (Fr.refl _ _) (Or.inr rfl) v).trans h4 (fun _ _ h => h)⟩
    rw [h3 i (by omega), Array.getElem?_setIfInBounds]
    simp [show ¬ o = i by omega]

theorem posB_neg {α : Type} (p : α → Bool) : ∀ (l : List α) (k : Nat), posB p l k = -1 ∨ ((k : Int) ≤ posB p l k ∧ posB p l k < (k : Int) + l.length)
  | [], k => Or.inl rfl
  | x :: r, k => by
    unfold posB
    split
    · exact Or.inr ⟨by omega, by simp; omega⟩
    · rcases posB_neg p r (k + 1) with h | h
      · exact Or.inl h
      · exact Or.inr ⟨by push_cast at h; omega, by simp; push_cast at h; omega⟩
theorem posB_none {α : Type} (p : α → Bool) : ∀ (l : List α) (k : Nat), posB p l k = -1 → l.filter (fun x => !p x) = l
  | [], k, _ => rfl
  | x :: r, k, h => by
    unfold posB at h
    by_cases e : p x = true
    · rw [if_pos e] at h; omega
    · rw [if_neg e] at h
      rw [List.filter_cons, posB_none p r (k + 1) h]
      simp [e]
theorem posB_some {α : Type} (p : α → Bool) : ∀ (l : List α) (k i : Nat), posB p l k = ((k + i : Nat) : Int) → i < l.length ∧ (l.take (i + 1)).filter (fun x => !p x) = l.take i
  | [], k, i, h => by simp [posB] at h; omega
  | x :: r, k, i, h => by
    unfold posB at h
    by_cases e : p x = true
    · rw [if_pos e] at h
      obtain rfl : i = 0 := by omega
      simp [e]
    · rw [if_neg e] at h
      cases i with
      | zero =>
        rcases posB_neg p r (k + 1) with h1 | h1
        · omega
        · push_cast at h1; omega
      | succ i =>
        obtain ⟨h1, h2⟩ := posB_some p r (k + 1) i (by rw [h]; congr 1; omega)
        refine ⟨by simpa using h1, ?_⟩
        rw [List.take_succ_cons, List.take_succ_cons, List.filter_cons, h2]
        simp [e]
end

section
variable {w W W1 : World} {N : Nat → Prop} {g cap j : Nat} {q : List (Ty × Nat)} {orig : List Value} {fl : List Ty} {C1 C2 m1 m2 : Nat} {kv1 : List (Int × Value)} {kv2 : List (ByteArray × Value)}

theorem keepQ_succ (h : j < q.length) : keepQ fl (q.take (j + 1)) = if goesT fl q[j].1 = true then keepQ fl (q.take j) else keepQ fl (q.take j) ++ [q[j]] := by
  rw [take_snoc _ j h]
  unfold keepQ
  rw [List.filter_append]
  by_cases e : goesT fl q[j].1 = true
  · rw [if_pos e]; simp [e]
  · rw [if_neg e]; simp [e]
theorem keepQ_le (q : List (Ty × Nat)) (j : Nat) : (keepQ fl (q.take j)).length ≤ j := Nat.le_trans (List.length_filter_le _ _) (List.length_take_le _ _)

theorem DSt.cell (h : DSt B w N g cap q orig fl C1 C2 m1 m2 kv1 kv2 j W) (ho : orig.take q.length = q.map fun p => ptr p.2) (hj : j < q.length) : W.cell? ⟨g, j, none⟩ = some (ptr q[j].2) := by
  obtain ⟨cur, h1, h2, _⟩ := h
  refine cellOf h1.at_ j _ ?_
  have e1 : (cur.drop j)[0]? = (orig.drop j)[0]? := by rw [h2]
  have e2 : (orig.take q.length)[j]? = some (ptr q[j].2) := by rw [ho]; simp [hj]
  rw [List.getElem?_take] at e2
  simp only [List.getElem?_drop, Nat.add_zero] at e1
  simp only [hj, if_true] at e2
  simpa [e2] using e1
theorem DSt.skip (h : DSt B w N g cap q orig fl C1 C2 m1 m2 kv1 kv2 j W) (hS : Same B W W1) (hj : j < q.length) (he : goesT fl q[j].1 = true) : DSt B w N g cap q orig fl C1 C2 m1 m2 kv1 kv2 (j + 1) W1 := by
  obtain ⟨cur, h1, h2, h3, h4, h5⟩ := h
  refine ⟨cur, by rw [keepQ_succ hj, if_pos he]; exact h1.up hS (fun f => f), ?_, h3.same hS, h4.up hS (fun _ f => f.elim) (fun _ _ f => f), h5.up hS ⟨fun f => f, fun f => f, fun f => f, fun f => f⟩⟩
  have := congrArg (List.drop 1) h2
  simpa [Nat.add_comm] using this
theorem DSt.keep (h : DSt B w N g cap q orig fl C1 C2 m1 m2 kv1 kv2 j W) (hS : Same B W W1) (hj : j < q.length) (he : goesT fl q[j].1 = false) (hcap : q.length ≤ cap) (hN : N g) (hgC : g ≠ C1 ∧ g ≠ C2 ∧ g ≠ m1 ∧ g ≠ m2) :
    DSt B w N g cap q orig fl C1 C2 m1 m2 kv1 kv2 (j + 1) (W1.setCell ⟨g, (keepQ fl (q.take j)).length, none⟩ (ptr q[j].2)) := by
  obtain ⟨cur, h1, h2, h3, h4, h5⟩ := h
  have hle := keepQ_le (fl := fl) q j
  have hF : Up B (· = g) W1 (W1.setCell ⟨g, (keepQ fl (q.take j)).length, none⟩ (ptr q[j].2)) := (Fr.setCell (F := (· = g)) (p := ⟨g, _, none⟩) (Fr.refl _ _) (Or.inr rfl) _).up
  refine ⟨_, by rw [keepQ_succ hj, if_neg (by rw [he]; decide)]; exact (h1.up hS (fun f => f)).push q[j] (by omega), ?_, (h3.same hS).trans hF (fun _ _ h => h), (h4.up hS (fun _ f => f.elim) (fun _ _ f => f)).up hF (fun i f => by rw [f]; exact hN) (fun _ _ f => f),
    (h5.up hS ⟨fun f => f, fun f => f, fun f => f, fun f => f⟩).up hF ⟨fun f => hgC.1 f.symm, fun f => hgC.2.1 f.symm, fun f => hgC.2.2.1 f.symm, fun f => hgC.2.2.2 f.symm⟩⟩
  rw [drop_set _ _ _ _ (by omega)]
  have := congrArg (List.drop 1) h2
  simpa [Nat.add_comm] using this
theorem Rw.cut {cur : List Value} (h : Rw W g cap q cur) (i : Nat) : Rw W g cap (q.take i) cur := by
  refine ⟨h.at_, h.len, ?_⟩
  rw [List.length_take, ← List.take_take, h.pre, List.map_take]
theorem Rw.room {cur : List Value} (h : Rw W g cap q cur) (i : Nat) (hi : i < cap) : (W.cell? ⟨g, i, none⟩).isSome = true ∧ W.frozen? ⟨g, i, none⟩ = false := by
  have hc : i < cur.length := by rw [h.len]; exact hi
  exact ⟨by rw [cellOf h.at_ i cur[i] (by simp [hc])]; rfl, freeOf h.at_ i⟩
end

def DelPost (w : World) (g cap : Nat) (q : List (Ty × Nat)) (fl : List Ty) (B : Nat) (e : Ending) (w' : World) : Prop :=
  ∃ cur, e = .returned (.slice (some ⟨g, 0, none⟩) (keepQ fl q).length cap) ∧ Rw w' g cap (keepQ fl q) cur ∧ Up B (· = g) w w'

set_option maxRecDepth 100000 in
set_option maxHeartbeats 1000000 in
theorem delete_goes (w : World) (N : Nat → Prop) (g n cap : Nat) (q : List (Ty × Nat)) (orig : List Value) (C1 C2 m1 m2 : Nat) (fl : List Ty) (kv1 : List (Int × Value)) (kv2 : List (ByteArray × Value)) (hlow : ∀ i, i < B → N i)
    (hr : Rw w g cap q orig) (hq : q.length = n) (hNg : N g) (hT : TQ w N q) (hA : ∀ p ∈ q, Ask p.1) (hC : CapOk w C1 C2 fl m1 m2 kv1 kv2) (hgC : g ≠ C1 ∧ g ≠ C2 ∧ g ≠ m1 ∧ g ≠ m2) (hn : n ≤ 1099511627776) (hcap : n ≤ cap) (hcap2 : cap ≤ 9223372036854775807) :
    Calls Tryz.prog 67 #[.slice (some ⟨g, 0, none⟩) n cap, goesV C1 C2] w (DelPost w g cap q fl B) := by
  have hI := index_goes w N (.slice (some ⟨g, 0, none⟩) n cap) n (q.map (·.1)) (q.map (·.2)) C1 C2 m1 m2 fl kv1 kv2 hlow (by have := hr.rd; rw [hq] at this; exact this) hT.tys (fun t ht => by obtain ⟨p, hp, rfl⟩ := List.mem_map.1 ht; exact hA p hp) hC hn
  have hpm : ∀ k, posB (goesT fl) (q.map (·.1)) k = posB (fun p : Ty × Nat => goesT fl p.1) q k := by
    intro k
    have : ∀ (q : List (Ty × Nat)) k, posB (goesT fl) (q.map (·.1)) k = posB (fun p : Ty × Nat => goesT fl p.1) q k := by
      intro q
      induction q with
      | nil => intro k; rfl
      | cons x r ih => intro k; simp only [List.map_cons, posB]; rw [ih]
    exact this q k
  rw [hpm 0] at hI
  clear hpm
  have HR := Lib.hid hr; clear hr
  have HT := Lib.hid hT; clear hT
  have HA := Lib.hid hA; clear hA
  have HC := Lib.hid hC; clear hC
  have HL := Lib.hid hlow; clear hlow
  have HG := Lib.hid hgC; clear hgC
  have HN := Lib.hid hNg; clear hNg
  rcases posB_neg (fun p : Ty × Nat => goesT fl p.1) q 0 with hneg | ⟨hge, hlt⟩
  · have hnone := posB_none _ q 0 hneg
    rw [hneg] at hI
    have HI := Lib.hid hI
    have HK : Hid (keepQ fl q = q) := Lib.hid hnone
    clear hI hnone hneg
    go_enter Tryz.func67, Tryz.ntmps67
    go_wp2_with (go_at_call 100; refine Calls.mono HI.out ?_; rintro e w1 ⟨rfl, hS⟩)
    go_ret
    refine ⟨orig, by rw [HK.out, hq]; rfl, by rw [HK.out]; exact HR.out.up hS (fun f => f), hS.mono (fun _ _ f => f.elim)⟩
  · obtain ⟨i0, hi0⟩ := Int.eq_ofNat_of_zero_le (show 0 ≤ posB (fun p : Ty × Nat => goesT fl p.1) q 0 by simpa using hge)
    obtain ⟨hil, hfl⟩ := posB_some _ q 0 i0 (by rw [hi0]; simp)
    rw [hi0] at hI
    have HI := Lib.hid hI
    have HF := Lib.hid hfl
    clear hI hfl hge hlt hi0
    go_enter Tryz.func67, Tryz.ntmps67
    go_wp2_with (go_at_call 100; refine Calls.mono HI.out ?_; rintro e w1 ⟨rfl, hS⟩; have HS := Lib.hid hS; clear hS)
    have hst : DSt B w N g cap q orig fl C1 C2 m1 m2 kv1 kv2 (i0 + 1) w1 :=
      ⟨orig, by unfold keepQ; rw [HF.out]; exact (HR.out.cut i0).up HS.out (fun f => f), rfl, HS.out.mono (fun _ _ f => f.elim), HT.out.up HS.out (fun _ f => f.elim) (fun _ _ f => f), HC.out.up HS.out ⟨fun f => f, fun f => f, fun f => f, fun f => f⟩⟩
    have hk0 : (keepQ fl (q.take (i0 + 1))).length = i0 := by unfold keepQ; rw [HF.out, List.length_take]; omega
    have HST := Lib.hid hst; clear hst
    have HK0 := Lib.hid hk0; clear hk0
    go_loopw [5, 6] (fun s5 s6 wr => ∃ j : Nat, s6 = .int .i64 (j : Int) ∧ i0 + 1 ≤ j ∧ j ≤ n ∧ s5 = .int .i64 ((keepQ fl (q.take j)).length : Int) ∧ DSt B w N g cap q orig fl C1 C2 m1 m2 kv1 kv2 j wr) (fun _ s6 _ => n - (intOf s6).toNat)
    case atStart => exact ⟨i0 + 1, by push_cast; rfl, Nat.le_refl _, by omega, by rw [HK0.out], HST.out⟩
    case round =>
      obtain ⟨j, rfl, hj0, hjn, rfl, hD⟩ := hrel
      clear HST HK0
      have hkj := keepQ_le (fl := fl) q j
      rcases Nat.lt_or_ge j n with hlt | hge
      · have hjq : j < q.length := by omega
        have hcell := hD.cell HR.out.pre hjq
        have hcp := HR.out.le
        obtain ⟨cur, hrw, _, _, htq, hcap5⟩ := id hD
        have hrc := hrw.room (keepQ fl (q.take j)).length (by omega)
        have HGO := Lib.hid (goes_any (B := B) wr N q[j].1 q[j].2 C1 C2 m1 m2 fl kv1 kv2 HL.out (htq _ (List.getElem_mem hjq)) (HA.out _ (List.getElem_mem hjq)) hcap5)
        have i0' : (0 : Int) ≤ (j : Int) := by omega
        have i1' : (j : Int) < (n : Int) := by omega
        cases he : goesT fl q[j].1 with
        | true =>
          rw [he] at HGO
          have hnx : ∀ W1, Same B wr W1 → DSt B w N g cap q orig fl C1 C2 m1 m2 kv1 kv2 (j + 1) W1 := fun W1 hS => hD.skip hS hjq he
          have hlen : (keepQ fl (q.take (j + 1))).length = (keepQ fl (q.take j)).length := by rw [keepQ_succ hjq, if_pos he]
          have HNX := Lib.hid hnx
          have HLEN := Lib.hid hlen
          clear hnx hlen he hD hrw htq hcap5 hrc
          generalize (keepQ fl (q.take j)).length = k at *
          generalize q[j].2 = pb at *
          go_wp2_with (go_at_call 65; refine Calls.mono HGO.out ?_; rintro e w2 ⟨rfl, hS2⟩)
          go_roundw
          case rel => (repeat apply Exists.intro); (refine ⟨⟨j + 1, ?_, ?_, ?_, ?_, HNX.out _ hS2⟩, rfl⟩); (push_cast; rfl); omega; omega; (rw [HLEN.out])
          case measure => simp [intOf]; omega
        | false =>
          rw [he] at HGO
          have hnx : ∀ W1, Same B wr W1 → DSt B w N g cap q orig fl C1 C2 m1 m2 kv1 kv2 (j + 1) (W1.setCell ⟨g, (keepQ fl (q.take j)).length, none⟩ (ptr q[j].2)) := fun W1 hS => hD.keep hS hjq he hcp HN.out HG.out
          have hroom : ∀ W1, Same B wr W1 → ∃ u, W1.cell? ⟨g, (keepQ fl (q.take j)).length, none⟩ = some u ∧ W1.frozen? ⟨g, (keepQ fl (q.take j)).length, none⟩ = false := fun W1 hS => by
            have := (hrw.up hS (fun f => f)).room (keepQ fl (q.take j)).length (by omega)
            obtain ⟨u, hu⟩ := Option.isSome_iff_exists.1 this.1
            exact ⟨u, hu, this.2⟩
          have hlen : (keepQ fl (q.take (j + 1))).length = (keepQ fl (q.take j)).length + 1 := by rw [keepQ_succ hjq, if_neg (by rw [he]; decide)]; simp
          have HNX := Lib.hid hnx
          have HLEN := Lib.hid hlen
          have HROOM := Lib.hid hroom
          clear hnx hlen hroom he hD hrw htq hcap5 hrc
          generalize (keepQ fl (q.take j)).length = k at *
          generalize q[j].2 = pb at *
          have k0 : (0 : Int) ≤ (k : Int) := by omega
          have k1 : (k : Int) < (n : Int) := by omega
          go_wp2_with (go_at_call 65; refine Calls.mono HGO.out ?_; rintro e w2 ⟨rfl, hS2⟩; obtain ⟨u, hu, hfu⟩ := HROOM.out _ hS2)
          go_roundw
          case rel => (repeat apply Exists.intro); (refine ⟨⟨j + 1, ?_, ?_, ?_, ?_, HNX.out _ hS2⟩, rfl⟩); (push_cast; rfl); omega; omega; (rw [HLEN.out]; push_cast; rfl)
          case measure => simp [intOf]; omega
      · have e : j = n := by omega
        subst e
        have hqt : q.take j = q := by rw [← hq, List.take_length]
        obtain ⟨cur, hrw, _, hU, htq, hcap5⟩ := hD
        rw [hqt] at hrw hkj
        rw [hqt]
        have hklt : (keepQ fl q).length < j := by
          have h1 : keepQ fl q = keepQ fl (q.take (i0 + 1)) ++ keepQ fl (q.drop (i0 + 1)) := by
            unfold keepQ; rw [← List.filter_append, List.take_append_drop]
          have h2 : (keepQ fl (q.drop (i0 + 1))).length ≤ q.length - (i0 + 1) := Nat.le_trans (List.length_filter_le _ _) (by simp)
          have h3 : (keepQ fl (q.take (i0 + 1))).length = i0 := by unfold keepQ; rw [HF.out, List.length_take]; omega
          rw [h1, List.length_append]
          omega
        have hcl : ∀ ty, (Builtin.clear_ #[55] ty #[.slice (some ⟨g, (keepQ fl q).length, none⟩) (j - (keepQ fl q).length) (cap - (keepQ fl q).length)]).run Tryz.prog wr = .ok (.tuple #[]) (wr.setCells g (keepQ fl q).length (List.replicate (j - (keepQ fl q).length) (.pointer none))) :=
          fun ty => Lib.run_clear_slice wr _ 74 ty (.pointer none) Tryz.underlying55 (fun w => by kernel_rfl) rfl rfl g _ _ _ (by omega) (fun t ht => (hrw.room _ (by omega)).1) (fun t ht => (hrw.room _ (by omega)).2)
        obtain ⟨c', b1, b2, b3, b4⟩ := setCells_block g (List.replicate (j - (keepQ fl q).length) (.pointer none)) (keepQ fl q).length wr _ _ hrw.at_
        have hfin : Rw (wr.setCells g (keepQ fl q).length (List.replicate (j - (keepQ fl q).length) (.pointer none))) g cap (keepQ fl q) c'.toList := by
          refine ⟨b1, by simpa [hrw.len] using b2, ?_⟩
          rw [← hrw.pre]
          apply List.ext_getElem?
          intro i
          rw [List.getElem?_take, List.getElem?_take]
          by_cases hi : i < (keepQ fl q).length
          · rw [if_pos hi, if_pos hi]
            have := b3 i hi
            simpa using this
          · rw [if_neg hi, if_neg hi]
        have hUf := hU.trans (b4.up (B := B)) (fun _ _ h => h)
        have HFIN := Lib.hid hfin
        have HUF := Lib.hid hUf
        clear hfin hUf b1 b2 b3 b4 hrw hU htq hcap5 hqt
        generalize hkq : (keepQ fl q).length = k at *
        have HKQ := Lib.hid hkq; clear hkq
        have k0 : (0 : Int) ≤ (k : Int) := by omega
        have k1 : (k : Int) ≤ (j : Int) := by omega
        have k2 : ¬ cap = k := by omega
        have k3 : ¬ k = cap := by omega
        have k4 : k ≤ j := by omega
        have k5 : k ≤ cap := by omega
        have k6 : (k : Int) ≤ (cap : Int) := by omega
        go_wp2
        go_ret
        exact ⟨_, by rw [HKQ.out]; rfl, HFIN.out, HUF.out⟩
end Go.Proofs.YtmheonaddidbjaaGreatDoor
