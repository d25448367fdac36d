/- slices.insertionSortCmpFunc of types, by their texts. -/
import Derived.Test.YtmheonaddidbjaaGreatDoorDg
import Derived.BigRegion
import Derived.IntWalk
import Derived.Deep.RegionHeld3
set_option linter.unusedVariables false
set_option linter.unusedSimpArgs false
namespace Go.Proofs.YtmheonaddidbjaaGreatDoor
open Go.RowKit

variable {B : Nat}

abbrev Pq := Ty × Nat
def ltQ (x y : Pq) : Bool := decide (cmpV (key x.1) (key y.1) < 0)

/-- The element at j goes down, not below a. -/
def down (a : Nat) : Nat → List Pq → List Pq
  | 0, q => q
  | j + 1, q =>
    match q[j + 1]?, q[j]? with
    | some x, some y => if a < j + 1 ∧ ltQ x y = true then down a j ((q.set (j + 1) y).set j x) else q
    | _, _ => q
theorem down_stop {a j : Nat} {q : List Pq} (h : j ≤ a) : down a j q = q := by
  cases j with
  | zero => rfl
  | succ j =>
    unfold down
    split
    · rw [if_neg (by omega)]
    · rfl
theorem down_succ {a j : Nat} {q : List Pq} (h : j + 1 < q.length) : down a (j + 1) q = if a < j + 1 ∧ ltQ q[j + 1] q[j] = true then down a j ((q.set (j + 1) q[j]).set j q[j + 1]) else q := by
  rw [down]
  rw [List.getElem?_eq_getElem h, List.getElem?_eq_getElem (show j < q.length by omega)]

def insN (a : Nat) : Nat → List Pq → List Pq
  | 0, q => q
  | m + 1, q => down a (a + 1 + m) (insN a m q)

theorem swap_perm (q : List Pq) (j : Nat) (h : j + 1 < q.length) : ((q.set (j + 1) q[j]).set j q[j + 1]).Perm q := by
  have e : (q.set (j + 1) q[j]).set j q[j + 1] = q.take j ++ (q[j + 1] :: q[j] :: q.drop (j + 2)) := by
    apply List.ext_getElem?
    intro i
    rw [List.getElem?_set, List.getElem?_set, List.getElem?_append]
    simp only [List.length_set, List.length_take]
    by_cases h1 : j = i
    · subst h1
      have : ¬ j < min j q.length := by omega
      simp [this, show j < q.length by omega, show j - min j q.length = 0 by omega]
    · by_cases h2 : j + 1 = i
      · subst h2
        have : ¬ j + 1 < min j q.length := by omega
        simp [h1, this, h, show j + 1 - min j q.length = 1 by omega]
      · rw [if_neg h1, if_neg h2]
        by_cases h3 : i < j
        · rw [if_pos (by omega), List.getElem?_take, if_pos h3]
        · rw [if_neg (by omega)]
          obtain ⟨k, rfl⟩ : ∃ k, i = j + 2 + k := ⟨i - (j + 2), by omega⟩
          rw [show j + 2 + k - min j q.length = k + 2 by omega]
          simp
  rw [e]
  have e2 : q = q.take j ++ (q[j] :: q[j + 1] :: q.drop (j + 2)) := by
    conv => lhs; rw [← List.take_append_drop j q]
    rw [List.drop_eq_getElem_cons (show j < q.length by omega), List.drop_eq_getElem_cons h]
  conv => rhs; rw [e2]
  exact List.Perm.append_left _ (List.Perm.swap _ _ _)
theorem down_perm (a : Nat) : ∀ (j : Nat) (q : List Pq), (down a j q).Perm q
  | 0, q => List.Perm.refl _
  | j + 1, q => by
    rcases Nat.lt_or_ge (j + 1) q.length with h | h
    · rw [down_succ h]
      split
      · exact (down_perm a j _).trans (swap_perm q j h)
      · exact List.Perm.refl _
    · rw [down]
      rw [List.getElem?_eq_none h]
theorem insN_perm (a : Nat) : ∀ (m : Nat) (q : List Pq), (insN a m q).Perm q
  | 0, q => List.Perm.refl _
  | m + 1, q => (down_perm a _ _).trans (insN_perm a m q)

/-- The sort has come so far. -/
structure SSt (B : Nat) (w : World) (N : Nat → Prop) (g cap C : Nat) (q : List Pq) (W : World) : Prop where
  rw_ : ∃ cur, Rw W g cap q cur
  up : Up B (· = g) w W
  tq : TQ W N q
  fine : ∀ p ∈ q, Fine p.1
  by_ : W.heap[C]? = some (.cells #[byV] 148 (0, 0))
  lt : ∀ i, N i → i < W.heap.size

section
variable {w W W1 : World} {N : Nat → Prop} {g cap C : Nat} {q : List Pq}

theorem SSt.same (h : SSt B w N g cap C q W) (hS : Same B W W1) : SSt B w N g cap C q W1 := by
  obtain ⟨cur, h1⟩ := h.rw_
  exact ⟨⟨cur, h1.up hS (fun f => f)⟩, h.up.same hS, h.tq.up hS (fun _ f => f.elim) (fun _ _ f => f), h.fine, hS.at h.by_ (fun f => f) (fun c e => by cases e), fun i hi => Nat.lt_of_lt_of_le (h.lt i hi) hS.size⟩

/-- Two neighbours are exchanged. -/
theorem SSt.swap (h : SSt B w N g cap C q W) (hN : N g) (hgC : g ≠ C) (j : Nat) (hj : j + 1 < q.length) :
    SSt B w N g cap C ((q.set (j + 1) q[j]).set j q[j + 1]) ((W.setCell ⟨g, j + 1, none⟩ (ptr q[j].2)).setCell ⟨g, j, none⟩ (ptr q[j + 1].2)) := by
  obtain ⟨cur, h1⟩ := h.rw_
  have hF : Fr (· = g) W ((W.setCell ⟨g, j + 1, none⟩ (ptr q[j].2)).setCell ⟨g, j, none⟩ (ptr q[j + 1].2)) :=
    Fr.setCell (F := (· = g)) (p := ⟨g, j, none⟩) (Fr.setCell (F := (· = g)) (p := ⟨g, j + 1, none⟩) (Fr.refl _ _) (Or.inr rfl) _) (Or.inr rfl) _
  have hU := hF.up (B := B)
  have hp := swap_perm q j hj
  refine ⟨⟨(cur.set (j + 1) (ptr q[j].2)).set j (ptr q[j + 1].2), ?_, by simpa using h1.len, ?_⟩, h.up.trans hU (fun _ _ h => h), ?_, fun p hp' => h.fine p (hp.mem_iff.1 hp'), hF.at h.by_ (fun e => hgC e.symm), fun i hi => Nat.lt_of_lt_of_le (h.lt i hi) hF.size⟩
  · have := setOf (setOf h1.at_ (j + 1) (ptr q[j].2)) j (ptr q[j + 1].2)
    simpa using this
  · have hle := h1.le
    have hl := h1.len
    apply List.ext_getElem?
    intro i
    have hpre : ∀ i (hi : i < q.length), cur[i]? = some (ptr q[i].2) := fun i hi => by
      have e : (cur.take q.length)[i]? = (q.map fun p => ptr p.2)[i]? := by rw [h1.pre]
      rw [List.getElem?_take, if_pos hi] at e
      simpa [hi] using e
    rw [List.getElem?_take]
    simp only [List.length_set, List.getElem?_map, List.getElem?_set]
    by_cases hi : i < q.length
    · rw [if_pos hi]
      by_cases e1 : j = i
      · subst e1; simp [show j < cur.length by omega, show j < q.length by omega]
      · by_cases e2 : j + 1 = i
        · subst e2; simp [e1, show j + 1 < cur.length by omega, hj]
        · simp [e1, e2, hpre i hi, hi]
    · rw [if_neg hi]
      simp [show ¬ j = i by omega, show ¬ j + 1 = i by omega, Nat.le_of_not_lt hi]
  · intro p hp'
    exact TY.up hU (fun i f => by rw [f]; exact hN) (fun _ _ f => f) _ _ (h.tq p (hp.mem_iff.1 hp'))
end

abbrev cmpF (C : Nat) : Value := .func (.func 97) #[] #[ptr C]

theorem SSt.cell {w W : World} {N : Nat → Prop} {g cap C : Nat} {q : List Pq} (h : SSt B w N g cap C q W) (i : Nat) (hi : i < q.length) : W.cell? ⟨g, i, none⟩ = some (ptr q[i].2) ∧ W.frozen? ⟨g, i, none⟩ = false := by
  obtain ⟨cur, h1⟩ := h.rw_
  exact ⟨h1.cell i hi, freeOf h1.at_ i⟩

set_option maxRecDepth 100000 in
set_option maxHeartbeats 2000000 in
theorem insertion_any (w W : World) (N : Nat → Prop) (g cap C n a b : Nat) (q : List Pq) (hlow : ∀ i, i < B → N i) (hN : N g) (hgC : g ≠ C) (h : SSt B w N g cap C q W) (hq : q.length = n) (hn : n ≤ 1099511627776) (hb : b ≤ n) (ha : a ≤ n) :
    Calls Tryz.prog 160 #[.slice (some ⟨g, 0, none⟩) n cap, .int .i64 (a : Int), .int .i64 (b : Int), cmpF C] W fun e w' => e = .returned (.tuple #[]) ∧ SSt B w N g cap C (insN a (b - (a + 1)) q) w' := by
  have H0 := Lib.hid h; clear h
  have HL := Lib.hid hlow; clear hlow
  go_enter Tryz.func160, Tryz.ntmps160
  go_wp2
  go_loopw [8] (fun s8 wr => ∃ m : Nat, s8 = .int .i64 ((a : Int) + 1 + (m : Int)) ∧ (m = 0 ∨ a + 1 + m ≤ b) ∧ SSt B w N g cap C (insN a m q) wr) (fun s8 _ => b - (intOf s8).toNat)
  case atStart => exact ⟨0, by simp, Or.inl rfl, H0.out⟩
  case round =>
    obtain ⟨m, rfl, hmb, hI⟩ := hrel
    clear H0
    have hlen : (insN a m q).length = n := by rw [(insN_perm a m q).length_eq, hq]
    rcases Nat.lt_or_ge (a + 1 + m) b with hlt | hge
    · have HI := Lib.hid hI; clear hI
      have hins : down a (a + 1 + m) (insN a m q) = insN a (m + 1) q := rfl
      have HINS := Lib.hid hins; clear hins
      generalize insN a m q = q1 at *
      have gl : decide ((a : Int) + 1 + (m : Int) < (b : Int)) = true := decide_eq_true (by omega)
      go_wp2
      go_loopw [9] (fun s9 wr => ∃ (j : Nat) (q2 : List Pq), s9 = .int .i64 (j : Int) ∧ a ≤ j ∧ j ≤ a + 1 + m ∧ down a j q2 = insN a (m + 1) q ∧ q2.length = n ∧ SSt B w N g cap C q2 wr) (fun s9 _ => (intOf s9).toNat)
      case atStart => exact ⟨a + 1 + m, q1, by push_cast; rfl, by omega, Nat.le_refl _, HINS.out, hlen, HI.out⟩
      case round =>
        obtain ⟨j, q2, rfl, haj, hjm, hd, hl2, hI⟩ := hrel
        clear HI
        rcases Nat.lt_or_ge a j with hja | hja
        · obtain ⟨jj, rfl⟩ : ∃ jj, j = jj + 1 := ⟨j - 1, by omega⟩
          have hj1 : jj + 1 < q2.length := by omega
          rw [down_succ hj1] at hd
          obtain ⟨k1, k2⟩ := hI.cell (jj + 1) hj1
          obtain ⟨k3, k4⟩ := hI.cell jj (by omega)
          have hlt2 : ltQ q2[jj + 1] q2[jj] = decide (cmpV (key q2[jj + 1].1) (key q2[jj].1) < 0) := rfl
          have hID := hI.same ((Fr.refl _ _).drew.up (B := B))
          have hC := cmp_any (B := B) wr.drew N q2[jj + 1].1 q2[jj].1 q2[jj + 1].2 q2[jj].2 C (hI.fine _ (List.getElem_mem _)) (hI.fine _ (List.getElem_mem _)) HL.out (hID.tq _ (List.getElem_mem _)) (hID.tq _ (List.getElem_mem _)) hID.lt hID.by_
          have HC := Lib.hid hC; clear hC
          have hnx : ∀ W1, Same B wr.drew W1 → SSt B w N g cap C q2 W1 := fun W1 hS => hID.same hS
          have hsw : ∀ W1, SSt B w N g cap C q2 W1 → SSt B w N g cap C ((q2.set (jj + 1) q2[jj]).set jj q2[jj + 1]) ((W1.setCell ⟨g, jj + 1, none⟩ (ptr q2[jj].2)).setCell ⟨g, jj, none⟩ (ptr q2[jj + 1].2)) := fun W1 h => h.swap hN hgC jj hj1
          have hce : ∀ W1, SSt B w N g cap C q2 W1 → W1.cell? ⟨g, jj + 1, none⟩ = some (ptr q2[jj + 1].2) ∧ W1.cell? ⟨g, jj, none⟩ = some (ptr q2[jj].2) ∧ W1.frozen? ⟨g, jj + 1, none⟩ = false ∧ W1.frozen? ⟨g, jj, none⟩ = false := fun W1 h =>
            ⟨(h.cell (jj + 1) hj1).1, (h.cell jj (by omega)).1, (h.cell (jj + 1) hj1).2, (h.cell jj (by omega)).2⟩
          have HNX := Lib.hid hnx
          have HSW := Lib.hid hsw
          have HCE := Lib.hid hce
          have hl3 : ((q2.set (jj + 1) q2[jj]).set jj q2[jj + 1]).length = n := by simpa using hl2
          have HL3 := Lib.hid hl3
          clear hnx hsw hce hID hl3 hI
          generalize (q2.set (jj + 1) q2[jj]).set jj q2[jj + 1] = q3 at *
          generalize cmpV (key q2[jj + 1].1) (key q2[jj].1) = c at *
          generalize q2[jj + 1].2 = pa at *
          generalize q2[jj].2 = pb at *
          have i0 : (0 : Int) ≤ (jj : Int) := by omega
          have i1 : (jj : Int) < (n : Int) := by omega
          have i2 : (jj : Int) + 1 < (n : Int) := by omega
          have i3 : (0 : Int) ≤ (jj : Int) + 1 := by omega
          have gd : decide ((a : Int) < (jj : Int) + 1) = true := decide_eq_true (by omega)
          have gd2 : decide (a < jj + 1) = true := decide_eq_true (by omega)
          have t1 : ((jj : Int) + 1).toNat = jj + 1 := by omega
          by_cases hc0 : c < 0
          · have hd1 : decide (c < 0) = true := decide_eq_true hc0
            rw [hlt2, hd1, if_pos ⟨hja, rfl⟩] at hd
            have HD := Lib.hid hd
            clear hd hlt2 hc0
            go_wp2_with fail
            have w1_ : IntKind.i64.wrap (jj : Int) = (jj : Int) := IntWalk.i64_in _ (by omega)
            have w2_ : IntKind.i64.wrap ((jj : Int) + 1 - 1) = (jj : Int) := by rw [show (jj : Int) + 1 - 1 = (jj : Int) by omega]; exact w1_
            go_region_held3 (fun w' => w'.cell? ⟨g, jj + 1, none⟩ = some (ptr pa) ∧ w'.cell? ⟨g, jj, none⟩ = some (ptr pb)) (go_keep) ((go_at_call 97; refine Calls.mono HC.out ?_; rintro e w1 ⟨rfl, hS1⟩; have hSS := Lib.hid (HNX.out _ hS1); obtain ⟨d1, d2, d3, d4⟩ := HCE.out _ hSS.out))
            all_goals (clear w1_ w2_)
            all_goals (go_wp2_with fail)
            have n1_ : ¬ jj + 1 = jj := by omega
            have n2_ : ¬ jj = jj + 1 := by omega
            go_region
            go_wp2
            go_roundw
            case rel => exact ⟨jj, q3, rfl, by omega, by omega, HD.out, HL3.out, (HSW.out _ hSS.out).same ((Fr.refl _ _).drew.up)⟩
            case measure => simp [intOf]
          · have hd1 : decide (c < 0) = false := decide_eq_false hc0
            rw [hlt2, hd1, if_neg (by simp)] at hd
            have HD := Lib.hid hd
            clear hd hlt2 hc0
            go_wp2_with fail
            have w1_ : IntKind.i64.wrap (jj : Int) = (jj : Int) := IntWalk.i64_in _ (by omega)
            have w2_ : IntKind.i64.wrap ((jj : Int) + 1 - 1) = (jj : Int) := by rw [show (jj : Int) + 1 - 1 = (jj : Int) by omega]; exact w1_
            go_region_held3 (fun w' => w'.cell? ⟨g, jj + 1, none⟩ = some (ptr pa) ∧ w'.cell? ⟨g, jj, none⟩ = some (ptr pb)) (go_keep) ((go_at_call 97; refine Calls.mono HC.out ?_; rintro e w1 ⟨rfl, hS1⟩; have hSS := Lib.hid (HNX.out _ hS1); obtain ⟨d1, d2, d3, d4⟩ := HCE.out _ hSS.out))
            all_goals (clear w1_ w2_)
            all_goals (go_wp2_with fail)
            go_roundw
            case rel => exact ⟨m + 1, by push_cast; rfl, Or.inr (by omega), by rw [← HD.out]; exact hSS.out⟩
            case measure => simp [intOf]; omega
        · have hja' : j = a := by omega
          subst hja'
          rw [down_stop (Nat.le_refl _)] at hd
          have HD := Lib.hid hd
          have HI := Lib.hid hI
          clear hd hI
          have gd : decide ((j : Int) < (j : Int)) = false := decide_eq_false (by omega)
          go_wp2_with fail
          go_region
          all_goals (go_wp2_with fail)
          go_roundw
          case rel => exact ⟨m + 1, by push_cast; rfl, Or.inr (by omega), by rw [← HD.out]; exact HI.out.same ((Fr.refl _ _).drew.up)⟩
          case measure => simp [intOf]; omega
    · have hm : b - (a + 1) = m := by omega
      have HI := Lib.hid hI; clear hI
      go_wp2
      go_end0
      rw [hm]
      exact ⟨rfl, HI.out⟩
end Go.Proofs.YtmheonaddidbjaaGreatDoor
