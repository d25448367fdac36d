/- slices.CompactFunc of types. -/
import Derived.Test.YtmheonaddidbjaaGreatDoorSo
import Derived.Deep.DeepCutAuto
set_option linter.unusedVariables false
set_option linter.unusedSimpArgs false
namespace Go.Proofs.YtmheonaddidbjaaGreatDoor
open Go.RowKit

variable {B : Nat}

abbrev eqF (C : Nat) : Value := .func (.func 99) #[] #[ptr C]
def eqQ (x y : Pq) : Bool := key x.1 == key y.1

/-- Those that are no twin of the one ahead. -/
def comp : Option Pq → List Pq → List Pq
  | _, [] => []
  | none, x :: r => x :: comp (some x) r
  | some p, x :: r => if eqQ x p = true then comp (some x) r else x :: comp (some x) r
def compQ (q : List Pq) : List Pq := comp none q

theorem comp_snoc : ∀ (l : List Pq) (p : Option Pq) (x : Pq), comp p (l ++ [x]) = comp p l ++ (match (l.getLast?).or p with | some y => if eqQ x y = true then [] else [x] | none => [x])
  | [], none, x => by simp [comp]
  | [], some p, x => by
    simp only [List.nil_append, comp, List.getLast?_nil, Option.none_or]
  | y :: r, none, x => by
    simp only [List.cons_append, comp]
    rw [comp_snoc r (some y) x]
    have : (r.getLast?).or (some y) = ((y :: r).getLast?).or none := by
      cases r with
      | nil => rfl
      | cons a b =>
        rw [List.getLast?_cons_cons, List.getLast?_eq_some_getLast (l := a :: b) (by simp)]
        rfl
    rw [this]
  | y :: r, some p, x => by
    simp only [List.cons_append, comp]
    rw [comp_snoc r (some y) x]
    have : (r.getLast?).or (some y) = ((y :: r).getLast?).or (some p) := by
      cases r with
      | nil => rfl
      | cons a b =>
        rw [List.getLast?_cons_cons, List.getLast?_eq_some_getLast (l := a :: b) (by simp)]
        rfl
    rw [this]
    split <;> rfl
theorem compQ_succ (q : List Pq) (j : Nat) (h : j + 1 < q.length) : compQ (q.take (j + 2)) = compQ (q.take (j + 1)) ++ (if eqQ q[j + 1] q[j] = true then [] else [q[j + 1]]) := by
  rw [take_snoc _ (j + 1) h]
  unfold compQ
  rw [comp_snoc]
  have : (q.take (j + 1)).getLast? = some q[j] := by
    rw [take_snoc _ j (by omega)]; exact List.getLast?_concat
  rw [this]
  rfl
theorem compQ_one (q : List Pq) (h : 0 < q.length) : compQ (q.take 1) = q.take 1 := by
  cases q with
  | nil => simp at h
  | cons x r => rfl
theorem comp_le : ∀ (l : List Pq) (p : Option Pq), (comp p l).length ≤ l.length
  | [], _ => by simp [comp]
  | x :: r, none => by have := comp_le r (some x); simp only [comp, List.length_cons]; omega
  | x :: r, some p => by
    have := comp_le r (some x)
    simp only [comp]
    split
    · simp only [List.length_cons]; omega
    · simp only [List.length_cons]; omega
theorem comp_sub : ∀ (l : List Pq) (p : Option Pq) (x : Pq), x ∈ comp p l → x ∈ l
  | [], _, x, h => by simp [comp] at h
  | y :: r, none, x, h => by
    simp only [comp] at h
    rcases List.mem_cons.1 h with h | h
    · simp [h]
    · simp [comp_sub r _ x h]
  | y :: r, some p, x, h => by
    simp only [comp] at h
    split at h
    · simp [comp_sub r _ x h]
    · rcases List.mem_cons.1 h with h | h
      · simp [h]
      · simp [comp_sub r _ x h]

/-- Behind j slots. -/
def CSt (B : Nat) (w : World) (N : Nat → Prop) (g cap C : Nat) (q : List Pq) (orig : List Value) (j : Nat) (W : World) : Prop :=
  ∃ cur, Rw W g cap (compQ (q.take j)) cur ∧ cur.drop (j - 1) = orig.drop (j - 1) ∧ Up B (· = g) w W ∧ TQ W N q ∧ W.heap[C]? = some (.cells #[byV] 148 (0, 0)) ∧ ∀ i, N i → i < W.heap.size

section
variable {w W W1 : World} {N : Nat → Prop} {g cap C j : Nat} {q : List Pq} {orig : List Value}

theorem CSt.cell (h : CSt B w N g cap C q orig j W) (ho : orig.take q.length = q.map fun p => ptr p.2) {i : Nat} (hi : j - 1 ≤ i) (hiq : i < q.length) : W.cell? ⟨g, i, none⟩ = some (ptr q[i].2) := by
  obtain ⟨cur, h1, h2, _⟩ := h
  refine cellOf h1.at_ i _ ?_
  obtain ⟨d, rfl⟩ : ∃ d, i = j - 1 + d := ⟨i - (j - 1), by omega⟩
  have e1 : (cur.drop (j - 1))[d]? = (orig.drop (j - 1))[d]? := by rw [h2]
  have e2 : (orig.take q.length)[j - 1 + d]? = some (ptr q[j - 1 + d].2) := by rw [ho]; simp [hiq]
  rw [List.getElem?_take] at e2
  simp only [List.getElem?_drop] at e1
  simp only [hiq, if_true] at e2
  simpa [e2] using e1
theorem CSt.same (h : CSt B w N g cap C q orig j W) (hS : Same B W W1) : CSt B w N g cap C q orig j W1 := by
  obtain ⟨cur, h1, h2, h3, h4, h5, h6⟩ := h
  exact ⟨cur, h1.up hS (fun f => f), h2, h3.same hS, h4.up hS (fun _ f => f.elim) (fun _ _ f => f), hS.at h5 (fun f => f) (fun c e => by cases e), fun i hi => Nat.lt_of_lt_of_le (h6 i hi) hS.size⟩
theorem CSt.skip (h : CSt B w N g cap C q orig (j + 1) W) (hj : j + 1 < q.length) (he : eqQ q[j + 1] q[j] = true) : CSt B w N g cap C q orig (j + 2) W := by
  obtain ⟨cur, h1, h2, h3, h4, h5, h6⟩ := h
  refine ⟨cur, by rw [compQ_succ q j hj, if_pos he, List.append_nil]; exact h1, ?_, h3, h4, h5, h6⟩
  have := congrArg (List.drop 1) h2
  simp only [Nat.add_sub_cancel, List.drop_drop] at this
  exact this
theorem CSt.keep (h : CSt B w N g cap C q orig (j + 1) W) (hj : j + 1 < q.length) (he : eqQ q[j + 1] q[j] = false) (hlt : (compQ (q.take (j + 1))).length ≤ j) (hcap : q.length ≤ cap) (hN : N g) (hgC : g ≠ C) :
    CSt B w N g cap C q orig (j + 2) (W.setCell ⟨g, (compQ (q.take (j + 1))).length, none⟩ (ptr q[j + 1].2)) := by
  obtain ⟨cur, h1, h2, h3, h4, h5, h6⟩ := h
  have hF : Fr (· = g) W (W.setCell ⟨g, (compQ (q.take (j + 1))).length, none⟩ (ptr q[j + 1].2)) := Fr.setCell (F := (· = g)) (p := ⟨g, _, none⟩) (Fr.refl _ _) (Or.inr rfl) _
  refine ⟨_, by rw [compQ_succ q j hj, if_neg (by rw [he]; decide)]; exact h1.push q[j + 1] (by omega), ?_, h3.trans (hF.up (B := B)) (fun _ _ h => h), h4.up (hF.up (B := B)) (fun i f => by rw [f]; exact hN) (fun _ _ f => f), hF.at h5 (fun e => hgC e.symm), fun i hi => Nat.lt_of_lt_of_le (h6 i hi) hF.size⟩
  rw [drop_set _ _ _ _ (by omega)]
  have := congrArg (List.drop 1) h2
  simp only [Nat.add_sub_cancel, List.drop_drop] at this
  exact this
theorem CSt.start {cur : List Value} (h : SSt B w N g cap C q W) (hr : Rw W g cap q cur) (j : Nat) (hc : compQ (q.take j) = q.take j) : CSt B w N g cap C q cur j W :=
  ⟨cur, by rw [hc]; exact hr.cut j, rfl, h.up, h.tq, h.by_, h.lt⟩
end
end Go.Proofs.YtmheonaddidbjaaGreatDoor
