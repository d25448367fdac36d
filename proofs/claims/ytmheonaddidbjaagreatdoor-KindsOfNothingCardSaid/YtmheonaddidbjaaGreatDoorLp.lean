/- What lay lays, plain. -/
import Derived.Test.YtmheonaddidbjaaGreatDoorKy
set_option linter.unusedVariables false
set_option linter.unusedSimpArgs false
namespace Go.Proofs.YtmheonaddidbjaaGreatDoor

/-- Where a text stands among the types' texts. -/
def idx (s : Bs) : List Ty → Option Nat
  | [] => none
  | t :: r => if tx t = s then some 0 else (idx s r).map (· + 1)

theorem idx_none {s : Bs} : ∀ {l : List Ty}, idx s l = none ↔ s ∉ l.map tx
  | [] => by simp [idx]
  | t :: r => by
    unfold idx
    by_cases e : tx t = s
    · simp [e]
    · rw [if_neg e]
      simp only [Option.map_eq_none_iff, List.map_cons, List.mem_cons, not_or]
      rw [idx_none (l := r)]
      exact ⟨fun h => ⟨fun h1 => e h1.symm, h⟩, fun h => h.2⟩
theorem idx_some {s : Bs} : ∀ {l : List Ty} {i : Nat}, idx s l = some i → ∃ h : i < l.length, tx l[i] = s
  | [], _, h => by cases h
  | t :: r, i, h => by
    unfold idx at h
    by_cases e : tx t = s
    · rw [if_pos e] at h; cases h; exact ⟨by simp, e⟩
    · rw [if_neg e] at h
      obtain ⟨j, h1, rfl⟩ := Option.map_eq_some_iff.1 h
      obtain ⟨h2, h3⟩ := idx_some h1
      exact ⟨by simp; omega, by simpa using h3⟩
theorem idx_append {s : Bs} : ∀ {l m : List Ty}, idx s (l ++ m) = match idx s l with | some i => some i | none => (idx s m).map (· + l.length)
  | [], m => by simp [idx]
  | t :: r, m => by
    simp only [List.cons_append, idx]
    by_cases e : tx t = s
    · simp [e]
    · rw [if_neg e, if_neg e, idx_append (l := r)]
      cases idx s r with
      | some i => simp
      | none =>
        cases idx s m with
        | none => rfl
        | some j => simp; omega

mutual
/-- The types behind a lay. -/
def layP : List Ty → Ty → List Ty
  | ts, .mk k n nm ps ns ms => if (idx (tx (.mk k n nm ps ns ms)) ts).isSome then ts else layPs ts ps ++ [.mk k n nm ps ns ms]
def layPs : List Ty → List Ty → List Ty
  | ts, [] => ts
  | ts, t :: r => layPs (layP ts t) r
end

theorem layP_eq (ts : List Ty) (t : Ty) : layP ts t = if (idx (tx t) ts).isSome then ts else layPs ts t.parts ++ [t] := by
  cases t; rw [layP]; rfl
theorem layPs_snoc : ∀ (l : List Ty) (ts : List Ty) (t : Ty), layPs ts (l ++ [t]) = layP (layPs ts l) t
  | [], ts, t => by simp [layPs]
  | u :: r, ts, t => by simp only [List.cons_append, layPs]; exact layPs_snoc r _ t

mutual
theorem layP_pre : ∀ (t : Ty) (ts : List Ty), ∃ r, layP ts t = ts ++ r
  | .mk k n nm ps ns ms, ts => by
    rw [layP]
    split
    · exact ⟨[], by simp⟩
    · obtain ⟨r, h⟩ := layPs_pre ps ts
      exact ⟨r ++ [.mk k n nm ps ns ms], by rw [h]; simp⟩
theorem layPs_pre : ∀ (l : List Ty) (ts : List Ty), ∃ r, layPs ts l = ts ++ r
  | [], ts => ⟨[], by simp [layPs]⟩
  | t :: r, ts => by
    obtain ⟨a, h1⟩ := layP_pre t ts
    obtain ⟨b, h2⟩ := layPs_pre r (layP ts t)
    exact ⟨a ++ b, by rw [layPs, h2, h1]; simp⟩
end
theorem idx_pre {s : Bs} {l m : List Ty} {i : Nat} (h : idx s l = some i) : idx s (l ++ m) = some i := by rw [idx_append, h]
theorem layP_has (ts : List Ty) (t : Ty) : ∃ i, idx (tx t) (layP ts t) = some i := by
  rw [layP_eq]
  by_cases h : (idx (tx t) ts).isSome
  · rw [if_pos h]; exact Option.isSome_iff_exists.1 h
  · rw [if_neg h, idx_append]
    cases idx (tx t) (layPs ts t.parts) with
    | some i => exact ⟨i, rfl⟩
    | none => exact ⟨_, by simp [idx]; rfl⟩
theorem layPs_has : ∀ (l : List Ty) (ts : List Ty) (t : Ty), t ∈ l → ∃ i, idx (tx t) (layPs ts l) = some i
  | u :: r, ts, t, h => by
    rw [layPs]
    rcases List.mem_cons.1 h with rfl | h
    · obtain ⟨i, hi⟩ := layP_has ts t
      obtain ⟨m, hm⟩ := layPs_pre r (layP ts t)
      exact ⟨i, by rw [hm]; exact idx_pre hi⟩
    · exact layPs_has r _ t h
theorem layP_len (ts : List Ty) (t : Ty) : ts.length ≤ (layP ts t).length := by
  obtain ⟨r, h⟩ := layP_pre t ts; rw [h]; simp
theorem layPs_len (ts : List Ty) (l : List Ty) : ts.length ≤ (layPs ts l).length := by
  obtain ⟨r, h⟩ := layPs_pre l ts; rw [h]; simp
theorem layPs_take (l : List Ty) (ts : List Ty) (i : Nat) : (layPs ts (l.take i)).length ≤ (layPs ts l).length := by
  have : ∀ (a b ts : List Ty), (layPs ts a).length ≤ (layPs ts (a ++ b)).length := by
    intro a
    induction a with
    | nil => intro b ts; simpa [layPs] using layPs_len ts b
    | cons x a ih => intro b ts; simp only [List.cons_append, layPs]; exact ih b _
  have h := this (l.take i) (l.drop i) ts
  rwa [List.take_append_drop] at h

mutual
/-- Each part's text is shorter than the whole's. -/
def Sh : Ty → Prop
  | .mk k n nm ps ns ms => ps.length ≤ 1099511627776 ∧ Shs (tx (.mk k n nm ps ns ms)).length ps
def Shs : Nat → List Ty → Prop
  | _, [] => True
  | L, t :: r => Sh t ∧ (tx t).length < L ∧ Shs L r
end
mutual
theorem layP_new : ∀ (t : Ty) (L : Nat), Sh t → (tx t).length < L → ∀ (ts : List Ty), ∀ u ∈ layP ts t, u ∈ ts ∨ (tx u).length < L
  | .mk k n nm ps ns ms, L, h, hL, ts => by
    intro u hu
    rw [layP] at hu
    split at hu
    · exact Or.inl hu
    · rcases List.mem_append.1 hu with hu | hu
      · rcases layPs_new ps _ h.2 ts u hu with h1 | h1
        · exact Or.inl h1
        · exact Or.inr (Nat.lt_trans h1 hL)
      · simp at hu; subst hu; exact Or.inr hL
theorem layPs_new : ∀ (l : List Ty) (L : Nat), Shs L l → ∀ (ts : List Ty), ∀ u ∈ layPs ts l, u ∈ ts ∨ (tx u).length < L
  | [], L, h, ts => fun u hu => Or.inl (by simpa [layPs] using hu)
  | t :: r, L, h, ts => by
    intro u hu
    rw [layPs] at hu
    rcases layPs_new r L h.2.2 _ u hu with h1 | h1
    · exact layP_new t L h.1 h.2.1 ts u h1
    · exact Or.inr h1
end
theorem Sh.len {t : Ty} (h : Sh t) : t.parts.length ≤ 1099511627776 := by cases t; exact h.1
theorem lay_fresh {t : Ty} (h : Sh t) {ts : List Ty} (hn : idx (tx t) ts = none) : idx (tx t) (layPs ts t.parts) = none := by
  rw [idx_none] at hn ⊢
  intro hm
  obtain ⟨u, hu, e⟩ := List.mem_map.1 hm
  cases t with
  | mk k n nm ps ns ms =>
    rcases layPs_new ps _ h.2 ts u hu with h1 | h1
    · exact hn (List.mem_map.2 ⟨u, h1, e⟩)
    · rw [e] at h1; exact absurd h1 (Nat.lt_irrefl _)
end Go.Proofs.YtmheonaddidbjaaGreatDoor
