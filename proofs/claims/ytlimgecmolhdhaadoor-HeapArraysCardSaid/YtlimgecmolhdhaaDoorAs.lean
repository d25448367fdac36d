/- The heap of HeapArrays: one array. -/
import Derived.Test.YtlimgecmolhdhaaDoorAt
import Derived.Test.YtlimgecmolhdhaaDoorKs
set_option linter.unusedVariables false
set_option linter.unusedSimpArgs false
namespace Go.Proofs.YtlimgecmolhdhaaDoor
open Go.RowKit

abbrev arrV (b : Nat) : Value := .iface 51 (.pointer (some ⟨b, 0, none⟩))

theorem rows_ne {W : World} {e e2 size s2 n n2 : Nat} {v v2 : Value} {xs xs2 : List Value} (h : W.ownsRow 0 e size v n xs) (h2 : W.ownsRow 0 e2 s2 v2 n2 xs2) (hne : e ≠ e2) {g : Nat} (hg : v.ownBlock = some g) : v2.ownBlock ≠ some g := by
  rcases h.2 with ⟨h3, _⟩ | ⟨g', cap, cur, h3, _, hb, _⟩
  · rw [h3] at hg; simp [Value.ownBlock] at hg
  · rw [h3] at hg; simp [Value.ownBlock] at hg
    subst hg
    exact row_ne h2 hb hne

def cellsN (vs : List Int) : List Value := vs.flatMap fun v => [.int .i64 3, .int .i64 v, .string ⟨#[]⟩]

theorem cellsN_snoc (vs : List Int) (v : Int) : cellsN (vs ++ [v]) = cellsN vs ++ [.int .i64 3, .int .i64 v, .string ⟨#[]⟩] := by simp [cellsN]
theorem cellsN_at : ∀ (vs : List Int) (i : Nat) (h : i < vs.length), (cellsN vs)[i * 3]? = some (.int .i64 3) ∧ (cellsN vs)[i * 3 + 1]? = some (.int .i64 vs[i]) ∧ (cellsN vs)[i * 3 + 2]? = some (.string ⟨#[]⟩)
  | v :: r, 0, _ => ⟨rfl, rfl, rfl⟩
  | v :: r, i + 1, h => by
    have h' := cellsN_at r i (by simpa using h)
    have e : (i + 1) * 3 = i * 3 + 3 := by omega
    rw [e]
    simpa [cellsN] using h'

structure AS (w W : World) (H b n : Nat) (vs : List Int) (av tv : Value) : Prop where
  old : Old w W
  h0 : w.heap.size ≤ H
  hp : W.heap[H]? = some (.cells #[.int .i64 5000, .int .i64 ((n : Int) + 1), tv] 50 (0, 0))
  row : W.ownsRow 0 56 1 tv 1 [arrV b]
  b0 : w.heap.size ≤ b
  ab : W.heap[b]? = some (.cells #[av] 54 (0, 0))
  ar : W.ownsRow 0 35 3 av n (cellsN vs)
  g0 : ∀ g, av.ownBlock = some g → w.heap.size ≤ g
  len : vs.length = n

section
variable {w W W' : World} {H b n : Nat} {vs : List Int} {av tv : Value}

theorem AS.later (h : AS w W H b n vs av tv) (hO : Old W W') : AS w W' H b n vs av tv :=
  ⟨h.old.old hO, h.h0, hO.at h.hp (fun f => f), hO.row h.row (fun _ _ f => f), h.b0, hO.at h.ab (fun f => f), hO.row h.ar (fun _ _ f => f), h.g0, h.len⟩

theorem AS.thing (h : AS w W H b n vs av tv) (s : ByteArray) :
    Says W nowhere anyW 19 #[.pointer (some ⟨H, 0, none⟩), .agg #[.int .i64 5, .int .i64 0, .string s]] (arrV b) := by
  intro W' hO _
  have h' := h.later hO
  obtain ⟨g, c, y, rfl, hy, hc, hl⟩ := cell_row h'.row 0 (by omega)
  cases hy
  exact thing_at 0 s W' H _ _ g 1 c _ h'.hp (by omega) (by decide) hc hl

theorem AS.array (h : AS w W H b n vs av tv) (s : ByteArray) :
    Says W nowhere anyW 26 #[.pointer (some ⟨H, 0, none⟩), .agg #[.int .i64 5, .int .i64 0, .string s]] (.pointer (some ⟨b, 0, none⟩)) :=
  array_is W _ 5 0 s _ (h.thing s)

theorem AS.plain (h : AS w W H b n vs av tv) (s : ByteArray) :
    Says W nowhere anyW 22 #[.pointer (some ⟨H, 0, none⟩), .agg #[.int .i64 5, .int .i64 0, .string s]] (.agg #[.int .i64 5, .int .i64 0, .string ⟨#[]⟩]) := by
  intro W' hO _
  exact plain_ref_some _ 0 s W' 51 _ (fun W'' hO' => h.thing s W'' (hO.old hO') trivial)

theorem AS.push (h : AS w W H b n vs av tv) (hn : n < 4000) (m : Int) (h1 : -9007199254740991 < m) (h2 : m < 9007199254740991) :
    Calls Tryd.prog 14 #[.pointer (some ⟨H, 0, none⟩), .int .i64 0, .agg #[.int .i64 3, .int .i64 m, .string ⟨#[]⟩]] W fun e w' => e = .returned (.tuple #[.int .i64 ((n : Int) + 1), .int .i64 0]) ∧
      ∃ av', AS w w' H b (n + 1) (vs ++ [m]) av' tv ∧ Fr (fun i => i = H ∨ i = b ∨ av.ownBlock = some i) W w' ∧ ∀ g, av'.ownBlock = some g → av.ownBlock = some g ∨ W.heap.size ≤ g := by
  refine (push_num W H b 5000 ((n : Int) + 1) tv av 0 n (cellsN vs) m h.hp (by omega) (by omega) (by decide) (h.array ⟨#[]⟩) h.ab h.ar (by omega) h1 h2).mono ?_
  rintro e w' ⟨rfl, g, cap, p1, p2, p3, p4, p5⟩
  have hsz := h.old.size
  refine ⟨rfl, _, ⟨h.old.trans p5 (fun i hi e => ?_), h.h0, by rw [p1]; push_cast; rfl, p5.row h.row (fun g' hg e => ?_), h.b0, p2, by rw [cellsN_snoc]; exact p3, fun g' e => ?_, by simp [h.len]⟩, p5, fun g' e => by simp [Value.ownBlock] at e; subst e; exact p4⟩
  · have := h.h0
    have := h.b0
    rcases e with e | e | e
    · omega
    · omega
    · have := h.g0 i e; omega
  · rcases e with e | e | e
    · exact row_ne h.row h.hp (by decide) (by rw [hg, e])
    · exact row_ne h.row h.ab (by decide) (by rw [hg, e])
    · exact rows_ne h.row h.ar (by decide) hg e
  · simp [Value.ownBlock] at e
    subst e
    rcases p4 with e | e
    · exact h.g0 _ e
    · omega
end
end Go.Proofs.YtlimgecmolhdhaaDoor
