/- What a shower says of an object. -/
import Derived.Test.YtlimgecmolhdhaaGreatDoorVn
import Derived.Test.YtlimgecmolhdhaaGreatDoorPt
import Derived.Deep.DeepCutAuto
import Derived.Shelf.Abstract
import Derived.Sort.CutIn
set_option linter.unusedVariables false
set_option linter.unusedSimpArgs false
namespace Go.Proofs.YtlimgecmolhdhaaGreatDoor
open Go.RowKit
attribute [local go_sem] Oper.semAt_some

theorem brace0 : ((⟨#[123, 125]⟩ : ByteArray).extract 0 1) = ⟨#[123]⟩ := by kernel_rfl
theorem brace1 : ((⟨#[123, 125]⟩ : ByteArray).extract 1 2) = ⟨#[125]⟩ := by kernel_rfl
theorem brace0_size : ((⟨#[123, 125]⟩ : ByteArray).extract 0 1).size ≤ 9223372036854775807 := by rw [brace0]; show 1 ≤ 9223372036854775807; omega
theorem brace1_size : ((⟨#[123, 125]⟩ : ByteArray).extract 1 2).size ≤ 9223372036854775807 := by rw [brace1]; show 1 ≤ 9223372036854775807; omega

/-- The text of the first k members. -/
def preT (slots : List (ByteArray × AV)) (Ts : Nat → List UInt8) : Nat → List UInt8
  | 0 => []
  | k + 1 => preT slots Ts k ++ (if k = 0 then [] else [44, 32]) ++ ((slots[k]?).map (fun p => p.1.data.toList)).getD [] ++ [58, 32] ++ Ts k

theorem Go2.putObj {sb : Nat} {v u : Value} {w W : World} (h : Go2 sb v u w W) {D : Nat} (hD : w.heap.size ≤ D) (o : Obj) : Go2 sb v u w (W.putObj D o) :=
  ⟨h.loc, h.fr.trans (Fr.putObj W D o) (fun i hi e => by omega)⟩
theorem Go2.later {sb : Nat} {v u : Value} {w W W' : World} {G : Nat → Prop} (h : Go2 sb v u w W) (hf : Fr G W W') (hG : ∀ i, G i → w.heap.size ≤ i) : Go2 sb v u w W' :=
  ⟨h.loc, h.fr.trans hf (fun i hi e => by have := hG i e; omega)⟩
theorem Shw.kept {F : Nat → Prop} {w w' : World} {sb : Nat} {hp v : Value} {l : List UInt8} (h : Shw w sb hp v l) (k : Fr F w w') (h1 : ¬ F sb) (h2 : ∀ g, v.ownBlock = some g → ¬ F g) : Shw w' sb hp v l := by
  obtain ⟨a, h⟩ := h
  refine ⟨a, h.kept k h1 (fun u g hu hg => ?_)⟩
  simp at hu
  subst hu
  exact h2 g hg

def objT (slots : List (ByteArray × AV)) (Ts : Nat → List UInt8) : List UInt8 := [123] ++ preT slots Ts slots.length ++ [125]

theorem Shw.row {w : World} {sb : Nat} {hp v : Value} {l : List UInt8} (h : Shw w sb hp v l) : ∀ g, v.ownBlock = some g → ∃ cur, w.heap[g]? = some (.cells cur 5 (0, 0)) := by
  obtain ⟨a, h1, h2, h3, h4, v', h5, h6, h7⟩ := h
  simp at h5; subst h5
  intro g hg
  rcases h6.2 with ⟨rfl, _⟩ | ⟨g', cap, cur, rfl, _, hgg, _⟩
  · simp [Value.ownBlock] at hg
  · simp [Value.ownBlock] at hg; subst hg; exact ⟨cur, hgg⟩

/-- What holds ahead of round k. -/
def LI (w : World) (sb : Nat) (hp v : Value) (l : List UInt8) (slots : List (ByteArray × AV)) (Ts : Nat → List UInt8) (ok : Bool) (B9 B3 B5 : Nat) (deep : Int) (k : Nat) (G : Nat → Prop) (W : World) : Prop :=
  ∃ u l', (∀ b, G b ↔ b = sb ∨ u.ownBlock = some b ∨ b = B9) ∧ Shw W sb hp u l' ∧ l'.length ≤ 65536 ∧ (ok = true → l' = l ++ [123] ++ preT slots Ts k) ∧ Go2 sb v u w W ∧
    W.heap[B9]? = some (.cells #[.bool ok] 4 (0, 0)) ∧ W.heap[B3]? = some (.cells #[.pointer (some ⟨sb, 0, none⟩)] 116 (0, 0)) ∧ W.heap[B5]? = some (.cells #[.int .i64 deep] 3 (0, 0))
/-- What holds where a round has left the loop. -/
def LX (w : World) (sb : Nat) (hp v : Value) (l T : List UInt8) (B9 B3 : Nat) (c : Code) (G : Nat → Prop) (W : World) : Prop :=
  c = .exit 1 ∧ 65536 < l.length + T.length ∧ ∃ u l', (∀ b, G b ↔ b = sb ∨ u.ownBlock = some b ∨ b = B9) ∧ Shw W sb hp u l' ∧ l'.length ≤ 65536 ∧ Go2 sb v u w W ∧ W.heap[B9]? = some (.cells #[.bool false] 4 (0, 0)) ∧
    W.heap[B3]? = some (.cells #[.pointer (some ⟨sb, 0, none⟩)] 116 (0, 0))

theorem LI.lt {w : World} {sb : Nat} {hp v : Value} {l : List UInt8} {slots : List (ByteArray × AV)} {Ts : Nat → List UInt8} {ok : Bool} {B9 B3 B5 : Nat} {deep : Int} {k : Nat} {G : Nat → Prop} {W : World}
    (h : LI w sb hp v l slots Ts ok B9 B3 B5 deep k G W) : ∀ b, G b → b < W.heap.size := by
  obtain ⟨u, l', hG, h1, _, _, _, h2, _⟩ := h
  intro b hb
  rcases (hG b).1 hb with rfl | h | rfl
  · exact h1.lt
  · exact h1.ltv b h
  · exact ltOf h2
theorem LX.lt {w : World} {sb : Nat} {hp v : Value} {l T : List UInt8} {B9 B3 : Nat} {c : Code} {G : Nat → Prop} {W : World}
    (h : LX w sb hp v l T B9 B3 c G W) : ∀ b, G b → b < W.heap.size := by
  obtain ⟨_, _, u, l', hG, h1, _, _, h2, _⟩ := h
  intro b hb
  rcases (hG b).1 hb with rfl | h | rfl
  · exact h1.lt
  · exact h1.ltv b h
  · exact ltOf h2
theorem LI.keep {w : World} {sb : Nat} {hp v : Value} {l : List UInt8} {slots : List (ByteArray × AV)} {Ts : Nat → List UInt8} {ok : Bool} {B9 B3 B5 : Nat} {deep : Int} {k : Nat} {G : Nat → Prop} {W W' : World} {n : Nat}
    (h : LI w sb hp v l slots Ts ok B9 B3 B5 deep k G W) (hf : Fr (fun b => n ≤ b ∧ ¬ G b) W W') (hw : w.heap.size ≤ n) (h3 : B3 < n) (h5 : B5 < n) : LI w sb hp v l slots Ts ok B9 B3 B5 deep k G W' := by
  obtain ⟨u, l', hG, h1, h2, h4, h6, h7, h8, h9⟩ := h
  exact ⟨u, l', hG, h1.kept hf (fun e => e.2 ((hG _).2 (Or.inl rfl))) (fun g hg e => e.2 ((hG _).2 (Or.inr (Or.inl hg)))), h2, h4, h6.later hf (fun i e => by omega),
    hf.at h7 (fun e => e.2 ((hG _).2 (Or.inr (Or.inr rfl)))), hf.at h8 (fun e => by omega), hf.at h9 (fun e => by omega)⟩
theorem LX.keep {w : World} {sb : Nat} {hp v : Value} {l T : List UInt8} {B9 B3 : Nat} {c : Code} {G : Nat → Prop} {W W' : World} {n : Nat}
    (h : LX w sb hp v l T B9 B3 c G W) (hf : Fr (fun b => n ≤ b ∧ ¬ G b) W W') (hw : w.heap.size ≤ n) (h3 : B3 < n) : LX w sb hp v l T B9 B3 c G W' := by
  obtain ⟨e1, e2, u, l', hG, h1, h2, h6, h7, h8⟩ := h
  exact ⟨e1, e2, u, l', hG, h1.kept hf (fun e => e.2 ((hG _).2 (Or.inl rfl))) (fun g hg e => e.2 ((hG _).2 (Or.inr (Or.inl hg)))), h2, h6.later hf (fun i e => by omega),
    hf.at h7 (fun e => e.2 ((hG _).2 (Or.inr (Or.inr rfl)))), hf.at h8 (fun e => by omega)⟩

theorem LI_start {w wq w6 W7 : World} {sb : Nat} {hp v : Value} {l T0 : List UInt8} {slots : List (ByteArray × AV)} {Ts : Nat → List UInt8} {ok : Bool} {B9 B3 B5 : Nat} {deep : Int}
    (hA : Old w wq) (hS : Shw w sb hp v l) (hq : SQ wq sb hp v l T0 ok w6) (hT : T0 = [123]) (hF : Fr (fun b => b = B9) w6 W7) (hB : W7.heap[B9]? = some (.cells #[.bool ok] 4 (0, 0))) (h9 : w.heap.size ≤ B9)
    (hu : ∀ cur, w6.heap[B9]? ≠ some (.cells cur 5 (0, 0))) (b3 : wq.heap[B3]? = some (.cells #[.pointer (some ⟨sb, 0, none⟩)] 116 (0, 0))) (n3 : B3 ≠ B9) (m3 : w.heap.size ≤ B3)
    (b5 : wq.heap[B5]? = some (.cells #[.int .i64 deep] 3 (0, 0))) (n5 : B5 ≠ B9) (m5 : w.heap.size ≤ B5) :
    ∃ G, (∀ b, G b → b = sb ∨ b = B9 ∨ v.ownBlock = some b ∨ (∃ cur, W7.heap[b]? = some (.cells cur 5 (0, 0)) ∧ w.heap.size ≤ b)) ∧ LI w sb hp v l slots Ts ok B9 B3 B5 deep 0 G W7 := by
  have hsb := hS.lt
  have b36 := hq.at b3 (by omega) (fun e => by have := hS.ltv _ e; omega)
  have b56 := hq.at b5 (by omega) (fun e => by have := hS.ltv _ e; omega)
  obtain ⟨_, l', h1, h2, u, h3, h4⟩ := hq
  subst hT
  have hn9 : ∀ g, u.ownBlock = some g → g ≠ B9 := fun g hg e => by
    subst e
    obtain ⟨cur, hc⟩ := h3.row g hg
    exact hu cur hc
  have h7 := h3.kept hF (by omega) hn9
  refine ⟨fun b => b = sb ∨ u.ownBlock = some b ∨ b = B9, ?_, u, l', fun b => Iff.rfl, h7, h1, fun e => by rw [h2 e]; simp [preT], ?_, hB, hF.at b36 n3, hF.at b56 n5⟩
  · rintro b (h | h | h)
    · exact Or.inl h
    · rcases h4.loc b h with h' | h'
      · right; right; right
        obtain ⟨cur, hc⟩ := h7.row b h
        exact ⟨cur, hc, by have := hA.size; omega⟩
      · exact Or.inr (Or.inr (Or.inl h'))
    · exact Or.inr (Or.inl h)
  · exact ((Go2.ofOld hA).trans h4).later hF (fun i e => by omega)

theorem zip2 (t : Array Value) (p q : Tmp) (x y : Value) : (#[p, q].zip #[x, y]).foldl (fun t (p, v) => t.setIfInBounds p v) t = (t.setIfInBounds p x).setIfInBounds q y := by simp

theorem SQ.refl {w : World} {sb : Nat} {hp v : Value} {l : List UInt8} (h : Shw w sb hp v l) (hl : l.length ≤ 65536) : SQ w sb hp v l [] true w :=
  ⟨by simp [hl], l, hl, fun _ => by simp, v, h, Go2.refl _ _ _⟩
/-- Two sayings, one behind the other. -/
theorem SQ.append {a b c : World} {sb : Nat} {hp v v1 : Value} {l l1 T1 T2 : List UInt8} {ok : Bool} (e1 : l1 = l ++ T1) (h1 : Go2 sb v v1 a b) (h2 : SQ b sb hp v1 l1 T2 ok c) : SQ a sb hp v l (T1 ++ T2) ok c := by
  subst e1
  obtain ⟨h3, l', h4, h5, v', h6, h7⟩ := h2
  exact ⟨by rw [h3]; simp only [List.length_append, Nat.add_assoc], l', h4, fun e => by rw [h5 e, List.append_assoc], v', h6, h1.trans h7⟩

theorem preT_le (slots : List (ByteArray × AV)) (Ts : Nat → List UInt8) (k : Nat) : ∀ n, k ≤ n → (preT slots Ts k).length ≤ (preT slots Ts n).length
  | 0, h => by have : k = 0 := by omega
               subst this; exact Nat.le_refl _
  | n + 1, h => by
    rcases Nat.lt_or_ge n k with h1 | h1
    · have : k = n + 1 := by omega
      subst this; exact Nat.le_refl _
    · have := preT_le slots Ts k n h1
      simp only [preT, List.length_append]
      omega

/-- A round in which something has not been said. -/
theorem round_out {w W W2 W1 : World} {sb : Nat} {hp v u : Value} {l l' T : List UInt8} {slots : List (ByteArray × AV)} {Ts : Nat → List UInt8} {ok : Bool} {B9 B3 : Nat} {i : Nat} {G : Nat → Prop} {x9 : Value}
    (hG : ∀ b, G b ↔ b = sb ∨ u.ownBlock = some b ∨ b = B9) (hT : ok = true → l' = l ++ [123] ++ preT slots Ts i) (hok : ok = decide (l.length + 1 ≤ 65536)) (hgo : Go2 sb v u w W2) (hW : W.heap.size ≤ W2.heap.size)
    (b9 : W2.heap[B9]? = some (.cells #[x9] 4 (0, 0))) (b3 : W2.heap[B3]? = some (.cells #[.pointer (some ⟨sb, 0, none⟩)] 116 (0, 0))) (n93 : B3 ≠ B9) (n9s : B9 ≠ sb) (n3s : B3 ≠ sb)
    (h9 : w.heap.size ≤ B9) (hu : ∀ g, u.ownBlock = some g → ∃ cur, W2.heap[g]? = some (.cells cur 5 (0, 0)))
    (hq : SQ W2 sb hp u l' T false W1) (hi : i < slots.length) (hTl : T.length ≤ (preT slots Ts (i + 1)).length - (preT slots Ts i).length) :
    (∃ G', LX w sb hp v l (objT slots Ts) B9 B3 (.exit 1) G' (W1.setCell ⟨B9, 0, none⟩ (.bool false)) ∧ ∀ b, G' b → G b ∨ W.heap.size ≤ b) ∧ Fr (fun b => G b ∨ W.heap.size ≤ b) W2 (W1.setCell ⟨B9, 0, none⟩ (.bool false)) := by
  have u9 : u.ownBlock ≠ some B9 := fun e => by obtain ⟨cur, hc⟩ := hu _ e; rw [b9] at hc; cases hc
  have u3 : u.ownBlock ≠ some B3 := fun e => by obtain ⟨cur, hc⟩ := hu _ e; rw [b3] at hc; cases hc
  have b91 := hq.at b9 n9s u9
  have b31 := hq.at b3 n3s u3
  have lt9 := ltOf b9
  obtain ⟨hd, l1, hl1, _, u1, hS1, hg1⟩ := hq
  have hlen := of_decide_eq_false hd.symm
  have u19 : ∀ g, u1.ownBlock = some g → g ≠ B9 := fun g hg e => by subst e; obtain ⟨cur, hc⟩ := hS1.row g hg; rw [b91] at hc; cases hc
  have hF : Fr (fun b => b = B9) W1 (W1.setCell ⟨B9, 0, none⟩ (.bool false)) := Fr.setCell (Fr.refl (fun b => b = B9) W1) (Or.inr rfl) _
  have h1 := preT_le slots Ts (i + 1) slots.length hi
  have h2 : (objT slots Ts).length = 1 + (preT slots Ts slots.length).length + 1 := by simp only [objT, List.length_append, List.length_singleton]
  have h3 := preT_le slots Ts i (i + 1) (Nat.le_succ _)
  refine ⟨⟨fun b => b = sb ∨ u1.ownBlock = some b ∨ b = B9, ⟨rfl, ?_, u1, l1, fun b => Iff.rfl, hS1.kept hF (fun e => n9s e.symm) u19, hl1, (hgo.trans hg1).later hF (fun i e => by omega), setOf b91 0 _, hF.at b31 n93⟩, ?_⟩, ?_⟩
  · cases ok with
    | false => have := of_decide_eq_false hok.symm; omega
    | true =>
      have e := congrArg List.length (hT rfl)
      simp only [List.length_append, List.length_singleton] at e
      omega
  · rintro b (h | h | h)
    · exact Or.inl ((hG b).2 (Or.inl h))
    · rcases hg1.loc b h with h' | h'
      · exact Or.inr (by omega)
      · exact Or.inl ((hG b).2 (Or.inr (Or.inl h')))
    · exact Or.inl ((hG b).2 (Or.inr (Or.inr h)))
  · exact (hg1.fr.mono (fun b hb e => Or.inl ((hG b).2 (e.elim Or.inl (fun e => Or.inr (Or.inl e)))))).trans hF (fun b hb e => Or.inl ((hG b).2 (Or.inr (Or.inr e))))

/-- A round in which all has been said. -/
theorem round_on {w W W2 W1 : World} {sb : Nat} {hp v u : Value} {l l' T : List UInt8} {slots : List (ByteArray × AV)} {Ts : Nat → List UInt8} {ok : Bool} {B9 B3 B5 : Nat} {deep : Int} {i : Nat} {G : Nat → Prop}
    (hG : ∀ b, G b ↔ b = sb ∨ u.ownBlock = some b ∨ b = B9) (hT : ok = true → l' = l ++ [123] ++ preT slots Ts i) (hgo : Go2 sb v u w W2) (hW : W.heap.size ≤ W2.heap.size)
    (b9 : W2.heap[B9]? = some (.cells #[.bool ok] 4 (0, 0))) (b3 : W2.heap[B3]? = some (.cells #[.pointer (some ⟨sb, 0, none⟩)] 116 (0, 0))) (b5 : W2.heap[B5]? = some (.cells #[.int .i64 deep] 3 (0, 0))) (n9s : B9 ≠ sb) (n3s : B3 ≠ sb) (n5s : B5 ≠ sb)
    (hu : ∀ g, u.ownBlock = some g → ∃ cur, W2.heap[g]? = some (.cells cur 5 (0, 0)))
    (hq : SQ W2 sb hp u l' T true W1) (hTe : preT slots Ts (i + 1) = preT slots Ts i ++ T) :
    (∃ G', LI w sb hp v l slots Ts ok B9 B3 B5 deep (i + 1) G' W1 ∧ ∀ b, G' b → G b ∨ W.heap.size ≤ b) ∧ Fr (fun b => G b ∨ W.heap.size ≤ b) W2 W1 := by
  have nu : ∀ {B x t}, W2.heap[B]? = some (.cells x t (0, 0)) → t ≠ 5 → u.ownBlock ≠ some B := fun hb ht e => by obtain ⟨cur, hc⟩ := hu _ e; rw [hb] at hc; simp only [Option.some.injEq, Obj.cells.injEq] at hc; exact ht hc.2.1
  have b91 := hq.at b9 n9s (nu b9 (by decide))
  have b31 := hq.at b3 n3s (nu b3 (by decide))
  have b51 := hq.at b5 n5s (nu b5 (by decide))
  obtain ⟨hd, l1, hl1, hl1e, u1, hS1, hg1⟩ := hq
  refine ⟨⟨fun b => b = sb ∨ u1.ownBlock = some b ∨ b = B9, ⟨u1, l1, fun b => Iff.rfl, hS1, hl1, fun e => by rw [hl1e rfl, hT e, hTe]; simp only [List.append_assoc], hgo.trans hg1, b91, b31, b51⟩, ?_⟩, ?_⟩
  · rintro b (h | h | h)
    · exact Or.inl ((hG b).2 (Or.inl h))
    · rcases hg1.loc b h with h' | h'
      · exact Or.inr (by omega)
      · exact Or.inl ((hG b).2 (Or.inr (Or.inl h')))
    · exact Or.inl ((hG b).2 (Or.inr (Or.inr h)))
  · exact hg1.fr.mono (fun b hb e => Or.inl ((hG b).2 (e.elim Or.inl (fun e => Or.inr (Or.inl e)))))

theorem SQ.put {w W : World} {sb D : Nat} {hp v : Value} {l T : List UInt8} {ok : Bool} (h : SQ w sb hp v l T ok W) (hD : w.heap.size ≤ D) (hx : W.heap[D]? = some (.deferred (some []))) (o : Obj) : SQ w sb hp v l T ok (W.putObj D o) := by
  obtain ⟨h1, l1, h2, h3, u, h4, h5⟩ := h
  refine ⟨h1, l1, h2, h3, u, h4.kept (Fr.putObj W D o) (fun e => ?_) (fun g hg e => ?_), h5.putObj hD o⟩
  · obtain ⟨a, h6, _⟩ := h4
    rw [e, hx] at h6; cases h6
  · subst e
    obtain ⟨cur, hc⟩ := h4.row g hg
    rw [hx] at hc; cases hc

/-- The end: nothing more is said. -/
theorem end_no {w W : World} {sb : Nat} {hp v u : Value} {l l' : List UInt8} {slots : List (ByteArray × AV)} {Ts : Nat → List UInt8} (hok : 65536 < l.length + (objT slots Ts).length) (hS : Shw W sb hp u l') (hl : l'.length ≤ 65536) (hgo : Go2 sb v u w W) :
    SQ w sb hp v l (objT slots Ts) false W :=
  ⟨(decide_eq_false (by omega)).symm, l', hl, (fun e => by cases e), u, hS, hgo⟩
theorem objT_big {l : List UInt8} {slots : List (ByteArray × AV)} {Ts : Nat → List UInt8} (hok : false = decide (l.length + 1 ≤ 65536)) : 65536 < l.length + (objT slots Ts).length := by
  have := of_decide_eq_false hok.symm
  simp only [objT, List.length_append, List.length_singleton]
  omega

/-- What stands ahead of the loop. -/
def CutR (w : World) (sb : Nat) (hp v : Value) (l : List UInt8) (slots : List (ByteArray × AV)) (Ts : Nat → List UInt8) (deep : Int) (s9 : Value) (W7 : World) : Prop :=
  ∃ (ok : Bool) (B9 : Nat) (G0 : Nat → Prop), s9 = .pointer (some ⟨B9, 0, none⟩) ∧ ok = decide (l.length + 1 ≤ 65536) ∧ w.heap.size ≤ B9 ∧
    (∀ b, G0 b → b = sb ∨ b = B9 ∨ v.ownBlock = some b ∨ (∃ cur, W7.heap[b]? = some (.cells cur 5 (0, 0)) ∧ w.heap.size ≤ b)) ∧ LI w sb hp v l slots Ts ok B9 w.heap.size (w.heap.size + 1 + 1) deep 0 G0 W7

theorem CutR_1 {w w4 w6 : World} {sb : Nat} {hp v : Value} {l : List UInt8} {slots : List (ByteArray × AV)} {Ts : Nat → List UInt8} {ok : Bool} {deep : Int}
    (hA : Old w w4) (hS : Shw w sb hp v l) (hq : SQ w4.drew sb hp v l ((⟨#[123, 125]⟩ : ByteArray).extract 0 1).data.toList ok w6)
    (b3 : w4.heap[w.heap.size]? = some (.cells #[.pointer (some ⟨sb, 0, none⟩)] 116 (0, 0))) (b5 : w4.heap[w.heap.size + 1 + 1]? = some (.cells #[.int .i64 deep] 3 (0, 0))) :
    CutR w sb hp v l slots Ts deep (.pointer (some ⟨w6.heap.size, 0, none⟩)) (w6.alloc (.cells #[.bool ok] 4)) := by
  have hok : ok = decide (l.length + 1 ≤ 65536) := by have := hq.1; rw [brace0] at this; exact this
  have hsz : w4.heap.size ≤ w6.heap.size := hq.size
  have h3 := ltOf b3
  have h5 := ltOf b5
  have hw := hA.size
  obtain ⟨G0, hG0, hL0⟩ := LI_start (slots := slots) (Ts := Ts) (deep := deep) hA.drew hS hq (by rw [brace0]) (Fr.alloc (Fr.refl (fun b => b = w6.heap.size) w6) (.cells #[.bool ok] 4)) (heapNew w6 _) (by omega) (fun cur e => by have := ltOf e; omega) (heapDrew b3) (by omega) (Nat.le_refl _) (heapDrew b5) (by omega) (by omega)
  exact ⟨ok, _, G0, rfl, hok, by omega, hG0, hL0⟩

theorem CutR_2 {w w4 w6 : World} {sb : Nat} {hp v : Value} {l : List UInt8} {slots : List (ByteArray × AV)} {Ts : Nat → List UInt8} {ok : Bool} {deep : Int}
    (hA : Old w w4) (hS : Shw w sb hp v l) (hq : SQ (w4.alloc (.cells #[.bool false] 4)).drew sb hp v l ((⟨#[123, 125]⟩ : ByteArray).extract 0 1).data.toList ok w6)
    (b3 : w4.heap[w.heap.size]? = some (.cells #[.pointer (some ⟨sb, 0, none⟩)] 116 (0, 0))) (b5 : w4.heap[w.heap.size + 1 + 1]? = some (.cells #[.int .i64 deep] 3 (0, 0))) :
    CutR w sb hp v l slots Ts deep (.pointer (some ⟨w4.heap.size, 0, none⟩)) (w6.setCell ⟨w4.heap.size, 0, none⟩ (.bool ok)) := by
  have hok : ok = decide (l.length + 1 ≤ 65536) := by have := hq.1; rw [brace0] at this; exact this
  have h3 := ltOf b3
  have h5 := ltOf b5
  have hw := hA.size
  have hsb := hS.lt
  have b9 := hq.at (heapDrew (heapNew w4 (.cells #[.bool false] 4))) (by omega) (fun e => by have := hS.ltv _ e; omega)
  obtain ⟨G0, hG0, hL0⟩ := LI_start (slots := slots) (Ts := Ts) (deep := deep) (W7 := w6.setCell ⟨w4.heap.size, 0, none⟩ (.bool ok)) (B9 := w4.heap.size) (hA.alloc _).drew hS hq (by rw [brace0]) (Fr.setCell (Fr.refl (fun b => b = w4.heap.size) w6) (Or.inr rfl) _) (setOf b9 0 _) (by omega) (fun cur e => by rw [b9] at e; cases e) (heapDrew (heapAlloc b3 _)) (by omega) (Nat.le_refl _) (heapDrew (heapAlloc b5 _)) (by omega) (by omega)
  exact ⟨ok, _, G0, rfl, hok, by omega, hG0, hL0⟩

set_option maxRecDepth 100000 in
set_option maxHeartbeats 4000000 in
/-- An object. -/
theorem value_obj (w : World) (sb : Nat) (hp' : Option Addr) (v : Value) (k n : Int) (s : ByteArray) (deep : Int) (l : List UInt8) (mb bm : Nat) (pr ks : Value) (slots : List (ByteArray × AV)) (Ts : Nat → List UInt8)
    (hk : (k == 4) = false) (hdeep : (deep == 3) = false) (hd0 : 0 ≤ deep) (hd3 : deep ≤ 3) (hS : Shw w sb (.pointer hp') v l) (hl : l.length ≤ 65536)
    (hth : Says w nowhere anyW 40 #[.pointer hp', .agg #[.int .i64 k, .int .i64 n, .string s]] (.iface 96 (.agg #[.pointer (some ⟨mb, 0, none⟩), .int .i64 1, pr])))
    (hn : (slots.map Prod.fst).Nodup) (hsl : slots.length ≤ 1048576) (hpr : pr.oneCell' = true) (hks : ∀ p ∈ slots, p.1.size ≤ 140737488351232)
    (hm : w.heap[mb]? = some (.cells #[.map (some bm), ks] 94 (0, 0))) (hM : MapIs strKey w bm (kvsOf slots)) (hkr : w.ownsRow 0 9 1 ks slots.length (keysOf slots))
    (hne : ∀ b, b = mb ∨ b = bm ∨ ks.ownBlock = some b → b ≠ sb ∧ v.ownBlock ≠ some b)
    (hV : ∀ i (hi : i < slots.length) W u l', Go2 sb v u w W → Shw W sb (.pointer hp') u l' → l'.length ≤ 65536 →
      Calls Tryz.prog 36 #[.pointer (some ⟨sb, 0, none⟩), slots[i].2.v, .int .i64 (deep + 1)] W (ValPost W sb (.pointer hp') u l' (Ts i))) :
    Calls Tryz.prog 36 #[.pointer (some ⟨sb, 0, none⟩), .agg #[.int .i64 k, .int .i64 n, .string s], .int .i64 deep] w (ValPost w sb (.pointer hp') v l (objT slots Ts)) := by
  have hlt := hS.lt
  have hlt1 : sb < w.heap.size + 1 := by omega
  have hlt2 : sb < w.heap.size + 1 + 1 := by omega
  have c0 := hS.cell
  have q1 := meth_kind_obj
  have Hpr := Lib.hid hpr; clear hpr
  have Hn := Lib.hid hn; clear hn
  have Hks := Lib.hid hks; clear hks
  have Hne := Lib.hid hne; clear hne
  have Hm := Lib.hid hm; clear hm
  have HV := Lib.hid hV; clear hV
  refine callsIn_wide.1 (callsIn_of_wp_marks (n := 3) Tryz.func36 rfl trivial ?_ rfl)
  rw [wpIn_wide]
  simp only [Tryz.ntmps36, List.size_toArray, List.length_cons, List.length_nil, Nat.reduceAdd, Nat.reduceSub, Array.replicate_succ, Array.replicate_zero, List.push_toArray, List.append_toArray, List.nil_append, List.cons_append]
  go_wp2
  go_step3
  go_wp2
  have b3 := heapAlloc (heapAlloc (heapNew w (.cells #[.pointer (some ⟨sb, 0, none⟩)] 116)) (.cells #[.int .i64 k, .int .i64 n, .string s] 34)) (.cells #[.int .i64 deep] 3)
  have b4 := heapAlloc (heapNew1 w (.cells #[.pointer (some ⟨sb, 0, none⟩)] 116) (.cells #[.int .i64 k, .int .i64 n, .string s] 34)) (.cells #[.int .i64 deep] 3)
  have b5 : (((w.alloc (.cells #[.pointer (some ⟨sb, 0, none⟩)] 116)).alloc (.cells #[.int .i64 k, .int .i64 n, .string s] 34)).alloc (.cells #[.int .i64 deep] 3)).heap[w.heap.size + 1 + 1]? = some (.cells #[.int .i64 deep] 3) := by simpa using heapNew ((w.alloc (.cells #[.pointer (some ⟨sb, 0, none⟩)] 116)).alloc (.cells #[.int .i64 k, .int .i64 n, .string s] 34)) (.cells #[.int .i64 deep] 3)
  have hA : Old w (((w.alloc (.cells #[.pointer (some ⟨sb, 0, none⟩)] 116)).alloc (.cells #[.int .i64 k, .int .i64 n, .string s] 34)).alloc (.cells #[.int .i64 deep] 3)) := (((Fr.refl _ _).alloc _).alloc _).alloc _
  have hS3 := hS.old hA
  generalize hW3 : ((w.alloc (.cells #[.pointer (some ⟨sb, 0, none⟩)] 116)).alloc (.cells #[.int .i64 k, .int .i64 n, .string s] 34)).alloc (.cells #[.int .i64 deep] 3) = W3 at *
  clear hW3
  have c3 := cellOf b3 0 (.pointer (some ⟨sb, 0, none⟩)) rfl
  obtain ⟨d0, d1, d2, _, _, _⟩ := cells3 b4
  have c00 := hS3.cell
  have B3 := Lib.hid b3; clear b3
  have B4 := Lib.hid b4; clear b4
  have B5 := Lib.hid b5; clear b5
  clear c0 hlt1 hlt2
  refine wp_region_still_tail 5 (by kernel_rfl) (by kernel_rfl) ?_
  change wpStill _ _ (World.drew _) (fun a' => wpList _ _ _ _ a' (World.drew _)) _ _
  simp only [List.take_succ_cons, List.take_zero, List.drop_succ_cons, List.drop_zero]
  repeat still_step
  refine wpStill_nil ?_
  go_wp2_with (first | (go_at_call 40; refine (hth _ hA.drew trivial).mono ?_; rintro e w4 ⟨rfl, hO4⟩; have hO4 : Old W3 w4 := (Fr.refl _ _).drew.old hO4; have b3 := hO4.at B3.out (fun f => f); have b4 := hO4.at B4.out (fun f => f); have b5 := hO4.at B5.out (fun f => f); have hS4 := hS3.old hO4; have hA4 := hA.old hO4; have c34 := cellOf b3 0 (.pointer (some ⟨sb, 0, none⟩)) rfl; have c54 := cellOf b5 0 (.int .i64 deep) rfl; obtain ⟨g0, g1, g2, _, _, _⟩ := cells3 b4; have E3 := Lib.hid b3; clear b3; have E4 := Lib.hid b4; clear b4; have E5 := Lib.hid b5; clear b5) | (go_at_call 123; refine (kind_obj _ _ _ _).mono ?_; rintro e w4 ⟨rfl, hO4⟩; have b3 := hO4.at E3.out (fun f => f); have b4 := hO4.at E4.out (fun f => f); have b5 := hO4.at E5.out (fun f => f); have hS4 := hS4.old hO4; have hA4 := hA4.old hO4; have c34 := cellOf b3 0 (.pointer (some ⟨sb, 0, none⟩)) rfl; have c54 := cellOf b5 0 (.int .i64 deep) rfl; obtain ⟨g0, g1, g2, _, _, _⟩ := cells3 b4; have E3 := Lib.hid b3; clear b3; have E4 := Lib.hid b4; clear b4; have E5 := Lib.hid b5; clear b5))
  have hsz4 := ltOf E3.out
  go_cut [9] from 54 to 58 (fun s9 wx => CutR w sb (.pointer hp') v l slots Ts deep s9 wx)
  case first =>
    refine wp_region_noPanic ?_
    go_region_with (go_at_call 56; refine (says_any _ sb (.pointer hp') v l ((⟨#[123, 125]⟩ : ByteArray).extract 0 1) ?_ hl brace0_size).mono ?_; (first | exact hS4 | exact hS4.old ((Fr.refl _ _).drew) | exact hS4.old (((Fr.refl _ _).drew).alloc _) | exact hS4.old (((Fr.refl _ _).alloc _).drew)); rintro e w6 ⟨ok, rfl, hq⟩; (first | (have b9 := hq.at (x := .cells #[.bool false] 4 (0, 0)) (b := w4.heap.size) (heapDrew (heapNew w4 (.cells #[.bool false] 4))) (by have := hS4.lt; omega) (fun e => by have := hS4.ltv _ e; omega); have c9 := cellOf b9 0 (.bool false) rfl; have f9 := freeOf b9 0; have D9 := Lib.hid b9; clear b9) | skip))
    all_goals (refine NoPanic.normal ?_; go_wp2_with fail; go_meet; first | exact CutR_1 hA4 hS hq E3.out E5.out | exact CutR_2 hA4 hS hq E3.out E5.out)
  case rest =>
    obtain ⟨ok, B9, G0, rfl, hok, h9, hG0, hL0⟩ := hcut
    have HL0 := Lib.hid hL0; clear hL0
    have HOK := Lib.hid hok; clear hok
    go_wp2_with fail
    go_step3
    go_wp2_with (go_at_call 59; refine (parts_any _ _ rfl).mono ?_; rintro e w8 ⟨rfl, rfl⟩)
    have HL8 := HL0.out.keep (((Fr.refl (fun _ => False) wc).alloc (.cells #[.iface 96 (.agg #[.pointer (some ⟨mb, 0, none⟩), .int .i64 1, pr])] 79)).mono (G := fun b => wc.heap.size ≤ b ∧ ¬ G0 b) (fun _ _ f => f.elim))
    have hbox := heapNew wc (.cells #[.iface 96 (.agg #[.pointer (some ⟨mb, 0, none⟩), .int .i64 1, pr])] 79)
    have hG0lt := HL0.out.lt
    have hwc : w.heap.size ≤ wc.heap.size ∧ w.heap.size < wc.heap.size ∧ w.heap.size + 1 + 1 < wc.heap.size := by
      obtain ⟨u, l', _, _, _, _, hg, _, h3, h5⟩ := HL0.out
      exact ⟨hg.fr.size, ltOf h3, ltOf h5⟩
    have HL8 := HL8 hwc.1 hwc.2.1 hwc.2.2
    obtain ⟨wcz, hwcz⟩ : ∃ z, z = wc.heap.size := ⟨_, rfl⟩
    rw [← hwcz] at hbox hwc hG0lt ⊢
    have hsz8 : (wc.alloc (.cells #[.iface 96 (.agg #[.pointer (some ⟨mb, 0, none⟩), .int .i64 1, pr])] 79)).heap.size = wcz + 1 := by rw [World.size_alloc, hwcz]
    generalize wc.alloc (.cells #[.iface 96 (.agg #[.pointer (some ⟨mb, 0, none⟩), .int .i64 1, pr])] 79) = W8 at *
    have hgo : Go2 sb v (HL8.choose) w W8 := HL8.choose_spec.choose_spec.2.2.2.2.1
    have hat : ∀ b x, w.heap[b]? = some x → b ≠ sb → v.ownBlock ≠ some b → W8.heap[b]? = some x := fun b x hx n1 n2 => hgo.fr.at hx (fun e => e.elim n1 n2)
    have hmlt := ltOf Hm.out
    refine wp_range (gf := 74) rfl (enters_of Tryz.func74 (by kernel_rfl) rfl)
      (parts_obj W8 wcz mb bm 1 pr ks slots Hn.out hsl hbox Hpr.out (hat _ _ Hm.out (Hne.out mb (by simp)).1 (Hne.out mb (by simp)).2) (hM.at hgo.fr (fun e => e.elim (Hne.out bm (by simp)).1 (Hne.out bm (by simp)).2)) (hgo.fr.row hkr (fun g hg e => e.elim (Hne.out g (by simp [hg])).1 (Hne.out g (by simp [hg])).2)))
      (fun x hx => by simp only [partsObj, List.mem_map] at hx; obtain ⟨a, _, rfl⟩ := hx; rfl) ?hSlt G0 ?hSG
      (LI w sb (.pointer hp') v l slots Ts ok B9 w.heap.size (w.heap.size + 1 + 1) deep) (LX w sb (.pointer hp') v l (objT slots Ts) B9 w.heap.size)
      (fun _ _ _ h => h.lt) (fun _ _ _ h => h.lt) (fun _ _ _ _ h hf => h.keep hf (by omega) (by omega) (by omega)) (fun _ _ _ _ h hf => h.keep hf (by omega) (by omega)) HL8 ?round ?done ?stop
    case hSlt =>
      rintro b (rfl | rfl | rfl | h)
      · omega
      · omega
      · have := hM.lt; omega
      · have := (hkr.lt b h).2; omega
    case hSG =>
      rintro b hb hg
      have hb' : b = wcz ∨ b < w.heap.size ∧ b ≠ sb ∧ v.ownBlock ≠ some b := by
        rcases hb with h | h | h | h
        · exact Or.inl h
        · subst h; exact Or.inr ⟨hmlt, Hne.out b (by simp)⟩
        · subst h; exact Or.inr ⟨hM.lt, Hne.out b (by simp)⟩
        · exact Or.inr ⟨(hkr.lt b h).2, Hne.out b (by simp [h])⟩
      rcases hb' with h | ⟨h1, h2, h3⟩
      · have := hG0lt b hg; omega
      · rcases hG0 b hg with h | h | h | ⟨_, _, h⟩
        · exact h2 h
        · omega
        · exact h3 h
        · omega
    case round =>
      intro n' lp i G W hi hI hlp1 hlp2 hlp3
      rw [partsObj_length] at hi
      rw [partsObj_get slots i hi]
      rw [zip2]
      gi_wp2
      refine ⟨(Fr.refl _ _).alloc _, ?_⟩
      intro W2 hF2 hI2
      obtain ⟨u, l', hG, hS2, hl2, hT, hgo2, b9, b3, b5⟩ := hI2
      have b11 := hF2.at (heapNew W (.cells #[.string slots[i].1, .bool true, .int .i64 slots[i].2.k, .int .i64 slots[i].2.n, .string slots[i].2.s] 123)) (by omega)
      have hWW2 : W.heap.size ≤ W2.heap.size := by have := hF2.size; rw [World.size_alloc] at this; omega
      have hsb2 : sb < w.heap.size := hlt
      have hVi := HV.out i hi
      have hksi := Hks.out slots[i] (List.getElem_mem hi)
      have hpre : preT slots Ts (i + 1) = preT slots Ts i ++ (((if i = 0 then [] else [44, 32]) ++ (slots[i].1.data.toList ++ [58, 32])) ++ Ts i) := by
        simp only [preT, List.getElem?_eq_getElem hi, Option.map_some, Option.getD_some, List.append_assoc]
      obtain ⟨p0, p1, p2, p3, p4, -⟩ : W2.cell? ⟨W.heap.size, 0, none⟩ = some (.string slots[i].1) ∧ W2.cell? ⟨W.heap.size, 1, none⟩ = some (.bool true) ∧ W2.cell? ⟨W.heap.size, 2, none⟩ = some (.int .i64 slots[i].2.k) ∧ W2.cell? ⟨W.heap.size, 3, none⟩ = some (.int .i64 slots[i].2.n) ∧ W2.cell? ⟨W.heap.size, 4, none⟩ = some (.string slots[i].2.s) ∧ True :=
        ⟨cellOf b11 0 _ rfl, cellOf b11 1 _ rfl, cellOf b11 2 _ rfl, cellOf b11 3 _ rfl, cellOf b11 4 _ rfl, trivial⟩
      clear hF2
      have q3 := cellOf b3 0 _ rfl
      have P3 := Lib.hid b3; clear b3
      have P5 := Lib.hid b5; clear b5
      have P9 := Lib.hid b9; clear b9
      have P11 := Lib.hid b11; clear b11
      clear c34 c54 g0 g1 g2 E3 E4 E5 hO4 hS4 hA4 c3 d0 d1 d2 c00 B3 B4 B5 hth hat HL8 hgo hbox hM hkr HL0 hG0 hG0lt
      have hstart := SQ.refl hS2 hl2
      obtain ⟨T1, hT1⟩ : ∃ T1 : List UInt8, T1 = if i = 0 then [] else [44, 32] := ⟨_, rfl⟩
      rw [← hT1] at hpre
      have n9s : B9 ≠ sb := by omega
      have hu : ∀ g, u.ownBlock = some g → ∃ cur, W2.heap[g]? = some (.cells cur 5 (0, 0)) := hS2.row
      have nu : ∀ {B x t}, W2.heap[B]? = some (.cells x t (0, 0)) → t ≠ 5 → u.ownBlock ≠ some B := fun hb ht e => by obtain ⟨cur, hc⟩ := hu _ e; rw [hb] at hc; simp only [Option.some.injEq, Obj.cells.injEq] at hc; exact ht hc.2.1
      have out := fun (T : List UInt8) (W1 : World) (hq : SQ W2 sb (.pointer hp') u l' T false W1) (hTl : T.length ≤ (preT slots Ts (i + 1)).length - (preT slots Ts i).length) =>
        round_out (W := W) hG hT HOK.out hgo2 hWW2 P9.out P3.out (fun e => by have h1 := P3.out; rw [e, P9.out] at h1; cases h1) n9s (by omega) h9 hu hq hi hTl
      have HG := Lib.hid hG; clear hG
      have HU := Lib.hid hu; clear hu
      have HOUT := Lib.hid out; clear out
      have HT := Lib.hid hT; clear hT
      have HPRE := Lib.hid hpre; clear hpre
      have HST := Lib.hid hstart; clear hstart
      have HT1 := Lib.hid hT1; clear hT1
      have HVI := Lib.hid hVi; clear hVi
      gi_upto_region 19 with fail
      gi_cut [62] from 63 (fun t wr => ∃ o : Bool, t = .bool (!o) ∧ SQ W2 sb (.pointer hp') u l' T1 o wr)
      case first =>
        gi_wp2_with fail
        all_goals (refine ⟨trivial, ?_⟩; gi_wp2_with fail)
        · refine ⟨fun h => by simp [Fence.wide] at h, ?_⟩
          refine (CallsIn.inRound lp (callsIn_wide.2 (says_any W2 sb (.pointer hp') u l' ⟨#[44, 32]⟩ hS2 hl2 (by show 2 ≤ 9223372036854775807; omega)))).mono ?_
          rintro e W4 ⟨o, rfl, hq⟩
          gi_wp2_with fail
          gi_meet
          exact ⟨o, rfl, by rw [HT1.out, if_neg (by omega)]; exact hq⟩
        · gi_meet
          exact ⟨true, rfl, by rw [HT1.out, if_pos (by omega)]; exact HST.out⟩
      case rest =>
        obtain ⟨o, rfl, hq⟩ := hcut
        cases o
        case false =>
          have q9 := hq.at P9.out n9s (nu P9.out (by decide))
          have c9 := cellOf q9 0 _ rfl
          have f9 := freeOf q9 0
          have Q9 := Lib.hid q9; clear q9
          gi_wp2_with fail
          exact HOUT.out T1 _ hq (by rw [HPRE.out]; simp only [List.length_append]; omega)
        case true =>
          have a3 := cellOf (hq.at P3.out (by omega) (nu P3.out (by decide))) 0 _ rfl
          have a11 := hq.at P11.out (by omega) (nu P11.out (by decide))
          obtain ⟨r0, r1, r2, r3, r4⟩ : wc.cell? ⟨W.heap.size, 0, none⟩ = some (.string slots[i].1) ∧ wc.cell? ⟨W.heap.size, 1, none⟩ = some (.bool true) ∧ wc.cell? ⟨W.heap.size, 2, none⟩ = some (.int .i64 slots[i].2.k) ∧ wc.cell? ⟨W.heap.size, 3, none⟩ = some (.int .i64 slots[i].2.n) ∧ wc.cell? ⟨W.heap.size, 4, none⟩ = some (.string slots[i].2.s) :=
            ⟨cellOf a11 0 _ rfl, cellOf a11 1 _ rfl, cellOf a11 2 _ rfl, cellOf a11 3 _ rfl, cellOf a11 4 _ rfl⟩
          have A11 := Lib.hid a11; clear a11
          obtain ⟨-, l1, hl1, hle1, u1, hS1, hg1⟩ := hq
          have e1 := hle1 rfl
          clear hle1
          gi_upto_region 20 with fail
          gi_cut [62] from 70 (fun t wr => ∃ o : Bool, t = .bool (!o) ∧ SQ W2 sb (.pointer hp') u l' (T1 ++ (slots[i].1.data.toList ++ [58, 32])) o wr)
          case first =>
            gi_wp2_with fail
            refine ⟨trivial, fun h => by simp [Fence.wide] at h, ?_⟩
            refine (CallsIn.inRound lp (callsIn_wide.2 (says_any wc sb (.pointer hp') u1 l1 _ hS1 hl1 ?_))).mono ?_
            · rw [ByteArray.size_append]; show slots[i].1.size + 2 ≤ _; omega
            rintro e W4 ⟨o, rfl, hq⟩
            gi_wp2_with fail
            gi_meet
            exact ⟨o, rfl, by have h := SQ.append e1 hg1 hq; rw [ByteArray.data_append, Array.toList_append] at h; exact h⟩
          case rest =>
            clear a3 r0 r1 r2 r3 r4 A11 hS1 e1 hg1 hl1
            obtain ⟨o, rfl, hq⟩ := hcut
            cases o
            case false =>
              have q9 := hq.at P9.out n9s (nu P9.out (by decide))
              have c9 := cellOf q9 0 _ rfl
              have f9 := freeOf q9 0
              have Q9 := Lib.hid q9; clear q9
              gi_wp2_with fail
              exact HOUT.out _ _ hq (by rw [HPRE.out]; simp only [List.length_append]; omega)
            case true =>
              have a3 := cellOf (hq.at P3.out (by omega) (nu P3.out (by decide))) 0 _ rfl
              have a5 := cellOf (hq.at P5.out (by omega) (nu P5.out (by decide))) 0 _ rfl
              have a11 := hq.at P11.out (by omega) (nu P11.out (by decide))
              obtain ⟨r0, r1, r2, r3, r4⟩ : wc.cell? ⟨W.heap.size, 0, none⟩ = some (.string slots[i].1) ∧ wc.cell? ⟨W.heap.size, 1, none⟩ = some (.bool true) ∧ wc.cell? ⟨W.heap.size, 2, none⟩ = some (.int .i64 slots[i].2.k) ∧ wc.cell? ⟨W.heap.size, 3, none⟩ = some (.int .i64 slots[i].2.n) ∧ wc.cell? ⟨W.heap.size, 4, none⟩ = some (.string slots[i].2.s) :=
                ⟨cellOf a11 0 _ rfl, cellOf a11 1 _ rfl, cellOf a11 2 _ rfl, cellOf a11 3 _ rfl, cellOf a11 4 _ rfl⟩
              have A11 := Lib.hid a11; clear a11
              obtain ⟨-, l1, hl1, hle1, u1, hS1, hg1⟩ := hq
              have e1 := hle1 rfl
              clear hle1
              have hcall := HVI.out wc u1 l1 (hgo2.trans hg1) hS1 hl1
              have HCALL := Lib.hid hcall; clear hcall
              gi_upto_region 21 with fail
              gi_cut [62] from 80 (fun t wr => ∃ o : Bool, t = .bool (!o) ∧ SQ W2 sb (.pointer hp') u l' ((T1 ++ (slots[i].1.data.toList ++ [58, 32])) ++ Ts i) o wr)
              case first =>
                gi_wp2_with fail
                refine ⟨trivial, fun h => by simp [Fence.wide] at h, ?_⟩
                refine (CallsIn.inRound lp (callsIn_wide.2 HCALL.out)).mono ?_
                rintro e W4 ⟨o, rfl, hq⟩
                gi_wp2_with fail
                gi_meet
                exact ⟨o, rfl, SQ.append e1 hg1 hq⟩
              case rest =>
                clear a3 a5 r0 r1 r2 r3 r4 A11 hS1 e1 hg1 hl1 HCALL
                obtain ⟨o, rfl, hq⟩ := hcut
                cases o
                case false =>
                  have q9 := hq.at P9.out n9s (nu P9.out (by decide))
                  have c9 := cellOf q9 0 _ rfl
                  have f9 := freeOf q9 0
                  have Q9 := Lib.hid q9; clear q9
                  gi_wp2_with fail
                  exact HOUT.out _ _ hq (by rw [HPRE.out]; simp only [List.length_append]; omega)
                case true =>
                  gi_wp2_with fail
                  exact round_on HG.out HT.out hgo2 hWW2 P9.out P3.out P5.out n9s (by omega) (by omega) HU.out hq HPRE.out
    case done =>
      intro D G W hI hD1 hD2 hD3
      rw [partsObj_length] at hI
      clear c34 c54 g0 g1 g2 E3 E4 E5 hO4 hS4 hA4 c3 d0 d1 d2 c00 B3 B4 B5 hth hat HL8 hgo hbox hM hkr HL0 hG0 hG0lt
      obtain ⟨u, l', hG, hS2, hl2, hT, hgo2, b9, b3, b5⟩ := hI
      have a9 := cellOf b9 0 _ rfl
      have a3 := cellOf b3 0 _ rfl
      rename_i K hK
      refine hK _ _ ?_
      dsimp only
      cases ok with
      | false =>
        go_wp2_with fail
        refine wp_region_noPanic ?_
        go_quiet (fail)
        refine NoPanic.normal ?_
        go_wp2_with fail
        rw [Exit.noGoto_ret]
        refine retMark rfl (heapDrewN hD3 _) (results_tmp rfl _ _ _) ?_
        have hO : Old W (W.drewN nq) := (Fr.refl _ _).drewN _
        exact ⟨false, rfl, SQ.put (end_no (objT_big (slots := slots) (Ts := Ts) HOK.out) (hS2.old hO) hl2 (hgo2.old hO)) (by omega) (heapDrewN hD3 _) _⟩
      | true =>
        have e1 := hT rfl
        clear hT
        go_wp2_with fail
        refine wp_region_noPanic ?_
        go_region_with (go_at_call 56; refine (says_any _ sb (.pointer hp') u l' ((⟨#[123, 125]⟩ : ByteArray).extract 1 2) ?_ hl2 brace1_size).mono ?_; (first | exact hS2 | exact hS2.old ((Fr.refl _ _).drew)); rintro e w6 ⟨o, rfl, hq⟩)
        refine NoPanic.normal ?_
        go_wp2_with fail
        rw [Exit.noGoto_ret]
        have hD6 := hq.at (heapDrew hD3) (by omega) (fun e => by obtain ⟨cur, hc⟩ := hS2.row _ e; rw [hD3] at hc; cases hc)
        refine retMark rfl hD6 (results_tmp rfl _ _ _) ?_
        have hO : Old W W.drew := (Fr.refl _ _).drew
        rw [List.append_assoc] at e1
        rw [brace1] at hq
        exact ⟨o, rfl, SQ.put (SQ.append e1 (hgo2.old hO) hq) (by omega) hD6 _⟩
    case stop =>
      intro D c G W hX hD1 hD2 hD3
      clear c34 c54 g0 g1 g2 E3 E4 E5 hO4 hS4 hA4 c3 d0 d1 d2 c00 B3 B4 B5 hth hat HL8 hgo hbox hM hkr HL0 hG0 hG0lt
      obtain ⟨rfl, hbig, u, l', hG, hS2, hl2, hgo2, b9, b3⟩ := hX
      have a9 := cellOf b9 0 _ rfl
      have a3 := cellOf b3 0 _ rfl
      dsimp only
      go_wp2_with fail
      refine wp_region_noPanic ?_
      go_quiet (fail)
      refine NoPanic.normal ?_
      go_wp2_with fail
      rw [Exit.noGoto_ret]
      refine retMark rfl (heapDrewN hD3 _) (results_tmp rfl _ _ _) ?_
      have hO : Old W (W.drewN nq) := (Fr.refl _ _).drewN _
      exact ⟨false, rfl, SQ.put (end_no hbig (hS2.old hO) hl2 (hgo2.old hO)) (by omega) (heapDrewN hD3 _) _⟩
end Go.Proofs.YtlimgecmolhdhaaGreatDoor
