/- Maps as lists of keys and values. -/
import Derived.Test.YtlimgecmolhdhaaGreatDoorFr
import Derived.Maps.OwnSet
set_option linter.unusedVariables false
set_option linter.unusedSimpArgs false
namespace Go.Proofs.YtlimgecmolhdhaaGreatDoor
open Go.RowKit

theorem bytes_eq_iff {a b : ByteArray} : (a == b) = true ↔ a = b := by
  have e : (a == b) = (a.data == b.data) := rfl
  rw [e, beq_iff_eq]
  exact ⟨fun h => by cases a; cases b; simp at h; rw [h], fun h => by rw [h]⟩
theorem bytes_ne {a b : ByteArray} (h : a ≠ b) : (a == b) = false := by
  cases e : a == b with
  | false => rfl
  | true => exact absurd (bytes_eq_iff.1 e) h
theorem bytes_self (a : ByteArray) : (a == a) = true := bytes_eq_iff.2 rfl

section
variable {κ : Type}

def lookIdx [DecidableEq κ] (a : κ) : List (κ × Value) → Nat → Option (Nat × Value)
  | [], _ => none
  | p :: r, i => if p.1 = a then some (i, p.2) else lookIdx a r (i + 1)
def look [DecidableEq κ] (a : κ) : List (κ × Value) → Option Value
  | [] => none
  | p :: r => if p.1 = a then some p.2 else look a r
def put [DecidableEq κ] (a : κ) (v : Value) : List (κ × Value) → List (κ × Value)
  | [] => [(a, v)]
  | p :: r => if p.1 = a then (a, v) :: r else p :: put a v r

theorem lookIdx_none [DecidableEq κ] (a : κ) : ∀ (l : List (κ × Value)) (i : Nat), lookIdx a l i = none → look a l = none ∧ ∀ v, put a v l = l ++ [(a, v)]
  | [], _, _ => ⟨rfl, fun _ => rfl⟩
  | p :: r, i, h => by
    unfold lookIdx at h
    by_cases e : p.1 = a
    · rw [if_pos e] at h; cases h
    · rw [if_neg e] at h
      obtain ⟨h1, h2⟩ := lookIdx_none a r (i + 1) h
      exact ⟨by unfold look; rw [if_neg e, h1], fun v => by unfold put; rw [if_neg e, h2]; rfl⟩

theorem lookIdx_some [DecidableEq κ] (a : κ) : ∀ (l : List (κ × Value)) (i j : Nat) (x : Value), lookIdx a l i = some (j, x) → look a l = some x ∧ i ≤ j ∧ (∃ p, l[j - i]? = some p ∧ p.1 = a) ∧ ∀ v, put a v l = l.set (j - i) (a, v)
  | [], _, _, _, h => by cases h
  | p :: r, i, j, x, h => by
    unfold lookIdx at h
    by_cases e : p.1 = a
    · rw [if_pos e] at h; cases h
      exact ⟨by unfold look; rw [if_pos e], Nat.le_refl _, ⟨p, by simp, e⟩, fun v => by unfold put; rw [if_pos e]; simp⟩
    · rw [if_neg e] at h
      obtain ⟨h1, h2, ⟨q, h3, h4⟩, h5⟩ := lookIdx_some a r (i + 1) j x h
      obtain ⟨m, rfl⟩ : ∃ m, j = i + 1 + m := ⟨j - (i + 1), by omega⟩
      have e1 : i + 1 + m - i = m + 1 := by omega
      have e2 : i + 1 + m - (i + 1) = m := by omega
      rw [e2] at h3 h5
      rw [e1]
      exact ⟨by unfold look; rw [if_neg e, h1], by omega, ⟨q, by simpa using h3, h4⟩, fun v => by unfold put; rw [if_neg e, h5]; rfl⟩

/-- How the model finds a key of this type. -/
structure KeyT [DecidableEq κ] (P : Program) (k : TypeId) (key : κ → Value) : Prop where
  check : ∀ (empty : Bool) (a : κ) (w : World), (Instr.checkKey empty 10000 k (key a)).run P w = .ok () w
  find : ∀ (a : κ) (es : List MapEntry) (kvs : List (κ × Value)), es.map (fun e => (e.key, e.val)) = kvs.map (fun p => (key p.1, p.2)) → ∀ w, (Instr.findKey k (key a) es).run P w = .ok (lookIdx a kvs 0) w
  bits : ∀ a, Instr.sameBits 10000 (key a) (key a) = true

def MapIs (key : κ → Value) (w : World) (b : Nat) (kvs : List (κ × Value)) : Prop :=
  ∃ es clock, w.heap[b]? = some (.map es clock) ∧ es.toList.map (fun e => (e.key, e.val)) = kvs.map (fun p => (key p.1, p.2))

theorem MapIs.at {key : κ → Value} {F : Nat → Prop} {w w' : World} {b : Nat} {kvs : List (κ × Value)} (h : MapIs key w b kvs) (hf : Fr F w w') (hb : ¬ F b) : MapIs key w' b kvs := by
  obtain ⟨es, c, h1, h2⟩ := h
  exact ⟨es, c, hf.at h1 hb, h2⟩
theorem MapIs.alloc {key : κ → Value} {w : World} {b : Nat} {kvs : List (κ × Value)} (h : MapIs key w b kvs) (o : Obj) : MapIs key (w.alloc o) b kvs := h.at (F := fun _ => False) ((Fr.refl _ _).alloc o) (fun f => f)
theorem MapIs.drewN {key : κ → Value} {w : World} {b : Nat} {kvs : List (κ × Value)} (h : MapIs key w b kvs) (n : Nat) : MapIs key (w.drewN n) b kvs := h
theorem MapIs.set {key : κ → Value} {w : World} {b : Nat} {kvs : List (κ × Value)} (h : MapIs key w b kvs) (p : Addr) (hp : b ≠ p.block) (v : Value) : MapIs key (w.setCell p v) b kvs := by
  obtain ⟨es, c, h1, h2⟩ := h
  exact ⟨es, c, heapSet h1 p hp v, h2⟩
theorem MapIs.grown {key : κ → Value} {w w' : World} {row : Option Nat} {b : Nat} {kvs : List (κ × Value)} (h : MapIs key w b kvs) (hg : w.grownBy w' row) (hb : row ≠ some b) : MapIs key w' b kvs := by
  obtain ⟨es, c, h1, h2⟩ := h
  exact ⟨es, c, grownAt hg h1 hb, h2⟩
theorem MapIs.lt {key : κ → Value} {w : World} {b : Nat} {kvs : List (κ × Value)} (h : MapIs key w b kvs) : b < w.heap.size := by
  obtain ⟨es, c, h1, h2⟩ := h
  exact ltOf h1
theorem MapIs.new (key : κ → Value) (w : World) : MapIs key (w.alloc (.map #[] 0)) w.heap.size [] := ⟨#[], 0, heapNew w _, rfl⟩

variable [DecidableEq κ] {P : Program} {k e t : TypeId} {key : κ → Value} {w : World} {b : Nat} {kvs : List (κ × Value)}

theorem run_look (K : KeyT P k key) (ht : P.underlying t = some (.map k e)) (h : MapIs key w b kvs) (a : κ) {z : Value} (hz : (zeroValue e).run P w = .ok z w) (ok : Bool) :
    (Instr.lookup t (.map (some b)) (key a) ok).run P w = .ok (if ok then .tuple #[(look a kvs).getD z, .bool (look a kvs).isSome] else (look a kvs).getD z) w := by
  obtain ⟨es, c, h1, h2⟩ := h
  have hgo : (getObj b).run P w = .ok (.map es c) w := by simp [getObj, Sem.run, h1]
  have hf := K.find a es.toList kvs h2 w
  simp only [Instr.lookup, Sem.run_bind, run_underlying ht, Result.andThen, hgo, Sem.run_pure, K.check, hf]
  cases hx : lookIdx a kvs 0 with
  | none =>
    obtain ⟨h3, _⟩ := lookIdx_none a kvs 0 hx
    simp [Sem.run_bind, hz, Result.andThen, h3]
  | some r =>
    obtain ⟨j, x⟩ := r
    obtain ⟨h3, _⟩ := lookIdx_some a kvs 0 j x hx
    simp [Sem.run_bind, Result.andThen, h3]

theorem run_look_nil (K : KeyT P k key) (ht : P.underlying t = some (.map k e)) (a : κ) {z : Value} (hz : (zeroValue e).run P w = .ok z w) (ok : Bool) :
    (Instr.lookup t (.map none) (key a) ok).run P w = .ok (if ok then .tuple #[z, .bool false] else z) w := by
  have hf := K.find a [] [] rfl w
  simp [Instr.lookup, Sem.run_bind, run_underlying ht, Result.andThen, K.check, hf, lookIdx, hz]

theorem run_put (K : KeyT P k key) (ht : P.underlying t = some (.map k e)) (h : MapIs key w b kvs) (a : κ) (v : Value) :
    ∃ w', (Instr.mapUpdate t (.map (some b)) (key a) v).run P w = .ok () w' ∧ MapIs key w' b (put a v kvs) ∧ Fr (· = b) w w' := by
  obtain ⟨es, c, h1, h2⟩ := h
  have hgo : (getObj b).run P w = .ok (.map es c) w := by simp [getObj, Sem.run, h1]
  have hf := K.find a es.toList kvs h2 w
  have hlt := ltOf h1
  have hset : ∀ o, (setObj b o).run P w = .ok () { w with heap := w.heap.setIfInBounds b o } := fun o => by simp [setObj, Sem.run, h1]
  have hfr : ∀ o, Fr (· = b) w { w with heap := w.heap.setIfInBounds b o } := fun o =>
    ⟨rfl, rfl, rfl, by simp, fun i hi hn => by simp [Array.getElem?_setIfInBounds, show ¬ b = i from fun e => hn e.symm]⟩
  have hnew : ∀ o, ({ w with heap := w.heap.setIfInBounds b o } : World).heap[b]? = some o := fun o => by simp [Array.getElem?_setIfInBounds, hlt]
  simp only [Instr.mapUpdate, Sem.run_bind, run_underlying ht, Result.andThen, hgo, K.check, hf]
  cases hx : lookIdx a kvs 0 with
  | none =>
    obtain ⟨_, h4⟩ := lookIdx_none a kvs 0 hx
    refine ⟨_, hset _, ⟨_, _, hnew _, ?_⟩, hfr _⟩
    simp [h2, h4]
  | some r =>
    obtain ⟨j, x⟩ := r
    obtain ⟨_, _, ⟨p, h5, h6⟩, h7⟩ := lookIdx_some a kvs 0 j x hx
    rw [Nat.sub_zero] at h5 h7
    have hk : ((es[j]?).map (·.key)).getD (key a) = key a := by
      have : (es.toList.map (fun e => (e.key, e.val)))[j]? = some (key p.1, p.2) := by rw [h2]; simp [h5]
      rw [List.getElem?_map] at this
      cases hj : es[j]? with
      | none => rfl
      | some y =>
        have hy : es.toList[j]? = some y := by simpa using hj
        rw [hy] at this; simp at this
        simp [this.1, h6]
    refine ⟨_, by simp only [hk, Instr.keyThatStays, K.bits, if_true, Sem.run_pure, Sem.run_bind, Result.andThen]; exact hset _, ⟨_, _, hnew _, ?_⟩, hfr _⟩
    rw [h7]
    have : ∀ (l : List MapEntry) (m : List (κ × Value)) (j : Nat), l.map (fun e => (e.key, e.val)) = m.map (fun p => (key p.1, p.2)) →
        (l.modify j (fun e => { e with key := key a, val := v })).map (fun e => (e.key, e.val)) = (m.set j (a, v)).map (fun p => (key p.1, p.2)) := by
      intro l
      induction l with
      | nil => intro m j h; cases m with
        | nil => simp
        | cons _ _ => cases h
      | cons y l ih => intro m j h; cases m with
        | nil => cases h
        | cons q m =>
          simp only [List.map_cons, List.cons.injEq] at h
          cases j with
          | zero => simp [h.2]
          | succ j => simp only [List.modify_succ_cons, List.set_cons_succ, List.map_cons, List.cons.injEq]; exact ⟨h.1, ih m j h.2⟩
    simpa using this es.toList kvs j h2

theorem wpList_look {ops : Array Oper} {rest : List Oper} {o : Oper} {a : Act} {Q : Exit → Act → World → Prop}
    (hg : o.guard = none) (m x : Operand) (ok : Bool) (hop : o.op = Op.lookup t m x ok) (K : KeyT P k key) (ht : P.underlying t = some (.map k e)) (c : κ) {z : Value}
    (hm : a.eval m = .map (some b)) (hx : a.eval x = key c) (hz : (zeroValue e).run P w = .ok z w) (h : MapIs key w b kvs)
    (hK : wpList P ops Q rest (a.put o.dst (if ok then .tuple #[(look c kvs).getD z, .bool (look c kvs).isSome] else (look c kvs).getD z)) w) :
    wpList P ops Q (o :: rest) a w := by
  refine wpList_plain hg fun K' hK' => ?_
  unfold Oper.wp
  simp [execOp, hop, hm, hx, run_look K ht h c hz ok, Result.andThen]
  exact hK' _ _ hK

theorem wpList_look_nil {ops : Array Oper} {rest : List Oper} {o : Oper} {a : Act} {Q : Exit → Act → World → Prop}
    (hg : o.guard = none) (m x : Operand) (ok : Bool) (hop : o.op = Op.lookup t m x ok) (K : KeyT P k key) (ht : P.underlying t = some (.map k e)) (c : κ) {z : Value}
    (hm : a.eval m = .map none) (hx : a.eval x = key c) (hz : (zeroValue e).run P w = .ok z w)
    (hK : wpList P ops Q rest (a.put o.dst (if ok then .tuple #[z, .bool false] else z)) w) :
    wpList P ops Q (o :: rest) a w := by
  refine wpList_plain hg fun K' hK' => ?_
  unfold Oper.wp
  simp [execOp, hop, hm, hx, run_look_nil K ht c hz ok, Result.andThen]
  exact hK' _ _ hK

theorem wpList_put {ops : Array Oper} {rest : List Oper} {o : Oper} {a : Act} {Q : Exit → Act → World → Prop}
    (hg : o.guard = none) (m x v : Operand) (hop : o.op = Op.mapUpdate t m x v) (K : KeyT P k key) (ht : P.underlying t = some (.map k e)) (c : κ) (val : Value)
    (hm : a.eval m = .map (some b)) (hx : a.eval x = key c) (hv : a.eval v = val) (h : MapIs key w b kvs)
    (hK : ∀ w', MapIs key w' b (put c val kvs) → Fr (· = b) w w' → wpList P ops Q rest (a.put o.dst undef) w') :
    wpList P ops Q (o :: rest) a w := by
  refine wpList_plain hg fun K' hK' => ?_
  obtain ⟨w', hrun, r1, r2⟩ := run_put (w := w) K ht h c val
  unfold Oper.wp
  simp [execOp, hop, hm, hx, hv, hrun, Result.andThen]
  exact hK' _ _ (hK w' r1 r2)
end

theorem keyT_string {P : Program} {k : TypeId} (hk : P.underlying k = some .string) : KeyT P k (fun s : ByteArray => Value.string s) where
  check empty a w := by
    have : ∀ n, (Instr.checkKey empty (n + 1) k (.string a)).run P w = .ok () w := fun n => by simp [Instr.checkKey, Sem.run_bind, run_underlying hk, Result.andThen]
    exact this 9999
  find a es kvs h w := by
    have : ∀ (es : List MapEntry) (kvs : List (ByteArray × Value)) (i : Nat), es.map (fun e => (e.key, e.val)) = kvs.map (fun p => (Value.string p.1, p.2)) → Instr.findNow .string (.string a) es i = some (lookIdx a kvs i) := by
      intro es
      induction es with
      | nil => intro kvs i h; cases kvs with
        | nil => rfl
        | cons _ _ => cases h
      | cons y l ih => intro kvs i h; cases kvs with
        | nil => cases h
        | cons q m =>
          simp only [List.map_cons, List.cons.injEq, Prod.mk.injEq] at h
          obtain ⟨⟨h1, h2⟩, h3⟩ := h
          unfold Instr.findNow lookIdx
          rw [h1, h2]
          simp only [Instr.sameNow]
          by_cases e : q.1 = a
          · rw [if_pos e, show (a == q.1) = true from bytes_eq_iff.2 e.symm]
          · have e' : (a == q.1) = false := bytes_ne (fun h => e h.symm)
            rw [if_neg e, e']
            exact ih m (i + 1) h3
    simp [Instr.findKey, Sem.run_bind, run_underlying hk, Result.andThen, this es kvs 0 h]
  bits a := by simp [Instr.sameBits, bytes_self]

theorem keyT_int {P : Program} {k : TypeId} {q : IntKind} (hk : P.underlying k = some (.int q)) : KeyT P k (fun s : Int => Value.int q s) where
  check empty a w := by
    have : ∀ n, (Instr.checkKey empty (n + 1) k (.int q a)).run P w = .ok () w := fun n => by simp [Instr.checkKey, Sem.run_bind, run_underlying hk, Result.andThen]
    exact this 9999
  find a es kvs h w := by
    have : ∀ (es : List MapEntry) (kvs : List (Int × Value)) (i : Nat), es.map (fun e => (e.key, e.val)) = kvs.map (fun p => (Value.int q p.1, p.2)) → Instr.findNow (.int q) (.int q a) es i = some (lookIdx a kvs i) := by
      intro es
      induction es with
      | nil => intro kvs i h; cases kvs with
        | nil => rfl
        | cons _ _ => cases h
      | cons y l ih => intro kvs i h; cases kvs with
        | nil => cases h
        | cons p m =>
          simp only [List.map_cons, List.cons.injEq, Prod.mk.injEq] at h
          obtain ⟨⟨h1, h2⟩, h3⟩ := h
          unfold Instr.findNow lookIdx
          rw [h1, h2]
          simp only [Instr.sameNow, if_true]
          by_cases e : p.1 = a
          · simp [e]
          · have e' : (a == p.1) = false := beq_eq_false_iff_ne.2 (fun h => e h.symm)
            rw [if_neg e, e']
            exact ih m (i + 1) h3
    simp [Instr.findKey, Sem.run_bind, run_underlying hk, Result.andThen, this es kvs 0 h]
  bits a := by simp [Instr.sameBits]
end Go.Proofs.YtlimgecmolhdhaaGreatDoor
