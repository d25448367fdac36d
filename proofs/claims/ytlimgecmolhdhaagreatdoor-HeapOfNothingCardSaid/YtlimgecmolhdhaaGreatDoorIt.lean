/- A range over a function: a law for an iterator that goes through a known list, in terms of frames. -/
import Derived.Test.YtlimgecmolhdhaaGreatDoorFr
import Derived.RangeFuncNested
import Derived.RangeFuncBound
import Derived.RangeFuncCalls
import Derived.RangeFuncLeaves
import Derived.RangeFuncWrites
set_option linter.unusedVariables false
set_option linter.unusedSimpArgs false
namespace Go.Proofs.YtlimgecmolhdhaaGreatDoor
open Go.RowKit

theorem Fr.putObj (w : World) (l : Nat) (o : Obj) : Fr (· = l) w (w.putObj l o) :=
  ⟨rfl, rfl, rfl, by simp, fun k _ hk => World.putObj_heap_other hk⟩

theorem roundIn_any {n m : Nat} {P : Program} {l : Nat} {f : FuncId} {tmps : Array Value} {assign body : Code} {w : World} {R : Ending → World → Prop} (h : RoundIn Fence.wide n P l f tmps assign body w R) : RoundIn Fence.wide m P l f tmps assign body w R :=
  ⟨h.1, fun c cs _ => h.2 c cs (room_wide _)⟩

/-- The function value goes through these lists of arguments, in this order, whatever a loop's rounds do to blocks of their own. S: the blocks that it reads. -/
def Iter (P : Program) (gf : Nat) (lb : Array Value) (xs : List (Array Value)) (S : Nat → Prop) (w : World) : Prop :=
  ∀ (n l : Nat) (J : Nat → (Nat → Prop) → World → Prop) (Jx : (Nat → Prop) → World → Prop) (W : World) (G : Nat → Prop),
    Fr (fun b => ¬ S b) w W → (∀ b, S b → ¬ G b) →
    (∀ k G W1, J k G W1 → ∀ b, G b → b < W1.heap.size) →
    (∀ k G W1 W2, J k G W1 → Fr (fun b => W.heap.size ≤ b ∧ ¬ G b) W1 W2 → J k G W2) →
    (∀ G W1 W2, Jx G W1 → Fr (fun b => W.heap.size ≤ b ∧ ¬ G b) W1 W2 → Jx G W2) →
    (∀ k G W1 (hk : k < xs.length), J k G W1 → YieldAt Fence.wide n P l xs[k] W1 fun e W' =>
      (e = .returned (.bool true) ∧ ∃ G', J (k + 1) G' W' ∧ Fr G W1 W' ∧ ∀ b, G' b → G b ∨ W1.heap.size ≤ b) ∨
      (e = .returned (.bool false) ∧ ∃ G', Jx G' W' ∧ Fr G W1 W' ∧ ∀ b, G' b → G b ∨ W1.heap.size ≤ b)) →
    J 0 G W →
    CallsIn Fence.wide n P gf (#[.func (.yield l) #[] #[]] ++ lb) W fun e W' => (∃ v, e = .returned v) ∧ ((∃ G', J xs.length G' W') ∨ ∃ G', Jx G' W')

theorem retM {F : Fence} {n : Nat} {P : Program} {fn : Func} {R : Ending → World → Prop} {a : Act} {w : World} {v : Value} (hr : (results fn a.tmps).run P w = .ok v w) (hd : a.defers = []) (hR : R (.returned v) w) : bodyPostM F n P fn R .ret a w := by
  show LeavesInM F n P fn a.tmps R a.defers .returning w
  rw [hd]
  exact ⟨v, hr, hR⟩
/-- .. where a range over a function has laid its mark. -/
theorem retMark {F : Fence} {n : Nat} {P : Program} {fn : Func} {R : Ending → World → Prop} {a : Act} {w : World} {v : Value} {D : Nat} (hd : a.defers = [{ target := .collected D, args := #[] }]) (hD : w.heap[D]? = some (.deferred (some [])))
    (hr : (results fn a.tmps).run P (w.putObj D (.deferred none)) = .ok v (w.putObj D (.deferred none))) (hR : R (.returned v) (w.putObj D (.deferred none))) : bodyPostM F n P fn R .ret a w := by
  show LeavesInM F n P fn a.tmps R a.defers .returning w
  rw [hd]
  exact ⟨by simp, .inl ⟨_, _, rfl, run_takeDeferred hD, v, hr, hR⟩⟩

/-- How a round's body may be left. W: the world ahead of the round; W2: the world in which the body begins. -/
def rPost (I : Nat → (Nat → Prop) → World → Prop) (Ix : Code → (Nat → Prop) → World → Prop) (k : Nat) (G : Nat → Prop) (W W2 : World) : Exit → Act → World → Prop
  | .normal, _, W' => (∃ G', I (k + 1) G' W' ∧ ∀ b, G' b → G b ∨ W.heap.size ≤ b) ∧ Fr (fun b => G b ∨ W.heap.size ≤ b) W2 W'
  | .ret, _, W' => (∃ G', Ix .ret G' W' ∧ ∀ b, G' b → G b ∨ W.heap.size ≤ b) ∧ Fr (fun b => G b ∨ W.heap.size ≤ b) W2 W'
  | .exit id, _, W' => (∃ G', Ix (.exit id) G' W' ∧ ∀ b, G' b → G b ∨ W.heap.size ≤ b) ∧ Fr (fun b => G b ∨ W.heap.size ≤ b) W2 W'
  | .goto t, _, W' => (∃ G', Ix (.goto t) G' W' ∧ ∀ b, G' b → G b ∨ W.heap.size ≤ b) ∧ Fr (fun b => G b ∨ W.heap.size ≤ b) W2 W'
  | .panic _, _, _ => False
  | .outgrown, _, _ => False

theorem wp_range {P : Program} {g : Operand} {ps : Array Tmp} {assign body : Code} {Q : Exit → Act → World → Prop} {a : Act} {w : World}
    {gf : Nat} {lb : Array Value} (hg : a.eval g = .func (.func gf) #[] lb) (eg : ∀ args w, (callFunc gf args).run P w = .ok (.enter gf args) w)
    {xs : List (Array Value)} {S : Nat → Prop} (hseq : Iter P gf lb xs S w) (hps : ∀ x ∈ xs, x.size = ps.size) (hSlt : ∀ b, S b → b < w.heap.size)
    (G0 : Nat → Prop) (hSG : ∀ b, S b → ¬ G0 b)
    (I : Nat → (Nat → Prop) → World → Prop) (Ix : Code → (Nat → Prop) → World → Prop)
    (hlt : ∀ k G W, I k G W → ∀ b, G b → b < W.heap.size) (hltx : ∀ c G W, Ix c G W → ∀ b, G b → b < W.heap.size)
    (hI : ∀ k G W1 W2, I k G W1 → Fr (fun b => w.heap.size ≤ b ∧ ¬ G b) W1 W2 → I k G W2)
    (hIx : ∀ c G W1 W2, Ix c G W1 → Fr (fun b => w.heap.size ≤ b ∧ ¬ G b) W1 W2 → Ix c G W2)
    (h0 : I 0 G0 w)
    (hround : ∀ (n l k : Nat) (G : Nat → Prop) (W : World) (hk : k < xs.length), I k G W → w.heap.size ≤ l → l < W.heap.size → ¬ G l →
      assign.wpIn (Fence.wide.inRound l) n P (Exit.then (fun a₁ w₁ => Old W w₁ ∧ ∀ W2, Fr (· = l) w₁ W2 → I k G W2 → body.wpIn (Fence.wide.inRound l) n P (rPost I Ix k G W W2) a₁ W2) (fun _ _ _ => False))
        { tmps := (ps.zip xs[k]).foldl (fun t (p, v) => t.setIfInBounds p v) a.tmps, defers := [] } W)
    (hdone : ∀ (D : Nat) (G : Nat → Prop) (W : World), I xs.length G W → w.heap.size ≤ D → ¬ G D → W.heap[D]? = some (.deferred (some [])) → Q .normal { a with defers := { target := .collected D, args := #[] } :: a.defers } W)
    (hstop : ∀ (D : Nat) (c : Code) (G : Nat → Prop) (W : World), Ix c G W → w.heap.size ≤ D → ¬ G D → W.heap[D]? = some (.deferred (some [])) → c.wp P Q { a with defers := { target := .collected D, args := #[] } :: a.defers } W) :
    (Code.rangeFunc g ps assign body).wp P Q a w := by
  refine (wpIn_wide (n := 3)).1 (wpIn_rangeFunc ?_)
  intro fn hfn
  obtain ⟨rec, hrec⟩ : ∃ rec : LoopState → Option Code → Loop, rec = fun st pe => { state := st, pending := pe, fn, tmps := a.tmps, params := ps, assign, body, defers := w.heap.size } := ⟨_, rfl⟩
  obtain ⟨W1, hW1⟩ : ∃ W1, (w.alloc (.deferred (some []))).alloc (.loop (rec .ready none)) = W1 := ⟨_, rfl⟩
  obtain ⟨l, hl⟩ : ∃ l, l = w.heap.size + 1 := ⟨_, rfl⟩
  obtain ⟨D, hD⟩ : ∃ D, D = w.heap.size := ⟨_, rfl⟩
  have hL1 : W1.heap[l]? = some (.loop (rec .ready none)) := by
    rw [← hW1, hl]; have := World.alloc_heap_new (w.alloc (.deferred (some []))) (.loop (rec .ready none)); rwa [World.size_alloc] at this
  have hK1 : W1.heap[D]? = some (.deferred (some [])) := by
    rw [← hW1, hD]; exact heapAlloc (World.alloc_heap_new w _) _
  have hOld : Old w W1 := by rw [← hW1]; exact ((Fr.refl _ _).alloc _).alloc _
  have hsz : W1.heap.size = w.heap.size + 2 := by rw [← hW1]; simp
  have hG0lt := hlt 0 G0 w h0
  refine ⟨w.heap.size + 1, [{ target := .collected w.heap.size, args := #[] }], W1, { target := .fn (.func gf) lb, args := #[.func (.yield (w.heap.size + 1)) #[] #[]] }, W1, gf,
    #[.func (.yield (w.heap.size + 1)) #[] #[]] ++ lb, W1, ?_, ?_, ?_, ?_, fun h => by simp [Fence.wide] at h, ?_⟩
  · rw [← hW1, hrec]; exact run_enterLoop_outer _ _ _ _ _
  · simp only [resolve, hg]
    simp [go_sem]
  · intro f' hf'; trivial
  · simp [invoke, go_sem, eg]
  · rw [← hl, ← hD]
    refine (hseq (3 - 1) l
      (fun k G W => ∃ G1, I k G1 W ∧ (∀ b, G b ↔ G1 b ∨ b = l ∨ b = D) ∧ ¬ G1 l ∧ ¬ G1 D ∧ W.heap[l]? = some (.loop (rec .ready none)) ∧ W.heap[D]? = some (.deferred (some [])))
      (fun G W => ∃ c G1, Ix c G1 W ∧ (∀ b, G b ↔ G1 b ∨ b = l ∨ b = D) ∧ ¬ G1 l ∧ ¬ G1 D ∧ W.heap[l]? = some (.loop (rec .done (some c))) ∧ W.heap[D]? = some (.deferred (some [])))
      W1 (fun b => G0 b ∨ b = l ∨ b = D) (hOld.mono (fun _ _ f => f.elim)) ?_ ?_ ?_ ?_ ?_ ?_).mono ?_
    · rintro b hb (h | h | h)
      · exact hSG b hb h
      · have := hSlt b hb; omega
      · have := hSlt b hb; omega
    · rintro k G W ⟨G1, hi, hG, n1, n2, hll, hdd⟩ b hb
      rcases (hG b).1 hb with h | h | h
      · exact hlt k G1 W hi b h
      · subst h; exact ltOf hll
      · subst h; exact ltOf hdd
    · rintro k G A B ⟨G1, hi, hG, n1, n2, hll, hdd⟩ hf
      refine ⟨G1, hI k G1 A B hi (hf.mono (fun i _ h => ⟨by omega, fun h1 => h.2 ((hG i).2 (Or.inl h1))⟩)), hG, n1, n2, hf.at hll (fun h => h.2 ((hG l).2 (Or.inr (Or.inl rfl)))), hf.at hdd (fun h => h.2 ((hG D).2 (Or.inr (Or.inr rfl))))⟩
    · rintro G A B ⟨c, G1, hi, hG, n1, n2, hll, hdd⟩ hf
      refine ⟨c, G1, hIx c G1 A B hi (hf.mono (fun i _ h => ⟨by omega, fun h1 => h.2 ((hG i).2 (Or.inl h1))⟩)), hG, n1, n2, hf.at hll (fun h => h.2 ((hG l).2 (Or.inr (Or.inl rfl)))), hf.at hdd (fun h => h.2 ((hG D).2 (Or.inr (Or.inr rfl))))⟩
    · -- one round
      rintro k G W hk ⟨G1, hi, hG, n1, n2, hll, hdd⟩
      have hlW := ltOf hll
      have hDW := ltOf hdd
      have hy := run_yield (P := P) (args := xs[k]) hll (by rw [hrec]; exact hps _ (List.getElem_mem hk))
      rw [hrec] at hy
      refine ⟨fn, _, assign, body, hy, roundIn_of_wpIn hfn (wpIn_mono (hround _ l k G1 W hk hi (by omega) hlW n1) ?_)⟩
      rintro e a1 w1 hp
      cases e with
      | normal =>
        obtain ⟨hO1, hbody⟩ := hp
        have hl1 := hO1.at hll (fun f => f)
        have hd1 := hO1.at hdd (fun f => f)
        refine ⟨_, run_beginRound hl1 (by rw [hrec]), ?_⟩
        obtain ⟨W2, hW2⟩ : ∃ W2, w1.putObj l (.loop { rec .ready none with state := .busy }) = W2 := ⟨_, rfl⟩
        rw [hW2]
        have hF2 : Fr (· = l) w1 W2 := by rw [← hW2]; exact Fr.putObj _ _ _
        have hl2 : W2.heap[l]? = some (.loop { rec .ready none with state := .busy }) := by rw [← hW2]; exact World.putObj_heap_same (ltOf hl1)
        have hd2 : W2.heap[D]? = some (.deferred (some [])) := hF2.at hd1 (by omega)
        have hi2 : I k G1 W2 := hI k G1 w1 W2 (hI k G1 W w1 hi (hO1.mono (fun _ _ f => f.elim))) (hF2.mono (fun i _ h => by subst h; exact ⟨by omega, n1⟩))
        refine wpIn_mono (hbody W2 hF2 hi2) ?_
        have fin : ∀ (jump : Option Code) (W3 : World), Fr (fun b => G1 b ∨ W.heap.size ≤ b) W2 W3 →
            (Instr.endRound l jump).run P W3 = .ok (.bool jump.isNone) (W3.putObj l (.loop (rec (if jump.isNone then .ready else .done) jump))) ∧
            (W3.putObj l (.loop (rec (if jump.isNone then .ready else .done) jump))).heap[l]? = some (.loop (rec (if jump.isNone then .ready else .done) jump)) ∧
            (W3.putObj l (.loop (rec (if jump.isNone then .ready else .done) jump))).heap[D]? = some (.deferred (some [])) ∧
            Fr G W (W3.putObj l (.loop (rec (if jump.isNone then .ready else .done) jump))) := fun jump W3 hf3 => by
          have hl3 := hf3.at hl2 (by rintro (h | h); exact n1 h; omega)
          have hd3 := hf3.at hd2 (by rintro (h | h); exact n2 h; omega)
          have := run_endRound (P := P) jump hl3
          rw [hrec] at this ⊢
          refine ⟨this, World.putObj_heap_same (ltOf hl3), (World.putObj_heap_other (by omega)).trans hd3, ?_⟩
          have e1 : Fr G W W2 := (hO1.mono (fun _ _ f => f.elim)).trans hF2 (fun i _ h => (hG i).2 (Or.inr (Or.inl h)))
          have e2 : Fr G W W3 := e1.trans hf3 (fun i hi' h => h.elim (fun h => (hG i).2 (Or.inl h)) (fun h => by omega))
          exact e2.trans (Fr.putObj _ _ _) (fun i _ h => (hG i).2 (Or.inr (Or.inl h)))
        have stab : ∀ (W3 : World) (o : Obj) (k' : Nat) (G' : Nat → Prop), I k' G' W3 → ¬ G' l → I k' G' (W3.putObj l o) := fun W3 o k' G' h hn =>
          hI _ _ _ _ h ((Fr.putObj _ _ _).mono (fun i _ h => by subst h; exact ⟨by omega, hn⟩))
        have stabx : ∀ (W3 : World) (o : Obj) (c : Code) (G' : Nat → Prop), Ix c G' W3 → ¬ G' l → Ix c G' (W3.putObj l o) := fun W3 o c G' h hn =>
          hIx _ _ _ _ h ((Fr.putObj _ _ _).mono (fun i _ h => by subst h; exact ⟨by omega, hn⟩))
        have new : ∀ (G' : Nat → Prop), (∀ b, G' b → G1 b ∨ W.heap.size ≤ b) → ¬ G' l ∧ ¬ G' D ∧ ∀ b, (G' b ∨ b = l ∨ b = D) → G b ∨ W.heap.size ≤ b := fun G' h =>
          ⟨fun g => by rcases h l g with h | h; exact n1 h; omega, fun g => by rcases h D g with h | h; exact n2 h; omega,
            fun b hb => by
              rcases hb with hb | hb
              · rcases h b hb with h | h
                · exact Or.inl ((hG b).2 (Or.inl h))
                · exact Or.inr h
              · exact Or.inl ((hG b).2 (Or.inr hb))⟩
        rintro e a3 W3 hp
        cases e with
        | normal =>
          obtain ⟨⟨G', hi3, hG'⟩, hf3⟩ := hp
          obtain ⟨hr, hl4, hd4, hf4⟩ := fin none W3 hf3
          obtain ⟨m1, m2, m3⟩ := new G' hG'
          exact ⟨_, _, hr, .inl ⟨rfl, fun b => G' b ∨ b = l ∨ b = D, ⟨G', stab _ _ _ _ hi3 m1, fun _ => Iff.rfl, m1, m2, hl4, hd4⟩, hf4, m3⟩⟩
        | ret =>
          obtain ⟨⟨G', hi3, hG'⟩, hf3⟩ := hp
          obtain ⟨hr, hl4, hd4, hf4⟩ := fin (some .ret) W3 hf3
          obtain ⟨m1, m2, m3⟩ := new G' hG'
          exact ⟨_, _, hr, .inr ⟨rfl, fun b => G' b ∨ b = l ∨ b = D, ⟨_, G', stabx _ _ _ _ hi3 m1, fun _ => Iff.rfl, m1, m2, hl4, hd4⟩, hf4, m3⟩⟩
        | exit id =>
          obtain ⟨⟨G', hi3, hG'⟩, hf3⟩ := hp
          obtain ⟨hr, hl4, hd4, hf4⟩ := fin (some (.exit id)) W3 hf3
          obtain ⟨m1, m2, m3⟩ := new G' hG'
          exact ⟨_, _, hr, .inr ⟨rfl, fun b => G' b ∨ b = l ∨ b = D, ⟨_, G', stabx _ _ _ _ hi3 m1, fun _ => Iff.rfl, m1, m2, hl4, hd4⟩, hf4, m3⟩⟩
        | goto t =>
          obtain ⟨⟨G', hi3, hG'⟩, hf3⟩ := hp
          obtain ⟨hr, hl4, hd4, hf4⟩ := fin (some (.goto t)) W3 hf3
          obtain ⟨m1, m2, m3⟩ := new G' hG'
          exact ⟨_, _, hr, .inr ⟨rfl, fun b => G' b ∨ b = l ∨ b = D, ⟨_, G', stabx _ _ _ _ hi3 m1, fun _ => Iff.rfl, m1, m2, hl4, hd4⟩, hf4, m3⟩⟩
        | panic ch => exact hp.elim
        | outgrown => exact hp.elim
      | ret => exact hp.elim
      | exit id => exact hp.elim
      | goto t => exact hp.elim
      | panic ch => exact hp.elim
      | outgrown => exact hp.elim
    · exact ⟨G0, hI 0 G0 w W1 h0 (hOld.mono (fun _ _ f => f.elim)), fun _ => Iff.rfl, fun h => by have := hG0lt l h; omega, fun h => by have := hG0lt D h; omega, hL1, hK1⟩
    · -- behind the iterator
      rintro e W2 ⟨⟨v, rfl⟩, (⟨G, G1, hi, hG, n1, n2, hll, hdd⟩ | ⟨G, c, G1, hi, hG, n1, n2, hll, hdd⟩)⟩
      · refine ⟨none, _, by have := run_endLoop (P := P) hll (by rw [hrec]; simp); rw [hrec] at this; exact this, ?_⟩
        have := hdone D G1 (W2.putObj l (.loop { rec .ready none with state := .exhausted })) (hI _ _ _ _ hi ((Fr.putObj _ _ _).mono (fun i _ h => by subst h; exact ⟨by omega, n1⟩))) (by omega) n2 ((World.putObj_heap_other (by omega)).trans hdd)
        rw [hrec] at this; exact this
      · refine ⟨some c, _, by have := run_endLoop (P := P) hll (by rw [hrec]; simp); rw [hrec] at this; exact this, ?_⟩
        have := hstop D c G1 (W2.putObj l (.loop { rec .done (some c) with state := .exhausted })) (hIx _ _ _ _ hi ((Fr.putObj _ _ _).mono (fun i _ h => by subst h; exact ⟨by omega, n1⟩))) (by omega) n2 ((World.putObj_heap_other (by omega)).trans hdd)
        rw [hrec] at this
        exact wpIn_wide.2 this
end Go.Proofs.YtlimgecmolhdhaaGreatDoor
