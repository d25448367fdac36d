/- A heap of objects, each behind the next. -/
import Derived.Test.YtlimgecmolhdhaaDoorGe
set_option linter.unusedVariables false
set_option linter.unusedSimpArgs false
namespace Go.Proofs.YtlimgecmolhdhaaDoor
open Go.RowKit

/-- The last of the first j objects; their members lie in these blocks. -/
def chain (bs : Nat → Nat) : Nat → Value
  | 0 => .nilIface
  | j + 1 => .iface 63 (.agg #[.pointer (some ⟨bs j, 0, none⟩), .int .i64 1, chain bs j])

theorem chain_same {bs cs : Nat → Nat} : ∀ n, (∀ j, j < n → bs j = cs j) → chain bs n = chain cs n
  | 0, _ => rfl
  | n + 1, h => by simp only [chain]; rw [h n (by omega), chain_same n (fun j hj => h j (by omega))]

/-- The members in block b: none, or the key alone, which is j. -/
def Mem (W : World) (b : Nat) (key : ByteArray) : Option Nat → Prop
  | none => W.heap[b]? = some (.cells #[.map none, .slice none 0 0] 61 (0, 0))
  | some j => ∃ m ks, W.heap[b]? = some (.cells #[.map (some m), ks] 61 (0, 0)) ∧ MapIs strKey W m [(key, .agg #[.int .i64 3, .int .i64 j, .string ⟨#[]⟩])]

theorem Mem.cells {W : World} {b : Nat} {key : ByteArray} {o : Option Nat} (h : Mem W b key o) : ∃ c, W.heap[b]? = some (.cells c 61 (0, 0)) := by
  cases o with
  | none => exact ⟨_, h⟩
  | some j => obtain ⟨m, ks, h, _⟩ := h; exact ⟨_, h⟩

theorem Mem.at {F : Nat → Prop} {W W' : World} {b : Nat} {key : ByteArray} {o : Option Nat} (h : Mem W b key o) (hF : Fr F W W') (hb : ¬ F b) (hm : ∀ m, F m → ∃ c t, W.heap[m]? = some (.cells c t (0, 0))) : Mem W' b key o := by
  cases o with
  | none => exact hF.at h hb
  | some j =>
    obtain ⟨m, ks, h1, h2⟩ := h
    refine ⟨m, ks, hF.at h1 hb, h2.at hF (fun e => ?_)⟩
    obtain ⟨c, t, hc⟩ := hm m e
    obtain ⟨es, cl, h3, _⟩ := h2
    rw [h3] at hc; cases hc

structure BH (w W : World) (H : Nat) (bs : Nat → Nat) (n used : Nat) (key : ByteArray) (i : Nat) (tv : Value) : Prop where
  old : Old w W
  h0 : w.heap.size ≤ H
  hp : W.heap[H]? = some (.cells #[.int .i64 5000, .int .i64 used, tv] 50 (0, 0))
  row : W.ownsRow 0 56 1 tv n ((List.range n).map fun j => chain bs (j + 1))
  g0 : ∀ g, tv.ownBlock = some g → w.heap.size ≤ g
  mem : ∀ j, j < n → Mem W (bs j) key (if j < i then some j else none)
  lo : ∀ j, j < n → w.heap.size ≤ bs j
  inj : ∀ j k, j < n → k < n → bs j = bs k → j = k

section
variable {w W W' : World} {H n used i : Nat} {bs : Nat → Nat} {key : ByteArray} {tv : Value}

theorem BH.gH (h : BH w W H bs n used key i tv) : tv.ownBlock ≠ some H := fun e => by
  rcases h.row.2 with ⟨h1, _⟩ | ⟨g, cap, cur, h1, _, hg, _⟩
  · rw [h1] at e; simp [Value.ownBlock] at e
  · rw [h1] at e; simp [Value.ownBlock] at e
    rw [e, h.hp] at hg; cases hg
theorem BH.bH (h : BH w W H bs n used key i tv) {j : Nat} (hj : j < n) : bs j ≠ H := fun e => by
  obtain ⟨c, hc⟩ := (h.mem j hj).cells
  rw [e, h.hp] at hc; cases hc
theorem BH.gb (h : BH w W H bs n used key i tv) {j : Nat} (hj : j < n) : tv.ownBlock ≠ some (bs j) := fun e => by
  obtain ⟨c, hc⟩ := (h.mem j hj).cells
  rcases h.row.2 with ⟨h1, _⟩ | ⟨g, cap, cur, h1, _, hg, _⟩
  · rw [h1] at e; simp [Value.ownBlock] at e
  · rw [h1] at e; simp [Value.ownBlock] at e
    rw [e, hc] at hg; cases hg

theorem BH.later (h : BH w W H bs n used key i tv) (hO : Old W W') : BH w W' H bs n used key i tv :=
  ⟨h.old.old hO, h.h0, hO.at h.hp (fun f => f), hO.row h.row (fun _ _ f => f), h.g0, fun j hj => (h.mem j hj).at hO (fun f => f) (fun m f => f.elim), h.lo, h.inj⟩

theorem BH.thing (h : BH w W H bs n used key i tv) {j : Nat} (hj : j < n) (hn : n ≤ 1048576) (s : ByteArray) :
    Says W nowhere anyW 19 #[.pointer (some ⟨H, 0, none⟩), .agg #[.int .i64 5, .int .i64 j, .string s]] (chain bs (j + 1)) := by
  intro W' hO _
  have h' := h.later hO
  obtain ⟨g, c, x, rfl, hx, hc, hl⟩ := cell_row h'.row j hj
  have : x = chain bs (j + 1) := by simp [hj] at hx; exact hx.symm
  subst this
  exact thing_at j s W' H _ _ g n c _ h'.hp hj (by omega) hc hl

theorem BH.own (h : BH w W H bs n used key i tv) {j : Nat} (hj : j < n) :
    Says W nowhere anyW 20 #[.pointer (some ⟨bs j, 0, none⟩), .string key] (ownV (if j < i then some ⟨3, j, ⟨#[]⟩⟩ else none)) := by
  intro W' hO _
  have hm := (h.later hO).mem j hj
  by_cases hji : j < i
  · rw [if_pos hji] at hm ⊢
    obtain ⟨m, ks, h1, h2⟩ := hm
    exact own_yes W' (bs j) m ks _ key 3 j ⟨#[]⟩ h1 h2 (by simp [look])
  · rw [if_neg hji] at hm ⊢
    exact own_nil W' (bs j) _ key hm

theorem BH.finds (h : BH w W H bs n used key i tv) (hi : 0 < i) : ∀ {k : Nat}, k < n → Finds W key (some ⟨3, ((min (i - 1) k : Nat) : Int), ⟨#[]⟩⟩) (k + 1) (chain bs (k + 1)) := by
  intro k
  induction k with
  | zero =>
    intro hk
    refine Or.inl ⟨_, _, _, _, rfl, h.own hk, Or.inl ?_⟩
    rw [if_pos hi]
    exact ⟨rfl, by simp⟩
  | succ k ih =>
    intro hk
    refine Or.inl ⟨_, _, _, _, rfl, h.own hk, ?_⟩
    by_cases hki : k + 1 < i
    · rw [if_pos hki]
      exact Or.inl ⟨rfl, by rw [show min (i - 1) (k + 1) = k + 1 by omega]⟩
    · rw [if_neg hki]
      refine Or.inr ⟨rfl, ?_⟩
      rw [show min (i - 1) (k + 1) = min (i - 1) k by omega]
      exact ih (by omega)

theorem BH.get (h : BH w W H bs n used key i tv) (hi : 0 < i) {k : Nat} (hk : k < n) (hn : n ≤ 1048576) :
    Calls Tryd.prog 12 #[.pointer (some ⟨H, 0, none⟩), .agg #[.int .i64 5, .int .i64 k, .string ⟨#[]⟩], .string key] W fun e w' =>
      e = .returned (.tuple #[.agg #[.int .i64 3, .int .i64 ((min (i - 1) k : Nat) : Int), .string ⟨#[]⟩], .string ⟨#[]⟩, .int .i64 0]) ∧ Old W w' :=
  get_ref W _ k ⟨#[]⟩ key _ _ (k + 1) (fun W' hO _ => plain_ref_some _ k ⟨#[]⟩ W' 63 _ (fun W'' hO' => h.thing hk hn _ W'' (hO.old hO') trivial)) (h.thing hk hn _) (h.finds hi hk)

theorem BH.set (h : BH w W H bs n used key i tv) (hi : i < n) (hn : n ≤ 1048576) (hu : used < 5000) :
    Calls Tryd.prog 11 #[.pointer (some ⟨H, 0, none⟩), .agg #[.int .i64 5, .int .i64 i, .string ⟨#[]⟩], .string key, .agg #[.int .i64 3, .int .i64 i, .string ⟨#[]⟩]] W fun e w' =>
      e = .returned (.tuple #[.string ⟨#[]⟩, .int .i64 0]) ∧ BH w w' H bs n (used + 1) key (i + 1) tv := by
  have hm := h.mem i hi
  rw [if_neg (Nat.lt_irrefl i)] at hm
  refine (Set_new W H 5000 used tv (bs i) 1 (chain bs i) 5 i ⟨#[]⟩ 3 i ⟨#[]⟩ key 0 0 ⟨#[]⟩ 3 i ⟨#[]⟩ _ h.hp (by omega) (by omega) (by decide) (by cases i <;> rfl)
    (h.thing hi hn _) (fun W' hF _ => own_nil W' (bs i) _ _ (hF.at hm (fun f => f))) (fun W' _ _ => plain_num_mid _ _ _ W' (by omega) (by omega))
    (fun W' hF _ => set_nil W' (bs i) (.slice none 0 0) 0 [] key 3 i ⟨#[]⟩ (hF.at hm (h.bH hi)) ⟨rfl, Or.inl ⟨rfl, rfl⟩⟩ ⟨_, _, _, rfl⟩ (fun g hg => by simp [Value.ownBlock] at hg) (by decide))).mono ?_
  rintro e w' ⟨rfl, W2, hF, hHW, bm, ks, h1, h2, h3, h4, h5, h6, h7⟩
  have hF7 := h7.mono (G := fun b => b = bs i) (fun b _ e => by
    rcases e with e | e | e
    · exact e
    · cases e
    · simp [Value.ownBlock] at e)
  have hmW2 := hF.at hm (h.bH hi)
  refine ⟨rfl, ⟨(h.old.trans hF (fun b hb e => ?_)).trans hF7 (fun b hb e => ?_), h.h0, ?_, ?_, h.g0, ?_, h.lo, h.inj⟩⟩
  · have := h.h0; omega
  · have := h.lo i hi; omega
  · exact hF7.at hHW (fun e => h.bH hi e.symm)
  · exact hF7.row (hF.row h.row (fun g hg e => h.gH (by rw [hg, e]))) (fun g hg e => h.gb hi (by rw [hg, e]))
  · intro j hj
    by_cases hji : j = i
    · subst hji
      rw [if_pos (by omega)]
      exact ⟨bm, ks, h1, h2⟩
    · have hmj := h.mem j hj
      rw [show (if j < i + 1 then some j else none) = (if j < i then some j else none) by
        by_cases hlt : j < i
        · rw [if_pos hlt, if_pos (by omega)]
        · rw [if_neg hlt, if_neg (by omega)]]
      refine (hmj.at hF (h.bH hj) (fun m e => by subst e; exact ⟨_, _, h.hp⟩)).at hF7 (fun e => hji (h.inj j i hj hi e)) (fun m e => by subst e; exact ⟨_, _, hmW2⟩)

theorem BH.make (h : BH w W H bs n n key 0 tv) (hn : n < 5000) :
    Calls Tryd.prog 10 #[.pointer (some ⟨H, 0, none⟩), .int .i64 1, .int .i64 ((n : Int) - 1)] W fun e w' =>
      e = .returned (.tuple #[.int .i64 n, .int .i64 0]) ∧ ∃ bs' tv', BH w w' H bs' (n + 1) (n + 1) key 0 tv' := by
  have fin : ∀ b w', MadePost W H 5000 n tv n ((List.range n).map fun j => chain bs (j + 1)) b (.cells #[.map none, .slice none 0 0] 61 (0, 0)) (.iface 63 (.agg #[.pointer (some ⟨b, 0, none⟩), .int .i64 1, chain bs n])) w' →
      ∃ bs' tv', BH w w' H bs' (n + 1) (n + 1) key 0 tv' := by
    rintro b w' ⟨g, cap, p1, p2, p3, p4, p5, p6, p7⟩
    have hsz := h.old.size
    have hbs : ∀ j, j < n → bs j < W.heap.size := fun j hj => by obtain ⟨c, hc⟩ := (h.mem j hj).cells; exact ltOf hc
    have same : ∀ j, j ≤ n → chain (fun j => if j = n then b else bs j) j = chain bs j := fun j hj => chain_same j (fun k hk => by rw [if_neg (by omega)])
    refine ⟨fun j => if j = n then b else bs j, _, h.old.trans p7 (fun i hi e => ?_), h.h0, p1, ?_, ?_, ?_, ?_, ?_⟩
    · rcases e with e | e
      · have := h.h0; omega
      · have := h.g0 i e; omega
    · rw [List.range_succ, List.map_append]
      have e1 : (List.range n).map (fun j => chain (fun j => if j = n then b else bs j) (j + 1)) = (List.range n).map fun j => chain bs (j + 1) := List.map_congr_left (fun j hj => same (j + 1) (by simp at hj; omega))
      rw [e1]
      have e2 : [n].map (fun j => chain (fun j => if j = n then b else bs j) (j + 1)) = [.iface 63 (.agg #[.pointer (some ⟨b, 0, none⟩), .int .i64 1, chain bs n])] := by
        simp only [List.map_cons, List.map_nil, chain, same n (Nat.le_refl _), if_true]
      rw [e2]
      exact p2
    · intro g' e
      simp [Value.ownBlock] at e
      subst e
      rcases p3 with e | e
      · exact h.g0 _ e
      · omega
    · intro j hj
      rw [if_neg (Nat.not_lt_zero j)]
      by_cases hjn : j = n
      · simp only [hjn, if_true]; exact p5
      · have hj' : j < n := by omega
        simp only [hjn, if_false]
        have hm := h.mem j hj'
        rw [if_neg (Nat.not_lt_zero j)] at hm
        exact p7.at hm (fun e => e.elim (fun e => h.bH hj' e) (fun e => h.gb hj' e))
    · intro j hj
      by_cases hjn : j = n
      · simp only [hjn, if_true]; omega
      · simp only [hjn, if_false]; exact h.lo j (by omega)
    · intro j k hj hk e
      by_cases hjn : j = n
      · by_cases hkn : k = n
        · omega
        · simp only [hjn, hkn, if_true, if_false] at e
          have := hbs k (by omega); omega
      · by_cases hkn : k = n
        · simp only [hjn, hkn, if_true, if_false] at e
          have := hbs j (by omega); omega
        · simp only [hjn, hkn, if_false] at e
          exact h.inj j k (by omega) (by omega) e
  have hgH := h.gH
  cases n with
  | zero =>
    refine (make_obj_nil W H 5000 (0 : Nat) 1 _ tv 0 _ (by decide) (by decide) h.hp (by decide) (by decide) (by decide) h.row (by decide) hgH (fun W' hF hW => ?_)).mono ?_
    · rcases h.row.2 with ⟨rfl, _⟩ | ⟨g, cap, cur, rfl, _⟩
      · exact thing_none 5 _ _ W' H _ _ none 0 0 hW (Or.inr (by omega))
      · exact thing_none 5 _ _ W' H _ _ _ 0 cap hW (Or.inr (by omega))
    · rintro e w' ⟨b, rfl, hp⟩
      exact ⟨rfl, fin b w' hp⟩
  | succ m =>
    refine (make_obj_keep1 W H 5000 (m + 1 : Nat) 1 _ tv (m + 1) _ (.pointer (some ⟨bs m, 0, none⟩)) (chain bs m) (by decide) (by decide) h.hp (by omega) (by omega) (by decide) h.row (by omega) hgH ?_).mono ?_
    · obtain ⟨g, c, x, rfl, hx, _, _⟩ := cell_row h.row m (by omega)
      intro W' hF hW
      have hr := hF.row h.row (fun g' hg e => h.gH (by rw [hg, e]))
      obtain ⟨g2, c2, x2, hs, hx2, hc2, hl2⟩ := cell_row hr m (by omega)
      cases hs
      have : x2 = chain bs (m + 1) := by simp at hx2; exact hx2.symm
      subst this
      have he : (((m + 1 : Nat) : Int) - 1) = (m : Int) := by omega
      rw [he]
      exact thing_at m _ W' H _ _ g (m + 1) c _ hW (by omega) (by omega) hc2 hl2
    · rintro e w' ⟨b, rfl, hp⟩
      exact ⟨rfl, fin b w' hp⟩

theorem BH.start (w : World) (key : ByteArray) : BH w (w.alloc (.cells #[.int .i64 5000, .int .i64 0, .slice none 0 0] 50)) w.heap.size (fun _ => 0) 0 0 key 0 (.slice none 0 0) :=
  ⟨(Fr.refl _ _).alloc _, Nat.le_refl _, heapNew w _, ⟨rfl, Or.inl ⟨rfl, rfl⟩⟩, fun g e => by simp [Value.ownBlock] at e, fun j hj => by omega, fun j hj => by omega, fun j k hj => by omega⟩
end
end Go.Proofs.YtlimgecmolhdhaaDoor
