/- Three objects, of which the first has members. -/
import Derived.Test.YtlimgecmolhdhaaGreatDoorGe
set_option linter.unusedVariables false
set_option linter.unusedSimpArgs false
namespace Go.Proofs.YtlimgecmolhdhaaGreatDoor
open Go.RowKit

abbrev objV (b : Nat) (pr : Value) : Value := .iface 96 (.agg #[.pointer (some ⟨b, 0, none⟩), .int .i64 1, pr])
abbrev noMem : Obj := .cells #[.map none, .slice none 0 0] 94 (0, 0)

/-- A heap of m objects without members. -/
structure KM (w W : World) (H m : Nat) (xs : List Value) (bs : List Nat) (tv : Value) : Prop where
  old : Old w W
  h0 : w.heap.size ≤ H
  hp : W.heap[H]? = some (.cells #[.int .i64 1048576, .int .i64 m, tv] 46 (0, 0))
  row : W.ownsRow 0 79 1 tv m xs
  g0 : ∀ g, tv.ownBlock = some g → w.heap.size ≤ g
  mem : ∀ b ∈ bs, W.heap[b]? = some noMem ∧ w.heap.size ≤ b
  nd : bs.Nodup

theorem row_ne {W : World} {e size n : Nat} {tv : Value} {xs : List Value} (h : W.ownsRow 0 e size tv n xs) {b : Nat} {c : Array Value} {t : TypeId} (hb : W.heap[b]? = some (.cells c t (0, 0))) (hne : t ≠ e) : tv.ownBlock ≠ some b := fun h1 => by
  rcases h.2 with ⟨h2, _⟩ | ⟨g, cap, cur, h2, _, hg, _⟩
  · rw [h2] at h1; simp [Value.ownBlock] at h1
  · rw [h2] at h1; simp [Value.ownBlock] at h1
    rw [h1, hb] at hg
    simp only [Option.some.injEq, Obj.cells.injEq] at hg
    exact hne hg.2.1

section
variable {w W : World} {H m : Nat} {xs : List Value} {bs : List Nat} {tv : Value}

theorem KM.gH (h : KM w W H m xs bs tv) : tv.ownBlock ≠ some H := row_ne h.row h.hp (by decide)

theorem KM.made (h : KM w W H m xs bs tv) {b : Nat} {x : Value} {w' : World} (hp : MadePost W H 1048576 m tv m xs b noMem x w') : ∃ tv', KM w w' H (m + 1) (xs ++ [x]) (bs ++ [b]) tv' := by
  obtain ⟨g, cap, p1, p2, p3, p4, p5, p6, p7⟩ := hp
  have hsz := h.old.size
  refine ⟨_, h.old.trans p7 (fun i hi e => ?_), h.h0, p1, p2, ?_, ?_, ?_⟩
  · rcases e with e | e
    · have := h.h0; omega
    · have := h.g0 i e; omega
  · intro g' e
    simp [Value.ownBlock] at e
    subst e
    rcases p3 with e | e
    · exact h.g0 _ e
    · omega
  · intro b' hb
    rcases List.mem_append.1 hb with hb | hb
    · obtain ⟨h1, h2⟩ := h.mem b' hb
      refine ⟨p7.at h1 (fun e => ?_), h2⟩
      rcases e with e | e
      · rw [e, h.hp] at h1; cases h1
      · exact row_ne h.row h1 (by decide) e
    · simp at hb; subst hb
      exact ⟨p5, by omega⟩
  · rw [List.nodup_append]
    refine ⟨h.nd, by simp, fun a ha b' hb e => ?_⟩
    simp at hb
    have := ltOf (h.mem a ha).1
    omega

theorem KM.nil (h : KM w W H m xs bs tv) (hm : m < 1048576) :
    Calls Tryz.prog 19 #[.pointer (some ⟨H, 0, none⟩), .int .i64 1, .int .i64 (-1)] W fun e w' => e = .returned (.tuple #[.int .i64 m, .int .i64 0]) ∧ ∃ b tv', KM w w' H (m + 1) (xs ++ [objV b .nilIface]) (bs ++ [b]) tv' := by
  refine (make_obj_nil W H 1048576 m 1 (-1) tv m xs (by decide) (by decide) h.hp (by omega) (by omega) (by decide) h.row (by omega) h.gH (fun W' hF hW => ?_)).mono ?_
  · rcases h.row.2 with ⟨rfl, _⟩ | ⟨g, cap, cur, rfl, _⟩
    · exact thing_none 5 _ _ W' H _ _ none 0 0 hW (Or.inr (Or.inl (by decide)))
    · exact thing_none 5 _ _ W' H _ _ _ m cap hW (Or.inr (Or.inl (by decide)))
  · rintro e w' ⟨b, rfl, hp⟩
    obtain ⟨tv', hk⟩ := h.made hp
    exact ⟨rfl, b, tv', hk⟩

theorem KM.keep (h : KM w W H m xs bs tv) (hm : m < 1048576) {p : Nat} (hp : p < m) {b0 : Nat} {pr : Value} (hx : xs[p]? = some (objV b0 pr)) :
    Calls Tryz.prog 19 #[.pointer (some ⟨H, 0, none⟩), .int .i64 1, .int .i64 p] W fun e w' => e = .returned (.tuple #[.int .i64 m, .int .i64 0]) ∧ ∃ b tv', KM w w' H (m + 1) (xs ++ [objV b (objV b0 pr)]) (bs ++ [b]) tv' := by
  refine (make_obj_keep1 W H 1048576 m 1 p tv m xs (.pointer (some ⟨b0, 0, none⟩)) pr (by decide) (by decide) h.hp (by omega) (by omega) (by decide) h.row (by omega) h.gH ?_).mono ?_
  · obtain ⟨g, c, x, rfl, hx1, _, _⟩ := cell_row h.row p hp
    intro W' hF hW
    have hr := hF.row h.row (fun g' hg e => h.gH (by rw [hg, e]))
    obtain ⟨g2, c2, x2, hs, hx2, hc2, hl2⟩ := cell_row hr p hp
    cases hs
    rw [hx] at hx2
    cases hx2
    exact thing_at p _ W' H _ _ g m c _ hW (by omega) (by omega) hc2 hl2
  · rintro e w' ⟨b, rfl, hp⟩
    obtain ⟨tv', hk⟩ := h.made hp
    exact ⟨rfl, b, tv', hk⟩
end

theorem KM.start (w : World) : KM w (w.alloc (.cells #[.int .i64 1048576, .int .i64 0, .slice none 0 0] 46)) w.heap.size 0 [] [] (.slice none 0 0) :=
  ⟨(Fr.refl _ _).alloc _, Nat.le_refl _, heapNew w _, ⟨rfl, Or.inl ⟨rfl, rfl⟩⟩, fun g e => by simp [Value.ownBlock] at e, (fun b hb => by cases hb), List.nodup_nil⟩

/-- Members in block b that hold these; n keys; what they consist of does not lie below L. -/
def MemS (L : Nat) (W : World) (b : Nat) (kvs : List (ByteArray × Value)) (n : Nat) : Prop :=
  ∃ mv ks keys, W.heap[b]? = some (.cells #[mv, ks] 94 (0, 0)) ∧ MapV W mv kvs ∧ W.ownsRow 0 9 1 ks n keys ∧ (∃ a l c, ks = .slice a l c) ∧ (∀ bm, mv = .map (some bm) → L ≤ bm) ∧ ∀ g, ks.ownBlock = some g → L ≤ g

/-- What a setting of members in b may turn. -/
def memF (W : World) (b : Nat) (i : Nat) : Prop := i = b ∨ (∃ es cl, W.heap[i]? = some (.map es cl)) ∨ ∃ cur, W.heap[i]? = some (.cells cur 9 (0, 0))

def isAV (kvs : List (ByteArray × Value)) : Prop := ∀ k v, look k kvs = some v → ∃ x : AV, v = x.v

theorem look_put_self (key : ByteArray) (v : Value) : ∀ kvs : List (ByteArray × Value), look key (put key v kvs) = some v
  | [] => by simp [put, look]
  | p :: r => by
    unfold put
    by_cases e : p.1 = key
    · rw [if_pos e]; simp [look]
    · rw [if_neg e]; simp only [look, if_neg e]; exact look_put_self key v r
theorem look_put_other (key k : ByteArray) (v : Value) (h : key ≠ k) : ∀ kvs : List (ByteArray × Value), look k (put key v kvs) = look k kvs
  | [] => by simp [put, look, h]
  | p :: r => by
    unfold put
    by_cases e : p.1 = key
    · rw [if_pos e]; simp only [look]; rw [if_neg h, if_neg (by rw [e]; exact h)]
    · rw [if_neg e]; simp only [look]; rw [look_put_other key k v h r]
theorem isAV.put {kvs : List (ByteArray × Value)} (h : isAV kvs) (key : ByteArray) (x : AV) : isAV (put key x.v kvs) := fun k v hv => by
  by_cases e : key = k
  · subst e; rw [look_put_self] at hv; cases hv; exact ⟨x, rfl⟩
  · rw [look_put_other key k _ e] at hv; exact h k v hv

section
variable {L : Nat} {W W' : World} {b n : Nat} {kvs : List (ByteArray × Value)}

theorem MemS.cells (h : MemS L W b kvs n) : ∃ c, W.heap[b]? = some (.cells c 94 (0, 0)) := by
  obtain ⟨mv, ks, keys, h1, _⟩ := h
  exact ⟨_, h1⟩
theorem MemS.at {F : Nat → Prop} (h : MemS L W b kvs n) (hF : Fr F W W') (hF2 : ∀ i, F i → ∃ c t, W.heap[i]? = some (.cells c t (0, 0)) ∧ t ≠ 94 ∧ t ≠ 9) : MemS L W' b kvs n := by
  obtain ⟨mv, ks, keys, h1, h2, h3, h4, h5, h6⟩ := h
  refine ⟨mv, ks, keys, hF.at h1 (fun e => ?_), ?_, hF.row h3 (fun g hg e => ?_), h4, h5, h6⟩
  · obtain ⟨c, t, hc, n1, _⟩ := hF2 _ e
    rw [h1] at hc; simp only [Option.some.injEq, Obj.cells.injEq] at hc; exact n1 hc.2.1.symm
  · rcases h2 with h2 | ⟨bm, h2, hM⟩
    · exact Or.inl h2
    · refine Or.inr ⟨bm, h2, hM.at hF (fun e => ?_)⟩
      obtain ⟨c, t, hc, _⟩ := hF2 _ e
      obtain ⟨es, cl, h7, _⟩ := hM
      rw [h7] at hc; cases hc
  · obtain ⟨c, t, hc, _, n2⟩ := hF2 _ e
    exact row_ne h3 hc n2 hg

theorem MemS.own (h : MemS L W b kvs n) (hav : isAV kvs) (key : ByteArray) (o : Option AV) (ho : look key kvs = o.map AV.v) :
    Says W nowhere anyW 44 #[.pointer (some ⟨b, 0, none⟩), .string key] (ownV o) := by
  intro W' hO _
  obtain ⟨mv, ks, keys, h1, h2, _⟩ := h.at hO (fun i f => f.elim)
  exact own_any W' b mv ks kvs key o h1 h2 ho

theorem MemS.set (h : MemS L W b kvs n) (hL : L ≤ W.heap.size) (hav : isAV kvs) (hn : n ≤ 1048576) (key : ByteArray) (x : AV) :
    Calls Tryz.prog 45 #[.pointer (some ⟨b, 0, none⟩), .string key, .agg #[.int .i64 x.k, .int .i64 x.n, .string x.s]] W fun e w' =>
      e = .returned (.tuple #[]) ∧ MemS L w' b (put key x.v kvs) (if look key kvs = none then n + 1 else n) ∧ Fr (fun i => memF W b i ∧ (i = b ∨ L ≤ i)) W w' := by
  obtain ⟨mv, ks, keys, h1, h2, h3, h4, h5, h6⟩ := h
  have hng : ∀ g, ks.ownBlock = some g → g ≠ b := fun g hg e => row_ne h3 h1 (by decide) (by rw [hg, e])
  have fin : ∀ kvs' n' keys' w', SetPost W b mv ks kvs' n' keys' w' → MemS L w' b kvs' n' ∧ Fr (fun i => memF W b i ∧ (i = b ∨ L ≤ i)) W w' := by
    rintro kvs' n' keys' w' ⟨bm, ks', p1, p2, p3, p4, p5, p6, p7⟩
    refine ⟨⟨_, ks', keys', p1, Or.inr ⟨bm, rfl, p2⟩, p3, p6, fun b' e => ?_, fun g hg => ?_⟩, p7.mono (fun i hi e => ?_)⟩
    · cases e
      rcases p4 with e | e
      · exact h5 _ e
      · omega
    · rcases p5 g hg with e | e
      · exact h6 g e
      · omega
    · rcases e with e | e | e
      · exact ⟨Or.inl e, Or.inl e⟩
      · rcases h2 with ⟨h2, _⟩ | ⟨bm', h2, es, cl, hM, _⟩
        · rw [h2] at e; cases e
        · have e' := e
          rw [h2] at e'; cases e'
          exact ⟨Or.inr (Or.inl ⟨es, cl, hM⟩), Or.inr (h5 _ e)⟩
      · refine ⟨Or.inr (Or.inr ?_), Or.inr (h6 _ e)⟩
        rcases h3.2 with ⟨h7, _⟩ | ⟨g, cap, cur, h7, _, hg, _⟩
        · rw [h7] at e; simp [Value.ownBlock] at e
        · rw [h7] at e; simp [Value.ownBlock] at e
          subst e; exact ⟨cur, hg⟩
  rcases h2 with ⟨rfl, rfl⟩ | ⟨bm, rfl, hM⟩
  · refine (set_nil W b ks n keys key x.k x.n x.s h1 h3 h4 hng hn).mono ?_
    rintro e w' ⟨rfl, hp⟩
    have := fin _ _ _ _ hp
    exact ⟨rfl, by simpa [look, put] using this.1, this.2⟩
  · have hbm : bm ≠ b := fun e => by obtain ⟨es, cl, h7, _⟩ := hM; rw [e, h1] at h7; cases h7
    have hgm : ∀ g, ks.ownBlock = some g → g ≠ bm := fun g hg e => by
      obtain ⟨es, cl, h7, _⟩ := hM
      rcases h3.2 with ⟨h8, _⟩ | ⟨g', cap, cur, h8, _, hg', _⟩
      · rw [h8] at hg; simp [Value.ownBlock] at hg
      · rw [h8] at hg; simp [Value.ownBlock] at hg
        rw [hg, e, h7] at hg'; cases hg'
    cases hlk : look key kvs with
    | none =>
      refine (set_new W b bm ks kvs n keys key x.k x.n x.s h1 hM hlk h3 h4 hbm (fun g hg => ⟨hgm g hg, hng g hg⟩) hn).mono ?_
      rintro e w' ⟨rfl, hp⟩
      have := fin _ _ _ _ hp
      exact ⟨rfl, by simpa using this.1, this.2⟩
    | some v =>
      obtain ⟨y, rfl⟩ := hav key v hlk
      refine (set_there W b bm ks kvs n keys key x.k x.n x.s y.k y.n y.s h1 hM hlk h3 h4 hbm hgm).mono ?_
      rintro e w' ⟨rfl, hp⟩
      have := fin _ _ _ _ hp
      exact ⟨rfl, by simpa using this.1, this.2⟩
end
end Go.Proofs.YtlimgecmolhdhaaGreatDoor
