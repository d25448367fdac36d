/- Has; the heap of HeapKeeps. -/
import Derived.Test.YtlimgecmolhdhaaDoorKs
set_option linter.unusedVariables false
set_option linter.unusedSimpArgs false
namespace Go.Proofs.YtlimgecmolhdhaaDoor
open Go.RowKit

set_option maxRecDepth 100000 in
set_option maxHeartbeats 1000000 in
theorem has_ref (w : World) (h : Value) (n : Int) (s : ByteArray) (key : ByteArray) (ty : TypeId) (y : Value) (r : Option AV) (d : Nat)
    (hT : Says w nowhere anyW 19 #[h, .agg #[.int .i64 5, .int .i64 n, .string s]] (.iface ty y)) (hF : Finds w key r d (.iface ty y)) :
    Calls Tryd.prog 13 #[h, .agg #[.int .i64 5, .int .i64 n, .string s], .string key] w fun e w' => e = .returned (.tuple #[.bool r.isSome, .string ⟨#[]⟩, .int .i64 0]) ∧ Old w w' := by
  obtain ⟨xk, xn, xs, hx⟩ : ∃ xk xn xs, r.getD AV.zero = ⟨xk, xn, xs⟩ := ⟨_, _, _, rfl⟩
  have HX := Lib.hid hx; clear hx
  have HF := Lib.hid hF; clear hF
  go_enter Tryd.func13, Tryd.ntmps13
  go_wp2_with (first | (go_at_call 19; refine (hT _ ((Fr.refl _ _).alloc _) trivial).mono ?_; rintro e w1 ⟨rfl, hO1⟩; have hF1 := ((Fr.refl nowhere w).alloc _).old hO1) | (go_at_call 25; refine (find_open _ (.iface ty y) key r d (HF.out.old hF1) HX.out).mono ?_; rintro e w2 ⟨rfl, hO2⟩))
  go_ret3
  exact ⟨rfl, (hF1.old hO2).alloc _⟩

structure KS (w W : World) (H ba bb bc used : Nat) (kvs : List (ByteArray × Value)) (n : Nat) (tv : Value) : Prop where
  old : Old w W
  h0 : w.heap.size ≤ H
  hp : W.heap[H]? = some (.cells #[.int .i64 1048576, .int .i64 used, tv] 50 (0, 0))
  row : W.ownsRow 0 56 1 tv 3 [objV ba .nilIface, objV bb (objV ba .nilIface), objV bc .nilIface]
  g0 : ∀ g, tv.ownBlock = some g → w.heap.size ≤ g
  mem : MemS w.heap.size W ba kvs n
  av : isAV kvs
  mb : W.heap[bb]? = some noMem
  mc : W.heap[bc]? = some noMem
  la : w.heap.size ≤ ba
  ab : ba ≠ bb
  ac : ba ≠ bc

theorem KM.ks {w W : World} {H : Nat} {ba bb bc : Nat} {tv : Value} (h : KM w W H 3 [objV ba .nilIface, objV bb (objV ba .nilIface), objV bc .nilIface] [ba, bb, bc] tv) : KS w W H ba bb bc 3 [] 0 tv := by
  have hn := h.nd
  simp at hn
  exact ⟨h.old, h.h0, h.hp, h.row, h.g0, ⟨_, _, [], (h.mem ba (by simp)).1, Or.inl ⟨rfl, rfl⟩, ⟨rfl, Or.inl ⟨rfl, rfl⟩⟩, ⟨_, _, _, rfl⟩, fun bm e => by (cases e), fun g e => by simp [Value.ownBlock] at e⟩,
    (fun k v hv => by cases hv), (h.mem bb (by simp)).1, (h.mem bc (by simp)).1, (h.mem ba (by simp)).2, hn.1.1, hn.1.2⟩

section
variable {w W W' : World} {H ba bb bc used n : Nat} {kvs : List (ByteArray × Value)} {tv : Value}

theorem KS.later (h : KS w W H ba bb bc used kvs n tv) (hO : Old W W') : KS w W' H ba bb bc used kvs n tv :=
  ⟨h.old.old hO, h.h0, hO.at h.hp (fun f => f), hO.row h.row (fun _ _ f => f), h.g0, h.mem.at hO (fun i f => f.elim), h.av, hO.at h.mb (fun f => f), hO.at h.mc (fun f => f), h.la, h.ab, h.ac⟩

theorem KS.thing (h : KS w W H ba bb bc used kvs n tv) (s : ByteArray) {j : Nat} {x : Value} (hx : [objV ba .nilIface, objV bb (objV ba .nilIface), objV bc .nilIface][j]? = some x) :
    Says W nowhere anyW 19 #[.pointer (some ⟨H, 0, none⟩), .agg #[.int .i64 5, .int .i64 j, .string s]] x := by
  intro W' hO _
  have h' := h.later hO
  have hj : j < 3 := by
    rcases Nat.lt_or_ge j 3 with hj | hj
    · exact hj
    · rw [List.getElem?_eq_none (by simpa using hj)] at hx; cases hx
  obtain ⟨g, c, y, rfl, hy, hc, hl⟩ := cell_row h'.row j hj
  rw [hx] at hy
  cases hy
  exact thing_at j s W' H _ _ g 3 c _ h'.hp hj (by decide) hc hl

theorem nomem_own {b : Nat} (h : W.heap[b]? = some noMem) (key : ByteArray) : Says W nowhere anyW 20 #[.pointer (some ⟨b, 0, none⟩), .string key] (ownV none) :=
  fun W' hO _ => own_nil W' b _ key (hO.at h (fun f => f))

theorem KS.getA (h : KS w W H ba bb bc used kvs n tv) (key : ByteArray) (x : AV) (hx : look key kvs = some x.v) :
    Calls Tryd.prog 12 #[.pointer (some ⟨H, 0, none⟩), .agg #[.int .i64 5, .int .i64 0, .string ⟨#[]⟩], .string key] W fun e w' => e = .returned (.tuple #[x.v, .string ⟨#[]⟩, .int .i64 0]) ∧ Old W w' :=
  get_ref W _ 0 ⟨#[]⟩ key (objV ba .nilIface) (some x) 1 (fun W' hO _ => plain_ref_some _ 0 ⟨#[]⟩ W' 63 _ (fun W'' hO' => h.thing _ (j := 0) rfl W'' (hO.old hO') trivial)) (h.thing _ (j := 0) rfl)
    (Or.inl ⟨_, _, _, some x, rfl, h.mem.own h.av key (some x) hx, Or.inl ⟨rfl, rfl⟩⟩)

theorem KS.getB (h : KS w W H ba bb bc used kvs n tv) (key : ByteArray) (x : AV) (hx : look key kvs = some x.v) :
    Calls Tryd.prog 12 #[.pointer (some ⟨H, 0, none⟩), .agg #[.int .i64 5, .int .i64 1, .string ⟨#[]⟩], .string key] W fun e w' => e = .returned (.tuple #[x.v, .string ⟨#[]⟩, .int .i64 0]) ∧ Old W w' :=
  get_ref W _ 1 ⟨#[]⟩ key (objV bb (objV ba .nilIface)) (some x) 2 (fun W' hO _ => plain_ref_some _ 1 ⟨#[]⟩ W' 63 _ (fun W'' hO' => h.thing _ (j := 1) rfl W'' (hO.old hO') trivial)) (h.thing _ (j := 1) rfl)
    (Or.inl ⟨_, _, _, none, rfl, nomem_own h.mb key, Or.inr ⟨rfl, Or.inl ⟨_, _, _, some x, rfl, h.mem.own h.av key (some x) hx, Or.inl ⟨rfl, rfl⟩⟩⟩⟩)

theorem KS.hasC (h : KS w W H ba bb bc used kvs n tv) (key : ByteArray) :
    Calls Tryd.prog 13 #[.pointer (some ⟨H, 0, none⟩), .agg #[.int .i64 5, .int .i64 2, .string ⟨#[]⟩], .string key] W fun e w' => e = .returned (.tuple #[.bool false, .string ⟨#[]⟩, .int .i64 0]) ∧ Old W w' :=
  has_ref W _ 2 ⟨#[]⟩ key _ _ none 1 (h.thing _ (j := 2) rfl) (Or.inl ⟨_, _, _, none, rfl, nomem_own h.mc key, Or.inr ⟨rfl, rfl, rfl⟩⟩)

theorem KS.set (h : KS w W H ba bb bc used kvs n tv) (hu : used < 1048576) (hn : n ≤ 1048576) (key : ByteArray) (m : Int) (h1 : -9007199254740991 < m) (h2 : m < 9007199254740991) :
    Calls Tryd.prog 11 #[.pointer (some ⟨H, 0, none⟩), .agg #[.int .i64 5, .int .i64 0, .string ⟨#[]⟩], .string key, .agg #[.int .i64 3, .int .i64 m, .string ⟨#[]⟩]] W fun e w' =>
      e = .returned (.tuple #[.string ⟨#[]⟩, .int .i64 0]) ∧ ∃ used' n', used' ≤ used + 1 ∧ n' ≤ n + 1 ∧ KS w w' H ba bb bc used' (put key (AV.v ⟨3, m, ⟨#[]⟩⟩) kvs) n' tv ∧ ∀ (b : Nat) (c : Array Value), W.heap[b]? = some (.cells c 35 (0, 0)) → w'.heap[b]? = some (.cells c 35 (0, 0)) := by
  have hsz := h.old.size
  have fin : ∀ (W2 w' : World) (used' n' : Nat), Fr (· = H) W W2 → W2.heap[H]? = some (.cells #[.int .i64 1048576, .int .i64 used', tv] 50 (0, 0)) → MemS w.heap.size w' ba (put key (AV.v ⟨3, m, ⟨#[]⟩⟩) kvs) n' →
      Fr (fun i => memF W2 ba i ∧ (i = ba ∨ w.heap.size ≤ i)) W2 w' → KS w w' H ba bb bc used' (put key (AV.v ⟨3, m, ⟨#[]⟩⟩) kvs) n' tv := by
    intro W2 w' used' n' hF hH hM hF2
    have not : ∀ {i : Nat} {c : Array Value} {t : TypeId}, W2.heap[i]? = some (.cells c t (0, 0)) → i ≠ ba → t ≠ 9 → ¬ memF W2 ba i := fun hi h3 h4 e => by
      rcases e with e | ⟨es, cl, e⟩ | ⟨cur, e⟩
      · exact h3 e
      · rw [hi] at e; cases e
      · rw [hi] at e; simp only [Option.some.injEq, Obj.cells.injEq] at e; exact h4 e.2.1
    have neH : ∀ {i : Nat} {c : Array Value}, W.heap[i]? = some (.cells c 61 (0, 0)) → i ≠ H := fun hi e => by rw [e, h.hp] at hi; cases hi
    have hba := h.mem.cells
    obtain ⟨cba, hba⟩ := hba
    have hrow2 := hF.row h.row (fun g hg e => row_ne h.row h.hp (by decide) (by rw [hg, e]))
    have mb2 := hF.at h.mb (neH h.mb)
    have mc2 := hF.at h.mc (neH h.mc)
    refine ⟨(h.old.trans hF (fun i hi e => ?_)).trans hF2 (fun i hi e => ?_), h.h0, hF2.at hH (fun e => not hH (fun e' => neH hba e'.symm) (by decide) e.1), hF2.row hrow2 (fun g hg e => ?_), h.g0, hM, h.av.put key ⟨3, m, ⟨#[]⟩⟩,
      hF2.at mb2 (fun e => not mb2 (fun e' => h.ab e'.symm) (by decide) e.1), hF2.at mc2 (fun e => not mc2 (fun e' => h.ac e'.symm) (by decide) e.1), h.la, h.ab, h.ac⟩
    · have := h.h0; omega
    · have := h.la; rcases e.2 with e | e <;> omega
    · rcases hrow2.2 with ⟨h7, _⟩ | ⟨g', cap, cur, h7, _, hg', _⟩
      · rw [h7] at hg; simp [Value.ownBlock] at hg
      · rw [h7] at hg; simp [Value.ownBlock] at hg
        subst hg
        refine not hg' (fun e' => ?_) (by decide) e.1
        have hba2 := hF.at hba (neH hba)
        rw [e', hba2] at hg'; cases hg'
  have beside : ∀ (W2 w' : World), Fr (· = H) W W2 → Fr (fun i => memF W2 ba i ∧ (i = ba ∨ w.heap.size ≤ i)) W2 w' → ∀ (b : Nat) (c : Array Value), W.heap[b]? = some (.cells c 35 (0, 0)) → w'.heap[b]? = some (.cells c 35 (0, 0)) := by
    intro W2 w' hF hF2 b c hb
    obtain ⟨cba, hba⟩ := h.mem.cells
    have hb2 := hF.at hb (fun e => by rw [e, h.hp] at hb; simp only [Option.some.injEq, Obj.cells.injEq] at hb; exact absurd hb.2.1 (by decide))
    refine hF2.at hb2 (fun e => ?_)
    rcases e.1 with e | ⟨es, cl, e⟩ | ⟨cur, e⟩
    · have hne : ba ≠ H := fun e => by rw [e, h.hp] at hba; cases hba
      rw [e, hF.at hba hne] at hb2; simp only [Option.some.injEq, Obj.cells.injEq] at hb2; exact absurd hb2.2.1 (by decide)
    · rw [hb2] at e; cases e
    · rw [hb2] at e; simp only [Option.some.injEq, Obj.cells.injEq] at e; exact absurd e.2.1 (by decide)
  cases hlk : look key kvs with
  | none =>
    refine (Set_new W H 1048576 used tv ba 1 .nilIface 5 0 ⟨#[]⟩ 3 m ⟨#[]⟩ key 0 0 ⟨#[]⟩ 3 m ⟨#[]⟩ (fun A B => MemS w.heap.size B ba (put key (AV.v ⟨3, m, ⟨#[]⟩⟩) kvs) (n + 1) ∧ Fr (fun i => memF A ba i ∧ (i = ba ∨ w.heap.size ≤ i)) A B) h.hp (by omega) (by omega) (by decide) rfl
      (h.thing _ (j := 0) rfl) (h.mem.own h.av key none hlk) (fun W' _ _ => plain_num_mid _ _ _ W' h1 h2) (fun W' hF _ => ?_)).mono ?_
    · have hM : MemS w.heap.size W' ba kvs n := h.mem.at hF (fun i e => by have e' : i = H := e; subst e'; exact ⟨_, _, h.hp, by decide, by decide⟩)
      have hs := hM.set (by have := hF.size; omega) h.av hn key ⟨3, m, ⟨#[]⟩⟩
      rw [if_pos hlk] at hs
      exact hs
    · rintro e w' ⟨rfl, W2, hF, hH, hM, hF2⟩
      exact ⟨rfl, used + 1, n + 1, Nat.le_refl _, Nat.le_refl _, fin W2 w' (used + 1) (n + 1) hF hH hM hF2, beside W2 w' hF hF2⟩
  | some v =>
    obtain ⟨y, rfl⟩ := h.av key v hlk
    refine (Set_there W (.pointer (some ⟨H, 0, none⟩)) ba 1 .nilIface 5 0 ⟨#[]⟩ 3 m ⟨#[]⟩ key y.k y.n y.s 3 m ⟨#[]⟩ (fun A B => MemS w.heap.size B ba (put key (AV.v ⟨3, m, ⟨#[]⟩⟩) kvs) n ∧ Fr (fun i => memF A ba i ∧ (i = ba ∨ w.heap.size ≤ i)) A B) rfl
      (h.thing _ (j := 0) rfl) (h.mem.own h.av key (some y) hlk) (fun W' _ _ => plain_num_mid _ _ _ W' h1 h2) (fun W' hF _ => ?_)).mono ?_
    · have hM : MemS w.heap.size W' ba kvs n := h.mem.at hF (fun i e => e.elim)
      have hs := hM.set (by have := hF.size; omega) h.av hn key ⟨3, m, ⟨#[]⟩⟩
      rw [if_neg (by rw [hlk]; simp)] at hs
      exact hs
    · rintro e w' ⟨rfl, W2, hF, hM, hF2⟩
      exact ⟨rfl, used, n, by omega, by omega, fin W2 w' used n (hF.mono (fun _ _ f => f.elim)) (hF.at h.hp (fun f => f)) hM hF2, beside W2 w' (hF.mono (fun _ _ f => f.elim)) hF2⟩
end
end Go.Proofs.YtlimgecmolhdhaaDoor
