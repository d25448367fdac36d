/- What union knows behind some parts. -/
import Derived.Test.YtmheonaddidbjaaGreatDoorVu
set_option linter.unusedVariables false
set_option linter.unusedSimpArgs false
namespace Go.Proofs.YtmheonaddidbjaaGreatDoor
open Go.RowKit

variable {B : Nat}

theorem cntK_snoc (l : List Ty) (p : Ty) (k : Int) : cntK (l ++ [p]) k = cntK l k + if p.kind = k then 1 else 0 := by
  unfold cntK
  rw [List.filter_append, List.length_append]
  by_cases e : p.kind = k <;> simp [e]
theorem cntE_snoc (l : List Ty) (p : Ty) (s : Bs) : cntE (l ++ [p]) s = cntE l s + if p.kind = 19 ∧ tx p = s then 1 else 0 := by
  unfold cntE
  rw [List.filter_append, List.length_append]
  by_cases e : p.kind = 19 ∧ tx p = s
  · rw [List.filter_cons, if_pos (by simpa using e), if_pos e]; rfl
  · rw [List.filter_cons, if_neg (by simpa using e), if_neg e]; rfl
theorem cntK_le (l : List Ty) (k : Int) : cntK l k ≤ l.length := List.length_filter_le _ _
theorem cntE_le (l : List Ty) (s : Bs) : cntE l s ≤ l.length := List.length_filter_le _ _

theorem thereOk_put {kv : List (Int × Value)} {l : List Ty} (h : ThereOk kv l) (p : Ty) : ThereOk (put p.kind (.int .i64 ((cntK l p.kind : Int) + 1)) kv) (l ++ [p]) := fun k => by
  rw [cntK_snoc]
  by_cases e : p.kind = k
  · subst e; rw [look_put_self]; simp
  · rw [look_put_other _ _ _ e, h k, if_neg e]; simp
theorem enumOk_put {kv : List (ByteArray × Value)} {l : List Ty} (h : EnumOk kv l) (p : Ty) (h19 : p.kind = 19) : EnumOk (put (S (tx p)) (.int .i64 ((cntE l (tx p) : Int) + 1)) kv) (l ++ [p]) := fun s => by
  rw [cntE_snoc]
  by_cases e : tx p = s
  · subst e; rw [look_put_self, if_pos ⟨h19, rfl⟩]; simp
  · rw [look_put_other _ _ _ (fun f => e (S_inj f)), h s, if_neg (fun f => e f.2)]; simp
theorem enumOk_skip {kv : List (ByteArray × Value)} {l : List Ty} (h : EnumOk kv l) (p : Ty) (h19 : p.kind ≠ 19) : EnumOk kv (l ++ [p]) := fun s => by
  rw [cntE_snoc, h s, if_neg (fun f => h19 f.1)]; simp

/-- Blocks that are not looked into: those of N, and what is new. -/
abbrev NW (N : Nat → Prop) (w : World) : Nat → Prop := fun i => N i ∨ w.heap.size ≤ i

structure USt (B : Nat) (w : World) (N : Nat → Prop) (C1 C2 C3 m1 m2 : Nat) (l1 l2 : List Ty) (q : List (Ty × Nat)) (v : Value) (Ds : List Nat) (W : World) : Prop where
  c1 : W.heap[C1]? = some (.cells #[.map (some m1)] 139 (0, 0))
  c2 : W.heap[C2]? = some (.cells #[.map (some m2)] 56 (0, 0))
  c3 : W.heap[C3]? = some (.cells #[v] 55 (0, 0))
  row : W.ownsRow w.heap.size 74 1 v q.length (q.map fun p => ptr p.2)
  h1 : ∃ kv, MapIs intKey W m1 kv ∧ ThereOk kv l1
  h2 : ∃ kv, MapIs strKey W m2 kv ∧ EnumOk kv l2
  tq : TQ W (NW N w) q
  up : Same B w W
  mks : MarksOk W Ds
  lo : (w.heap.size ≤ C1 ∧ w.heap.size ≤ C2 ∧ w.heap.size ≤ C3 ∧ w.heap.size ≤ m1 ∧ w.heap.size ≤ m2) ∧ (∀ D ∈ Ds, w.heap.size ≤ D) ∧ m1 ≠ m2 ∧ C1 ≠ C3 ∧ C2 ≠ C3

theorem push_formB {w1 : World} {base : Nat} {v v' : Value} {n e size B : Nat} {xs : List Value} (h : w1.ownsRow base e size v' (n + 1) xs) (hat : v'.ownBlock = v.ownBlock ∨ v'.ownBlock = some B) :
    ∃ g cap, v' = .slice (some ⟨g, 0, none⟩) (n + 1) cap ∧ (v.ownBlock = some g ∨ g = B) := by
  rcases h.2 with ⟨_, h0⟩ | ⟨g, cap, _, rfl, _⟩
  · omega
  · refine ⟨g, cap, rfl, ?_⟩
    rcases hat with h | h
    · exact Or.inl h.symm
    · simp [Value.ownBlock] at h; exact Or.inr h
theorem zip1 (p : Tmp) (x : Value) (t : Array Value) : (#[p].zip #[x]).foldl (fun t (p, v) => t.setIfInBounds p v) t = t.setIfInBounds p x := by simp

section
variable {w W W' : World} {N : Nat → Prop} {C1 C2 C3 m1 m2 : Nat} {l1 l2 : List Ty} {q : List (Ty × Nat)} {v : Value} {Ds : List Nat}

theorem USt.up_ {F : Nat → Prop} (h : USt B w N C1 C2 C3 m1 m2 l1 l2 q v Ds W) (hU : Up B F W W') (hF : ∀ i, F i → w.heap.size ≤ i ∧ i ≠ C1 ∧ i ≠ C2 ∧ i ≠ C3 ∧ i ≠ m1 ∧ i ≠ m2 ∧ v.ownBlock ≠ some i ∧ i ∉ Ds) : USt B w N C1 C2 C3 m1 m2 l1 l2 q v Ds W' := by
  have n : ∀ c e, (Obj.cells #[e] 139 (0, 0)) ≠ .cells c 84 (0, 0) := fun c e f => by cases f
  refine ⟨hU.at h.c1 (fun f => (hF _ f).2.1 rfl) (fun c e => by cases e), hU.at h.c2 (fun f => (hF _ f).2.2.1 rfl) (fun c e => by cases e), hU.at h.c3 (fun f => (hF _ f).2.2.2.1 rfl) (fun c e => by cases e),
    hU.row h.row (fun g hg f => (hF _ f).2.2.2.2.2.2.1 hg) (by decide), ?_, ?_, h.tq.up hU (fun i f => Or.inr (hF i f).1) (fun i _ f => f), h.up.trans hU (fun i hi f => by (have := (hF i f).1; omega)), h.mks.up hU (fun D hD f => (hF _ f).2.2.2.2.2.2.2 hD), h.lo⟩
  · obtain ⟨kv, a, b⟩ := h.h1
    exact ⟨kv, hU.map a (fun f => (hF _ f).2.2.2.2.1 rfl), b⟩
  · obtain ⟨kv, a, b⟩ := h.h2
    exact ⟨kv, hU.map a (fun f => (hF _ f).2.2.2.2.2.1 rfl), b⟩
theorem USt.same (h : USt B w N C1 C2 C3 m1 m2 l1 l2 q v Ds W) (hU : Same B W W') : USt B w N C1 C2 C3 m1 m2 l1 l2 q v Ds W' := h.up_ hU (fun _ f => f.elim)

/-- A map's block is none of the other ones. -/
theorem USt.mapNe (h : USt B w N C1 C2 C3 m1 m2 l1 l2 q v Ds W) {m : Nat} {es : Array MapEntry} {c : Nat} (hm : W.heap[m]? = some (.map es c)) : m ≠ C1 ∧ m ≠ C2 ∧ m ≠ C3 ∧ v.ownBlock ≠ some m ∧ m ∉ Ds := by
  refine ⟨fun e => ?_, fun e => ?_, fun e => ?_, row_type h.row hm (fun c e => by cases e), fun e => ?_⟩
  · rw [e, h.c1] at hm; cases hm
  · rw [e, h.c2] at hm; cases hm
  · rw [e, h.c3] at hm; cases hm
  · rw [h.mks.2 m e] at hm; cases hm

/-- there[p.kind]++. -/
theorem USt.there (h : USt B w N C1 C2 C3 m1 m2 l1 l2 q v Ds W) (p : Ty) :
    ∃ W', (Instr.mapUpdate 139 (.map (some m1)) (.int .i64 p.kind) (.int .i64 ((cntK l1 p.kind : Int) + 1))).run Tryz.prog W = .ok () W' ∧ USt B w N C1 C2 C3 m1 m2 (l1 ++ [p]) l2 q v Ds W' ∧ Fr (· = m1) W W' := by
  obtain ⟨kv, hm, hk⟩ := h.h1
  obtain ⟨W', hr, hm', hF⟩ := run_put keyI ty_mapi hm p.kind (.int .i64 ((cntK l1 p.kind : Int) + 1))
  have hm0 := hm
  obtain ⟨es, c, hx, _⟩ := hm0
  obtain ⟨n1, n2, n3, n4, n5⟩ := h.mapNe hx
  obtain ⟨⟨o1, o2, o3, o4, o5⟩, o6, o7, o8, o9⟩ := h.lo
  have hU : Up B (· = m1) W W' := hF.up
  refine ⟨W', hr, ⟨hF.at h.c1 (fun e => n1 e.symm), hF.at h.c2 (fun e => n2 e.symm), hF.at h.c3 (fun e => n3 e.symm), hF.row h.row (fun g hg e => n4 (by rw [hg, e])), ⟨_, hm', thereOk_put hk p⟩, ?_, h.tq.up hU (fun i e => Or.inr (by rw [e]; exact o4)) (fun i _ f => f), h.up.trans hU (fun i hi e => by omega), h.mks.up hU (fun D hD e => n5 (e ▸ hD)), h.lo⟩, hF⟩
  obtain ⟨kv2, a, b⟩ := h.h2
  exact ⟨kv2, a.at hF (fun e => o7 e.symm), b⟩
/-- enums[p.text()]++. -/
theorem USt.enum (h : USt B w N C1 C2 C3 m1 m2 l1 l2 q v Ds W) (p : Ty) (h19 : p.kind = 19) :
    ∃ W', (Instr.mapUpdate 56 (.map (some m2)) (.string (S (tx p))) (.int .i64 ((cntE l2 (tx p) : Int) + 1))).run Tryz.prog W = .ok () W' ∧ USt B w N C1 C2 C3 m1 m2 l1 (l2 ++ [p]) q v Ds W' ∧ Fr (· = m2) W W' := by
  obtain ⟨kv, hm, hk⟩ := h.h2
  obtain ⟨W', hr, hm', hF⟩ := run_put keyS ty_map hm (S (tx p)) (.int .i64 ((cntE l2 (tx p) : Int) + 1))
  have hm0 := hm
  obtain ⟨es, c, hx, _⟩ := hm0
  obtain ⟨n1, n2, n3, n4, n5⟩ := h.mapNe hx
  obtain ⟨⟨o1, o2, o3, o4, o5⟩, o6, o7, o8, o9⟩ := h.lo
  have hU : Up B (· = m2) W W' := hF.up
  refine ⟨W', hr, ⟨hF.at h.c1 (fun e => n1 e.symm), hF.at h.c2 (fun e => n2 e.symm), hF.at h.c3 (fun e => n3 e.symm), hF.row h.row (fun g hg e => n4 (by rw [hg, e])), ?_, ⟨_, hm', enumOk_put hk p h19⟩, h.tq.up hU (fun i e => Or.inr (by rw [e]; exact o5)) (fun i _ f => f), h.up.trans hU (fun i hi e => by omega), h.mks.up hU (fun D hD e => n5 (e ▸ hD)), h.lo⟩, hF⟩
  obtain ⟨kv1, a, b⟩ := h.h1
  exact ⟨kv1, a.at hF (fun e => o7 e), b⟩
theorem USt.skip (h : USt B w N C1 C2 C3 m1 m2 l1 l2 q v Ds W) (p : Ty) (h19 : p.kind ≠ 19) : USt B w N C1 C2 C3 m1 m2 l1 (l2 ++ [p]) q v Ds W := by
  obtain ⟨kv2, a, b⟩ := h.h2
  exact ⟨h.c1, h.c2, h.c3, h.row, h.h1, ⟨kv2, a, enumOk_skip b p h19⟩, h.tq, h.up, h.mks, h.lo⟩
/-- all = append(all, p): behind the append and the store. -/
theorem USt.push {v' : Value} {W1 : World} (h : USt B w N C1 C2 C3 m1 m2 l1 l2 q v Ds W) (p : Ty) (b : Nat) (hp : TY W (NW N w) p b) (hg : (W.alloc (.cells #[ptr b] 74)).grownBy W1 v.ownBlock) (hrow : W1.ownsRow w.heap.size 74 1 v' (q.length + 1) ((q.map fun p => ptr p.2) ++ [ptr b]))
    (hat : v'.ownBlock = v.ownBlock ∨ v'.ownBlock = some (W.heap.size + 1)) : USt B w N C1 C2 C3 m1 m2 l1 l2 (q ++ [(p, b)]) v' Ds (W1.setCell ⟨C3, 0, none⟩ v') ∧ Up B (fun i => v.ownBlock = some i ∨ i = C3) W (W1.setCell ⟨C3, 0, none⟩ v') := by
  obtain ⟨⟨o1, o2, o3, o4, o5⟩, o6, o7, o8, o9⟩ := h.lo
  have hF1 : Fr (fun i => v.ownBlock = some i) W W1 := ((Fr.refl _ _).alloc _).grown hg (fun k hk => Or.inr hk)
  have hF2 : Fr (fun i => v.ownBlock = some i ∨ i = C3) W (W1.setCell ⟨C3, 0, none⟩ v') := Fr.setCell (F := fun i => v.ownBlock = some i ∨ i = C3) (p := ⟨C3, 0, none⟩) (hF1.mono (fun i _ e => Or.inl e)) (Or.inr (Or.inr rfl)) v'
  have hU : Up B (fun i => v.ownBlock = some i ∨ i = C3) W (W1.setCell ⟨C3, 0, none⟩ v') := hF2.up
  have nC : ∀ {b x t}, W.heap[b]? = some (.cells x t (0, 0)) → t ≠ 74 → v.ownBlock ≠ some b := fun hb ht => row_type h.row hb (fun c e => by cases e; exact ht rfl)
  have nM : ∀ {m es c}, W.heap[m]? = some (.map es c) → v.ownBlock ≠ some m ∧ m ≠ C3 := fun hm => ⟨(h.mapNe hm).2.2.2.1, (h.mapNe hm).2.2.1⟩
  have hc3 : W1.heap[C3]? = some (.cells #[v] 55 (0, 0)) := hF1.at h.c3 (nC h.c3 (by decide))
  have hvr : ∀ i, v.ownBlock = some i → w.heap.size ≤ i := fun i hi => (h.row.lt i hi).1
  have tq : TQ W (NW N w) (q ++ [(p, b)]) := fun x hx => by
    rcases List.mem_append.1 hx with hx | hx
    · exact h.tq x hx
    · rw [List.mem_singleton.1 hx]; exact hp
  refine ⟨⟨hF2.at h.c1 (by rintro (e | e); exact nC h.c1 (by decide) e; exact o8 e), hF2.at h.c2 (by rintro (e | e); exact nC h.c2 (by decide) e; exact o9 e), ?_, ?_, ?_, ?_, tq.up hU ?_ (fun i _ f => f), h.up.trans hU ?_, h.mks.up hU ?_, h.lo⟩, hU⟩
  · simpa using setOf hc3 0 v'
  · rw [List.length_append, List.length_singleton, List.map_append]
    refine ownsRow_setCell_other hrow (fun e => ?_) v'
    rcases hat with h1 | h1
    · rw [h1] at e; exact nC h.c3 (by decide) e
    · have e2 : W.heap.size + 1 = C3 := Option.some.inj (h1.symm.trans e)
      have := ltOf h.c3
      omega
  · obtain ⟨kv, a, b⟩ := h.h1
    obtain ⟨es, c, hx, _⟩ := id a
    exact ⟨kv, a.at hF2 (by rintro (e | e); exact (nM hx).1 e; exact (nM hx).2 e), b⟩
  · obtain ⟨kv, a, b⟩ := h.h2
    obtain ⟨es, c, hx, _⟩ := id a
    exact ⟨kv, a.at hF2 (by rintro (e | e); exact (nM hx).1 e; exact (nM hx).2 e), b⟩
  · rintro i (e | e)
    · exact Or.inr (hvr i e)
    · rw [e]; exact Or.inr o3
  · rintro i hi (e | e)
    · have := hvr i e; omega
    · omega
  · rintro D hD (e | e)
    · exact row_type h.row (h.mks.2 D hD) (fun c e => by cases e) e
    · have hd := h.mks.2 D hD
      rw [e, h.c3] at hd; cases hd
theorem USt.mark (h : USt B w N C1 C2 C3 m1 m2 l1 l2 q v Ds W) {D : Nat} (hD : W.heap[D]? = some (.deferred (some []))) (hn : D ∉ Ds) (hlo : w.heap.size ≤ D) : USt B w N C1 C2 C3 m1 m2 l1 l2 q v (D :: Ds) W :=
  ⟨h.c1, h.c2, h.c3, h.row, h.h1, h.h2, h.tq, h.up, ⟨List.nodup_cons.2 ⟨hn, h.mks.1⟩, fun D' h' => by
    rcases List.mem_cons.1 h' with rfl | h'
    · exact hD
    · exact h.mks.2 D' h'⟩, ⟨h.lo.1, fun D' h' => by
    rcases List.mem_cons.1 h' with rfl | h'
    · exact hlo
    · exact h.lo.2.1 D' h', h.lo.2.2⟩⟩
theorem USt.lts (h : USt B w N C1 C2 C3 m1 m2 l1 l2 q v Ds W) : C1 < W.heap.size ∧ C2 < W.heap.size ∧ C3 < W.heap.size ∧ m1 < W.heap.size ∧ m2 < W.heap.size ∧ (∀ g, v.ownBlock = some g → g < W.heap.size) ∧ ∀ D ∈ Ds, D < W.heap.size := by
  obtain ⟨_, a, _⟩ := h.h1
  obtain ⟨_, b, _⟩ := h.h2
  exact ⟨ltOf h.c1, ltOf h.c2, ltOf h.c3, a.lt, b.lt, fun g hg => (h.row.lt g hg).2, fun D hD => ltOf (h.mks.2 D hD)⟩

/-- Behind k parts of one type. -/
def UIn (B : Nat) (w : World) (N : Nat → Prop) (C1 C2 C3 m1 m2 : Nat) (pre ft : List Ty) (bs : List Nat) (Ds : List Nat) (k : Nat) (G : Nat → Prop) (W : World) : Prop :=
  ∃ q v, q.map (·.1) = pre ++ ft.take k ∧ USt B w N C1 C2 C3 m1 m2 (q.map (·.1)) (q.map (·.1)) q v Ds W ∧ TYs W (NW N w) ft bs ∧ ∀ b, G b ↔ b = C3 ∨ b = m1 ∨ b = m2 ∨ v.ownBlock = some b

variable {pre ft : List Ty} {bs : List Nat} {k : Nat} {G : Nat → Prop}
theorem UIn.lt (h : UIn B w N C1 C2 C3 m1 m2 pre ft bs Ds k G W) : ∀ b, G b → b < W.heap.size := fun b hb => by
  obtain ⟨q, v, _, hU, _, hG⟩ := h
  obtain ⟨a1, a2, a3, a4, a5, a6, a7⟩ := hU.lts
  rcases (hG b).1 hb with rfl | rfl | rfl | e
  · exact a3
  · exact a4
  · exact a5
  · exact a6 b e
theorem UIn.keep {w0 : World} (h : UIn B w N C1 C2 C3 m1 m2 pre ft bs Ds k G W) (hF : Fr (fun b => w0.heap.size ≤ b ∧ ¬ G b) W W') (h0 : w.heap.size ≤ w0.heap.size) (hlt : C1 < w0.heap.size ∧ C2 < w0.heap.size ∧ C3 < w0.heap.size ∧ m1 < w0.heap.size ∧ m2 < w0.heap.size ∧ ∀ D ∈ Ds, D < w0.heap.size) :
    UIn B w N C1 C2 C3 m1 m2 pre ft bs Ds k G W' := by
  obtain ⟨q, v, hq, hU, hT, hG⟩ := h
  obtain ⟨a1, a2, a3, a4, a5, a6⟩ := hlt
  exact ⟨q, v, hq, hU.up_ (hF.up (B := B)) (fun i hi => ⟨by omega, by omega, by omega, by omega, by omega, by omega, fun e => hi.2 ((hG i).2 (Or.inr (Or.inr (Or.inr e)))), fun e => by (have := a6 i e; omega)⟩), TYs.up (hF.up (B := B)) (fun i f => Or.inr (by omega)) (fun _ _ f => f) _ _ hT, hG⟩
end
end Go.Proofs.YtmheonaddidbjaaGreatDoor
