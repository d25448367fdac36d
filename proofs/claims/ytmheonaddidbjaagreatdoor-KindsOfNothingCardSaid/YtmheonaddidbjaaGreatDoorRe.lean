/- The arena; lay. -/
import Derived.Test.YtmheonaddidbjaaGreatDoorMd
import Derived.Test.YtmheonaddidbjaaGreatDoorLp
import Derived.Test.YtmheonaddidbjaaGreatDoorMp
import Derived.Maps.AppendAt
import Derived.OwnWalk
set_option linter.unusedVariables false
set_option linter.unusedSimpArgs false
namespace Go.Proofs.YtmheonaddidbjaaGreatDoor
open Go.RowKit

variable {B : Nat}
/-- What an operation on an arena may turn: its own blocks. -/
abbrev Own (B : Nat) (N : Nat → Prop) : Nat → Prop := fun i => N i ∧ B ≤ i

abbrev strKey (s : ByteArray) : Value := .string s
theorem keyS : KeyT Tryz.prog 9 strKey := keyT_string Tryz.underlying9
theorem zeroI (w : World) : (zeroValue 3).run Tryz.prog w = .ok (.int .i64 0) w := by kernel_rfl

theorem Up.row {F : Nat → Prop} {w w' : World} {base e size n : Nat} {v : Value} {xs : List Value} (h : Up B F w w') (ho : w.ownsRow base e size v n xs) (hne : ∀ g, v.ownBlock = some g → ¬ F g) (he : e ≠ 84) : w'.ownsRow base e size v n xs := by
  refine ⟨ho.1, ?_⟩
  rcases ho.2 with hn | ⟨g, cap, cur, rfl, hb, hgg, rest⟩
  · exact .inl hn
  · exact .inr ⟨g, cap, cur, rfl, hb, h.at hgg (hne g rfl) (fun c e => by cases e; exact he rfl), rest⟩
theorem Up.map {F : Nat → Prop} {w w' : World} {m : Nat} {κ : Type} {key : κ → Value} {kvs : List (κ × Value)} (h : Up B F w w') (hm : MapIs key w m kvs) (hF : ¬ F m) : MapIs key w' m kvs := by
  obtain ⟨es, c, h1, h2⟩ := hm
  exact ⟨es, c, h.at h1 hF (fun c e => by cases e), h2⟩

/-- A map value that holds these. -/
def IdsV (w : World) (mv : Value) (kvs : List (ByteArray × Value)) : Prop := (mv = .map none ∧ kvs = []) ∨ ∃ m, mv = .map (some m) ∧ MapIs strKey w m kvs
theorem IdsV.up {F : Nat → Prop} {w w' : World} {mv : Value} {kvs : List (ByteArray × Value)} (h : IdsV w mv kvs) (hU : Up B F w w') (hF : ∀ m, mv = .map (some m) → ¬ F m) : IdsV w' mv kvs :=
  h.imp id (fun ⟨m, h1, h2⟩ => ⟨m, h1, hU.map h2 (hF m h1)⟩)

theorem run_ids {w : World} {mv : Value} {kvs : List (ByteArray × Value)} (h : IdsV w mv kvs) (s : ByteArray) :
    (Instr.lookup 56 mv (.string s) true).run Tryz.prog w = .ok (.tuple #[(look s kvs).getD (.int .i64 0), .bool (look s kvs).isSome]) w := by
  rcases h with ⟨rfl, rfl⟩ | ⟨m, rfl, hm⟩
  · exact run_look_nil keyS Tryz.underlying56 s (zeroI w) true
  · exact run_look keyS Tryz.underlying56 hm s (zeroI w) true

def Keys (kvs : List (ByteArray × Value)) (ts : List Ty) : Prop := ∀ s : Bs, look (S s) kvs = (idx s ts).map fun i => .int .i64 (i : Int)

/-- The arena in block A has these types; N: the blocks of its own. -/
structure AR (B : Nat) (w : World) (A : Nat) (N : Nat → Prop) (ts : List Ty) (tv mv : Value) (bs : List Nat) (kvs : List (ByteArray × Value)) : Prop where
  own : w.heap[A]? = some (.cells #[tv, mv, .map none] 59 (0, 0))
  low : ∀ i, i < B → N i
  bA : B ≤ A
  nA : N A
  nT : ∀ g, tv.ownBlock = some g → N g
  nM : ∀ m, mv = .map (some m) → N m
  bT : ∀ g, tv.ownBlock = some g → B ≤ g
  bM : ∀ m, mv = .map (some m) → B ≤ m
  only : ∀ i, N i → i < B ∨ i = A ∨ tv.ownBlock = some i ∨ mv = .map (some i)
  row : w.ownsRow 0 74 1 tv ts.length (bs.map ptr)
  ids : IdsV w mv kvs
  tys : TYs w N ts bs
  keys : Keys kvs ts
  nd : (ts.map tx).Nodup
  cl : ∀ t ∈ ts, ∀ p ∈ t.parts, (idx (tx p) ts).isSome

section
variable {w w' : World} {A : Nat} {N : Nat → Prop} {ts : List Ty} {tv mv : Value} {bs : List Nat} {kvs : List (ByteArray × Value)}

theorem AR.same (h : AR B w A N ts tv mv bs kvs) (hU : Same B w w') : AR B w' A N ts tv mv bs kvs :=
  ⟨hU.at h.own (fun f => f) (fun c e => by cases e), h.low, h.bA, h.nA, h.nT, h.nM, h.bT, h.bM, h.only, hU.row h.row (fun _ _ f => f) (by decide), h.ids.up hU (fun _ _ f => f), h.tys.same hU, h.keys, h.nd, h.cl⟩
theorem AR.lt (h : AR B w A N ts tv mv bs kvs) : ∀ i, N i → i < w.heap.size := fun i hi => by
  rcases h.only i hi with e | rfl | e | e
  · exact Nat.lt_of_lt_of_le e (Nat.le_trans h.bA (Nat.le_of_lt (ltOf h.own)))
  · exact ltOf h.own
  · exact (h.row.lt i e).2
  · rcases h.ids with ⟨e2, _⟩ | ⟨m, e2, hm⟩
    · rw [e2] at e; cases e
    · rw [e2] at e; cases e; exact hm.lt
end

def Ar (B : Nat) (w : World) (A : Nat) (N : Nat → Prop) (ts : List Ty) : Prop := ∃ tv mv bs kvs, AR B w A N ts tv mv bs kvs

section
variable {κ : Type} [DecidableEq κ]
theorem look_put_self (key : κ) (v : Value) : ∀ kvs : List (κ × Value), look key (put key v kvs) = some v
  | [] => by simp [put, look]
  | p :: r => by
    unfold put
    by_cases e : p.1 = key
    · rw [if_pos e]; simp [look]
    · rw [if_neg e]; simp only [look, if_neg e]; exact look_put_self key v r
theorem look_put_other (key k : κ) (v : Value) (h : key ≠ k) : ∀ kvs : List (κ × Value), look k (put key v kvs) = look k kvs
  | [] => by simp [put, look, h]
  | p :: r => by
    unfold put
    by_cases e : p.1 = key
    · rw [if_pos e]; simp only [look]; rw [if_neg h, if_neg (by rw [e]; exact h)]
    · rw [if_neg e]; simp only [look]; rw [look_put_other key k v h r]
end

theorem infoPtr : (Tryz.prog.info? 74).map (fun i => (i.zero, i.size, i.bytes)) = some (some (.pointer none), 1, 8) := by kernel_rfl

/-- What is shown of an append of one element: where the new slice lies. -/
theorem push_form {w1 : World} {v v' : Value} {n e size B : Nat} {xs : List Value} (h : w1.ownsRow 0 e size v' (n + 1) xs) (hat : v'.ownBlock = v.ownBlock ∨ v'.ownBlock = some B) :
    ∃ g cap, v' = .slice (some ⟨g, 0, none⟩) (n + 1) cap ∧ (v.ownBlock = some g ∨ g = B) := by
  rcases h.2 with ⟨_, h0⟩ | ⟨g, cap, _, rfl, _⟩
  · omega
  · refine ⟨g, cap, rfl, ?_⟩
    rcases hat with h | h
    · exact Or.inl h.symm
    · simp [Value.ownBlock] at h; exact Or.inr h

section
variable {w w' : World} {A : Nat} {N : Nat → Prop} {ts : List Ty} {tv mv : Value} {bs : List Nat} {kvs : List (ByteArray × Value)}

theorem row_type {W : World} {base e size n : Nat} {v : Value} {xs : List Value} (h : W.ownsRow base e size v n xs) {b : Nat} {o : Obj} (hb : W.heap[b]? = some o) (hne : ∀ c, o ≠ .cells c e (0, 0)) : v.ownBlock ≠ some b := fun h1 => by
  rcases h.2 with ⟨h2, _⟩ | ⟨g, cap, cur, h2, _, hg, _⟩
  · rw [h2] at h1; simp [Value.ownBlock] at h1
  · rw [h2] at h1; simp [Value.ownBlock] at h1
    rw [h1, hb] at hg
    cases hg
    exact hne cur rfl

/-- A map is made. -/
theorem AR.mkmap (h : AR B w A N ts tv (.map none) bs kvs) :
    AR B ((w.setCell ⟨A, 1, none⟩ (.map (some w.heap.size))).alloc (.map #[] 0)) A (fun i => N i ∨ i = w.heap.size) ts tv (.map (some w.heap.size)) bs [] ∧
      Up B (Own B N) w ((w.setCell ⟨A, 1, none⟩ (.map (some w.heap.size))).alloc (.map #[] 0)) := by
  have hA := ltOf h.own
  have hF : Fr (· = A) w ((w.setCell ⟨A, 1, none⟩ (.map (some w.heap.size))).alloc (.map #[] 0)) := (Fr.setCell (F := (· = A)) (p := ⟨A, 1, none⟩) (Fr.refl _ _) (Or.inr rfl) _).alloc _
  have hU : Up B (Own B N) w ((w.setCell ⟨A, 1, none⟩ (.map (some w.heap.size))).alloc (.map #[] 0)) := (hF.mono (fun i _ e => by rw [e]; exact ⟨h.nA, h.bA⟩)).up
  have hk : kvs = [] := by
    rcases h.ids with ⟨_, h⟩ | ⟨m, e, _⟩
    · exact h
    · cases e
  subst hk
  refine ⟨⟨?_, fun i hi => Or.inl (h.low i hi), h.bA, Or.inl h.nA, fun g hg => Or.inl (h.nT g hg), fun m e => Or.inr (by cases e; rfl), h.bT, fun m e => by (cases e; have := h.bA; omega), ?_, ?_, Or.inr ⟨_, rfl, ?_⟩, ?_, h.keys, h.nd, h.cl⟩, hU⟩
  · exact heapAlloc (by simpa using setOf h.own 1 (.map (some w.heap.size))) _
  · rintro i (hi | rfl)
    · rcases h.only i hi with e | e | e | e
      · exact Or.inl e
      · exact Or.inr (Or.inl e)
      · exact Or.inr (Or.inr (Or.inl e))
      · cases e
    · exact Or.inr (Or.inr (Or.inr rfl))
  · exact hF.row h.row (fun g hg e => row_type h.row h.own (fun c e => by cases e) (by rw [hg, e]))
  · simpa using MapIs.new strKey (w.setCell ⟨A, 1, none⟩ (.map (some w.heap.size)))
  · exact TYs.up hU (fun _ f => f.1) (fun i hi h => by rcases h with h | h; exact h; omega) ts bs h.tys

/-- .. and a type is laid at the end. -/
theorem AR.final {m cap g b : Nat} {t : Ty} {W W2 : World} (h : AR B w A N ts tv (.map (some m)) bs kvs) (hT : TY w N t b) (hn : idx (tx t) ts = none) (hcl : ∀ p ∈ t.parts, (idx (tx p) ts).isSome)
    (hW : Fr (· = m) w W) (hM : MapIs strKey W m (put (S (tx t)) (.int .i64 (ts.length : Int)) kvs)) (o : Obj) (hg : (W.alloc o).grownBy W2 tv.ownBlock)
    (hown : W2.ownsRow 0 74 1 (.slice (some ⟨g, 0, none⟩) (ts.length + 1) cap) (ts.length + 1) (bs.map ptr ++ [ptr b])) (hat : tv.ownBlock = some g ∨ g = W.heap.size + 1) :
    ∃ N', Ar B (W2.setCell ⟨A, 0, none⟩ (.slice (some ⟨g, 0, none⟩) (ts.length + 1) cap)) A N' (ts ++ [t]) ∧ Up B (Own B N) w (W2.setCell ⟨A, 0, none⟩ (.slice (some ⟨g, 0, none⟩) (ts.length + 1) cap)) ∧ ∀ i, N' i → N i ∨ w.heap.size ≤ i := by
  have hA := ltOf h.own
  have hm : ∃ es c, w.heap[m]? = some (.map es c) := by
    rcases h.ids with ⟨e, _⟩ | ⟨m', e, es, c, hx, _⟩
    · cases e
    · cases e; exact ⟨es, c, hx⟩
  obtain ⟨es, c, hm⟩ := hm
  have hmA : m ≠ A := fun e => by rw [e, h.own] at hm; cases hm
  have hsz := hW.size
  have hF2 : Fr (fun i => i = m ∨ tv.ownBlock = some i) w W2 := Fr.grown ((hW.mono (fun i _ e => Or.inl e)).alloc o) hg (fun k hk => Or.inr (Or.inr hk))
  have hF3 : Fr (fun i => i = m ∨ tv.ownBlock = some i ∨ i = A) w (W2.setCell ⟨A, 0, none⟩ (.slice (some ⟨g, 0, none⟩) (ts.length + 1) cap)) := (hF2.mono (fun i _ e => by rcases e with e | e; exact Or.inl e; exact Or.inr (Or.inl e))).setCell (Or.inr (Or.inr (Or.inr rfl))) _
  have hU : Up B (Own B N) w (W2.setCell ⟨A, 0, none⟩ (.slice (some ⟨g, 0, none⟩) (ts.length + 1) cap)) := (hF3.mono (fun i _ e => by
    rcases e with e | e | e
    · rw [e]; exact ⟨h.nM m rfl, h.bM m rfl⟩
    · exact ⟨h.nT i e, h.bT i e⟩
    · rw [e]; exact ⟨h.nA, h.bA⟩)).up
  have hTA : tv.ownBlock ≠ some A := row_type h.row h.own (fun c e => by cases e)
  have hTm : tv.ownBlock ≠ some m := row_type h.row hm (fun c e => by cases e)
  have hgA : g ≠ A := by
    rcases hat with e | e
    · exact fun e2 => hTA (by rw [e, e2])
    · omega
  have hgm : g ≠ m := by
    rcases hat with e | e
    · exact fun e2 => hTm (by rw [e, e2])
    · have := ltOf hm; omega
  have hnew : ∀ i, i < w.heap.size → (i < B ∨ i = A ∨ i = g ∨ i = m) → N i := fun i hi e => by
    rcases e with e | e | e | e
    · exact h.low i e
    · rw [e]; exact h.nA
    · rcases hat with e2 | e2
      · rw [e]; exact h.nT g e2
      · omega
    · rw [e]; exact h.nM m rfl
  refine ⟨fun i => i < B ∨ i = A ∨ i = g ∨ i = m, ⟨.slice (some ⟨g, 0, none⟩) (ts.length + 1) cap, .map (some m), bs ++ [b], put (S (tx t)) (.int .i64 (ts.length : Int)) kvs, ⟨?_, fun i hi => Or.inl hi, h.bA, Or.inr (Or.inl rfl), ?_, ?_, ?_, ?_, fun i hi => hi.imp id (fun h => h.imp id (fun h => h.imp (fun h => by rw [h]; rfl) (fun h => by rw [h]))), ?_, Or.inr ⟨m, rfl, ?_⟩, ?_, ?_, ?_, ?_⟩⟩, hU, ?_⟩
  · have hA2 := hF2.at h.own (fun e => by rcases e with e | e; exact hmA e.symm; exact hTA e)
    simpa using setOf hA2 0 (.slice (some ⟨g, 0, none⟩) (ts.length + 1) cap)
  · intro g' e; simp [Value.ownBlock] at e; exact Or.inr (Or.inr (Or.inl e.symm))
  · intro m' e; cases e; exact Or.inr (Or.inr (Or.inr rfl))
  · intro g' e
    simp [Value.ownBlock] at e
    subst e
    rcases hat with e2 | e2
    · exact h.bT g e2
    · have := h.bA; omega
  · intro m' e; cases e; exact h.bM m rfl
  · have := ownsRow_setCell_other hown (a := ⟨A, 0, none⟩) (by simp [Value.ownBlock]; exact hgA) (.slice (some ⟨g, 0, none⟩) (ts.length + 1) cap)
    simpa using this
  · exact ((hM.alloc o).grown hg hTm).set _ (by dsimp only; exact hmA) _
  · have h1 := TYs.up (N' := fun i => i < B ∨ i = A ∨ i = g ∨ i = m) hU (fun _ f => f.1) hnew ts bs h.tys
    have h2 := TY.up (N' := fun i => i < B ∨ i = A ∨ i = g ∨ i = m) hU (fun _ f => f.1) hnew t b hT
    have app : ∀ (l : List Ty) (cs : List Nat), TYs (W2.setCell ⟨A, 0, none⟩ (.slice (some ⟨g, 0, none⟩) (ts.length + 1) cap)) (fun i => i < B ∨ i = A ∨ i = g ∨ i = m) l cs → TYs (W2.setCell ⟨A, 0, none⟩ (.slice (some ⟨g, 0, none⟩) (ts.length + 1) cap)) (fun i => i < B ∨ i = A ∨ i = g ∨ i = m) (l ++ [t]) (cs ++ [b]) := by
      intro l
      induction l with
      | nil => intro cs hc; cases hc; exact ⟨b, [], rfl, h2, rfl⟩
      | cons x l ih => intro cs hc; obtain ⟨y, ys, rfl, q1, q2⟩ := hc; exact ⟨y, ys ++ [b], rfl, q1, ih ys q2⟩
    exact app ts bs h1
  · intro s
    rw [idx_append]
    by_cases e : tx t = s
    · rw [← e, hn, look_put_self]
      simp [idx]
    · rw [look_put_other _ _ _ (fun e2 => e (S_inj e2)), h.keys]
      cases idx s ts with
      | some i => rfl
      | none => simp [idx, e]
  · rw [List.map_append, List.nodup_append]
    refine ⟨h.nd, by simp, fun a ha b' hb e => ?_⟩
    simp at hb
    rw [idx_none] at hn
    rw [e, hb] at ha
    exact hn ha
  · intro u hu p hp
    rcases List.mem_append.1 hu with hu | hu
    · obtain ⟨i, hi⟩ := Option.isSome_iff_exists.1 (h.cl u hu p hp)
      rw [idx_pre hi]; rfl
    · simp at hu; subst hu
      obtain ⟨i, hi⟩ := Option.isSome_iff_exists.1 (hcl p hp)
      rw [idx_pre hi]; rfl
  · intro i hi
    rcases Nat.lt_or_ge i w.heap.size with h1 | h1
    · exact Or.inl (hnew i h1 hi)
    · exact Or.inr h1
end

def LayPost (B : Nat) (w : World) (A : Nat) (N : Nat → Prop) (ts : List Ty) (t : Ty) (e : Ending) (w' : World) : Prop :=
  ∃ (r : Nat) (N' : Nat → Prop), e = .returned (.int .i64 (r : Int)) ∧ idx (tx t) (layP ts t) = some r ∧ Ar B w' A N' (layP ts t) ∧ Up B (Own B N) w w' ∧ ∀ i, N' i → N i ∨ w.heap.size ≤ i

theorem TY.parts_ {w : World} {N : Nat → Prop} {t : Ty} {b : Nat} (h : TY w N t b) : ∃ pv bs, w.cell? ⟨b, 3, none⟩ = some pv ∧ Rd w N 74 pv t.parts.length (bs.map ptr) ∧ TYs w N t.parts bs := by
  cases t with
  | mk k n nm ps ns ms =>
    obtain ⟨pv, nv, mv, said, bs, h1, _, _, hp, _, _, hs⟩ := h
    exact ⟨pv, bs, cellOf h1 3 _ rfl, hp, hs⟩

/-- In lay, behind i parts. -/
def LSt (B : Nat) (w : World) (A : Nat) (N : Nat → Prop) (ts : List Ty) (t : Ty) (b i : Nat) (wr : World) : Prop :=
  ∃ Ni, Ar B wr A Ni (layPs ts (t.parts.take i)) ∧ TY wr Ni t b ∧ Up B (Own B N) w wr ∧ ∀ j, Ni j → N j ∨ w.heap.size ≤ j

/-- What lay does with a type. -/
def LayOk (t : Ty) : Prop := ∀ (B : Nat) (w : World) (A : Nat) (N : Nat → Prop) (ts : List Ty) (b : Nat), Ar B w A N ts → TY w N t b → (layP ts t).length ≤ 1099511627776 →
  Calls Tryz.prog 30 #[ptr A, ptr b] w (LayPost B w A N ts t)

set_option maxRecDepth 100000 in
set_option maxHeartbeats 1000000 in
theorem lay_found (t : Ty) (hx : TextOk t) (w : World) (A : Nat) (N : Nat → Prop) (ts : List Ty) (b : Nat) (r : Nat) (tv mv : Value) (bs : List Nat) (kvs : List (ByteArray × Value))
    (h : AR B w A N ts tv mv bs kvs) (hT : TY w N t b) (hi : idx (tx t) ts = some r) :
    Calls Tryz.prog 30 #[ptr A, ptr b] w fun e w' => e = .returned (.int .i64 (r : Int)) ∧ Same B w w' := by
  have hk : look (S (tx t)) kvs = some (.int .i64 (r : Int)) := by rw [h.keys, hi]; rfl
  have HK := Lib.hid hk; clear hk
  replace hi := Lib.hid hi
  have HH := Lib.hid h; clear h
  have HT := Lib.hid hT; clear hT
  have c1 := cellOf HH.out.own 1 _ rfl
  have hA := ltOf HH.out.own
  have HX := Lib.hid (hx B _ N b HH.out.low (HT.out.same (B := B) ((Fr.refl _ _).drew.up))); clear hx
  go_enter Tryz.func30, Tryz.ntmps30
  go_wp2_with fail
  go_region_with (go_at_call 43; refine Calls.mono HX.out ?_; rintro e w1 ⟨rfl, hS1⟩; have d1 := cellOf (HH.out.same ((Fr.refl _ _).drew.up.same hS1)).own 1 _ rfl; have hl := run_ids (HH.out.same ((Fr.refl _ _).drew.up.same hS1)).ids (S (tx t)); rw [HK.out] at hl; simp only [Option.getD_some, Option.isSome_some] at hl)
  all_goals (go_wp2; go_ret; exact ⟨rfl, (Fr.refl _ _).drew.up.same hS1⟩)

end Go.Proofs.YtmheonaddidbjaaGreatDoor
