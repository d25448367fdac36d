/- keep, New, has, Len, Text. -/
import Derived.Test.YtmheonaddidbjaaGreatDoorLy
set_option linter.unusedVariables false
set_option linter.unusedSimpArgs false
namespace Go.Proofs.YtmheonaddidbjaaGreatDoor
open Go.RowKit

variable {B : Nat}

theorem TY.kind_ {w : World} {N : Nat → Prop} {t : Ty} {b : Nat} (h : TY w N t b) : w.cell? ⟨b, 0, none⟩ = some (.int .i64 t.kind) := by
  cases t with
  | mk k n nm ps ns ms =>
    obtain ⟨pv, nv, mv, said, bs, h1, _⟩ := h
    exact cellOf h1 0 _ rfl

set_option maxHeartbeats 400000 in
theorem keep_big (w : World) (A : Nat) (N : Nat → Prop) (t : Ty) (b : Nat) (hT : TY w N t b) (hs : 500 < tsz t) :
    Calls Tryz.prog 34 #[ptr A, ptr b] w fun e w' => e = .returned (.tuple #[.int .i64 0, .int .i64 9]) ∧ w = w' := by
  obtain ⟨c6, _⟩ := hT.size
  clear hT
  go_enter Tryz.func34, Tryz.ntmps34
  go_wp2
  go_ret2
  exact ⟨rfl, rfl⟩

def KeepPost (B : Nat) (w : World) (A : Nat) (N : Nat → Prop) (ts : List Ty) (t : Ty) (e : Ending) (w' : World) : Prop :=
  ∃ (r : Nat) (N' : Nat → Prop), e = .returned (.tuple #[.int .i64 (r : Int), .int .i64 0]) ∧ idx (tx t) (layP ts t) = some r ∧ Ar B w' A N' (layP ts t) ∧ Up B (Own B N) w w' ∧ ∀ i, N' i → N i ∨ w.heap.size ≤ i

set_option maxHeartbeats 400000 in
theorem keep_ok (w : World) (A : Nat) (N : Nat → Prop) (ts : List Ty) (t : Ty) (b : Nat) (hl : LayOk t) (hA : Ar B w A N ts) (hT : TY w N t b) (hs : tsz t ≤ 500) (hlen : (layP ts t).length ≤ 1099511627776) :
    Calls Tryz.prog 34 #[ptr A, ptr b] w (KeepPost B w A N ts t) := by
  obtain ⟨c6, _⟩ := hT.size
  have HC := Lib.hid (hl B w A N ts b hA hT hlen)
  clear hT hl hA
  go_enter Tryz.func34, Tryz.ntmps34
  go_wp2_with (go_at_call 30; refine Calls.mono HC.out ?_; rintro e w1 ⟨r, N', rfl, q1, q2, q3, q4⟩; have Q1 := Lib.hid q1; have Q2 := Lib.hid q2; have Q3 := Lib.hid q3; have Q4 := Lib.hid q4; clear q1 q2 q3 q4)
  go_ret2
  exact ⟨r, N', rfl, Q1.out, Q2.out, Q3.out, Q4.out⟩

section
variable {w : World} {A : Nat} {N : Nat → Prop} {ts : List Ty} {tv mv : Value} {bs : List Nat} {kvs : List (ByteArray × Value)}

set_option maxHeartbeats 400000 in
theorem has_in (h : AR B w A N ts tv mv bs kvs) (id : Int) (h0 : 0 ≤ id) (h1 : id < ts.length) :
    Calls Tryz.prog 38 #[ptr A, .int .i64 id] w fun e w' => e = .returned (.bool true) ∧ w = w' := by
  obtain ⟨ta, tc, rfl⟩ := ownsRow_slice h.row
  have c0 := cellOf h.own 0 _ rfl
  clear h
  have d0 : decide (0 ≤ id) = true := decide_eq_true h0
  have d1 : decide (id < (ts.length : Int)) = true := decide_eq_true h1
  go_enter Tryz.func38, Tryz.ntmps38
  go_wp2
  go_ret
  exact ⟨rfl, rfl⟩

set_option maxHeartbeats 400000 in
theorem has_out (h : AR B w A N ts tv mv bs kvs) (id : Int) (h0 : id < 0 ∨ ts.length ≤ id) :
    Calls Tryz.prog 38 #[ptr A, .int .i64 id] w fun e w' => e = .returned (.bool false) ∧ w = w' := by
  obtain ⟨ta, tc, rfl⟩ := ownsRow_slice h.row
  have c0 := cellOf h.own 0 _ rfl
  clear h
  rcases h0 with h0 | h0
  · have d0 : decide (0 ≤ id) = false := decide_eq_false (by omega)
    go_enter Tryz.func38, Tryz.ntmps38
    go_wp2
    go_ret
    exact ⟨rfl, rfl⟩
  · have d0 : decide (0 ≤ id) = true := decide_eq_true (by omega)
    have d1 : decide (id < (ts.length : Int)) = false := decide_eq_false (by omega)
    go_enter Tryz.func38, Tryz.ntmps38
    go_wp2
    go_ret
    exact ⟨rfl, rfl⟩

set_option maxHeartbeats 400000 in
theorem has_nil (id : Int) : Calls Tryz.prog 38 #[.pointer none, .int .i64 id] w fun e w' => e = .returned (.bool false) ∧ w = w' := by
  go_enter Tryz.func38, Tryz.ntmps38
  go_wp2
  go_ret
  exact ⟨rfl, rfl⟩

set_option maxHeartbeats 400000 in
theorem len_ok (h : AR B w A N ts tv mv bs kvs) :
    Calls Tryz.prog 20 #[ptr A] w fun e w' => e = .returned (.int .i64 (ts.length : Int)) ∧ w = w' := by
  obtain ⟨ta, tc, rfl⟩ := ownsRow_slice h.row
  have c0 := cellOf h.own 0 _ rfl
  clear h
  go_enter Tryz.func20, Tryz.ntmps20
  go_wp2
  go_ret
  exact ⟨rfl, rfl⟩

theorem AR.get (h : AR B w A N ts tv mv bs kvs) (i : Nat) (hi : i < ts.length) : ∃ g c b, tv = .slice (some ⟨g, 0, none⟩) ts.length c ∧ w.cell? ⟨g, i, none⟩ = some (ptr b) ∧ bs[i]? = some b ∧ TY w N ts[i] b := by
  obtain ⟨b, e, hT⟩ := h.tys.get i hi
  rcases h.row.2 with ⟨_, h0⟩ | ⟨g, cap, cur, h2, _, hg, _⟩
  · omega
  · have := h.row.cells (g := g) (by rw [h2]; rfl) i (ptr b) (by rw [List.getElem?_map, e]; rfl)
    rw [show (⟨g, 0, none⟩ : Addr).add i = ⟨g, i, none⟩ from by unfold Addr.add; split <;> simp_all] at this
    exact ⟨g, cap, b, h2, this, e, hT⟩

set_option maxHeartbeats 400000 in
theorem text_in (h : AR B w A N ts tv mv bs kvs) (i : Nat) (hi : i < ts.length) (hx : TextOk ts[i]) :
    Calls Tryz.prog 21 #[ptr A, .int .i64 (i : Int)] w fun e w' => e = .returned (strV (tx ts[i])) ∧ Same B w w' := by
  obtain ⟨g, c, b, rfl, hc, _, hT⟩ := h.get i hi
  have c0 := cellOf h.own 0 _ rfl
  have HC := Lib.hid (has_in h (i : Int) (by omega) (by omega))
  have HX := Lib.hid (hx B w N b h.low hT)
  clear h hx hT
  have i0 : (0 : Int) ≤ (i : Int) := by omega
  have i1 : (i : Int) < (ts.length : Int) := by omega
  go_enter Tryz.func21, Tryz.ntmps21
  go_wp2_with (first | (go_at_call 38; refine Calls.mono HC.out ?_; rintro e w1 ⟨rfl, rfl⟩) | (go_at_call 43; refine Calls.mono HX.out ?_; rintro e w1 ⟨rfl, hS⟩))
  go_ret
  exact ⟨rfl, hS⟩
end

/-- The ten, as far as they are laid. -/
def tens (n : Nat) : List Ty := (List.range n).map fun (i : Nat) => bas ((i : Int) + 1)

theorem gd_bas (k : Int) (h : 1 ≤ k ∧ k ≤ 10) : Gd (bas k) := ⟨text_bas k h, trivial⟩
theorem sh_bas (k : Int) : Sh (bas k) := ⟨by decide, trivial⟩
theorem tens_succ (n : Nat) : tens (n + 1) = tens n ++ [bas ((n : Int) + 1)] := by simp [tens, List.range_succ]
theorem tx_bas (k : Int) (h : 1 ≤ k ∧ k ≤ 10) : tx (bas k) = wordB k := by
  have hk : k = 1 ∨ k = 2 ∨ k = 3 ∨ k = 4 ∨ k = 5 ∨ k = 6 ∨ k = 7 ∨ k = 8 ∨ k = 9 ∨ k = 10 := by omega
  rcases hk with rfl | rfl | rfl | rfl | rfl | rfl | rfl | rfl | rfl | rfl <;> simp [bas, tx, body]
theorem tx_tens (n : Nat) (hn : n ≤ 10) : (tens n).map tx = (List.range n).map fun (i : Nat) => wordB ((i : Int) + 1) := by
  unfold tens
  rw [List.map_map]
  apply List.map_congr_left
  intro i hi
  have := List.mem_range.1 hi
  exact tx_bas _ (by omega)
theorem tens_new (n : Nat) (h : n < 10) : idx (tx (bas ((n : Int) + 1))) (tens n) = none := by
  rw [idx_none, tx_tens n (by omega), tx_bas _ (by omega)]
  have : n = 0 ∨ n = 1 ∨ n = 2 ∨ n = 3 ∨ n = 4 ∨ n = 5 ∨ n = 6 ∨ n = 7 ∨ n = 8 ∨ n = 9 := by omega
  rcases this with rfl | rfl | rfl | rfl | rfl | rfl | rfl | rfl | rfl | rfl <;> decide +kernel
theorem tens_lay (n : Nat) (h : n < 10) : layP (tens n) (bas ((n : Int) + 1)) = tens (n + 1) := by
  rw [layP_eq, tens_new n h, tens_succ]
  rfl

/-- New has begun. -/
def NwSt (w : World) (k : Nat) (wr : World) : Prop := ∃ N, Ar w.heap.size wr w.heap.size N (tens k) ∧ Up w.heap.size (fun _ => False) w wr

/-- Nothing that was there has turned. -/
theorem Up.old_of {F : Nat → Prop} {w w' : World} (h : Up w.heap.size F w w') (hF : ∀ i, F i → w.heap.size ≤ i) : Old w w' := by
  refine ⟨h.os, h.tape, h.output, h.size, fun k hk _ => ?_⟩
  rcases h.block k hk (fun f => by have := hF k f; omega) with e | ⟨c, s, e, _⟩
  · exact e
  · omega

theorem NwSt.start (w : World) : NwSt w 0 (w.alloc (.cells #[.slice none 0 0, .map none, .map none] 59)) :=
  ⟨fun i => i < w.heap.size ∨ i = w.heap.size, ⟨.slice none 0 0, .map none, [], [], heapNew w _, fun i hi => Or.inl hi, Nat.le_refl _, Or.inr rfl, (fun g e => by simp [Value.ownBlock] at e), (fun m e => by cases e), (fun g e => by simp [Value.ownBlock] at e), (fun m e => by cases e),
    fun i hi => hi.imp id Or.inl, ⟨rfl, Or.inl ⟨rfl, rfl⟩⟩, Or.inl ⟨rfl, rfl⟩, rfl, fun s => rfl, by simp [tens], fun t ht => by simp [tens] at ht⟩, ((Fr.refl _ _).alloc _).up⟩

theorem NwSt.step {w wr : World} {j : Nat} (h : NwSt w j wr) (hj : j < 10) :
    Calls Tryz.prog 31 #[.int .i64 ((j : Int) + 1)] wr fun e w1 => e = .returned (ptr wr.heap.size) ∧
      Calls Tryz.prog 30 #[ptr w.heap.size, ptr wr.heap.size] w1 fun e w2 => (∃ r : Nat, e = .returned (.int .i64 (r : Int))) ∧ NwSt w (j + 1) w2 := by
  obtain ⟨N, ⟨tv, mv, bs, kvs, hA⟩, hU⟩ := h
  refine (basic_any ((j : Int) + 1) wr N hA.lt).mono ?_
  rintro e w1 ⟨rfl, hT, hO⟩
  have hlay := tens_lay j hj
  refine ⟨rfl, (lay_any _ (gd_bas _ (by omega)) (sh_bas _) w.heap.size w1 _ N (tens j) _ ⟨tv, mv, bs, kvs, hA.same hO.up⟩ hT (by rw [hlay]; simp [tens]; omega)).mono ?_⟩
  rintro e w2 ⟨r, N', rfl, q1, q2, q3, q4⟩
  rw [hlay] at q2
  exact ⟨⟨r, rfl⟩, N', q2, (hU.old hO).trans q3 (fun i hi h => by have := h.2; omega)⟩

set_option maxRecDepth 100000 in
set_option maxHeartbeats 1000000 in
theorem new_ok (w : World) : Calls Tryz.prog 9 #[] w fun e w' => e = .returned (ptr w.heap.size) ∧ NwSt w 10 w' := by
  have HS := Lib.hid (NwSt.start w)
  go_enter Tryz.func9, Tryz.ntmps9
  go_wp2
  go_loopw [2] (fun s2 wr => ∃ j : Nat, s2 = .int .i64 ((j : Int) + 1) ∧ j ≤ 10 ∧ NwSt w j wr) (fun s2 _ => 11 - (intOf s2).toNat)
  case atStart => exact ⟨0, rfl, by decide, HS.out⟩
  case round =>
    obtain ⟨j, rfl, hj, hI⟩ := hrel
    clear HS
    rcases Nat.lt_or_ge j 10 with hlt | hge
    · have HC := Lib.hid (hI.step hlt); clear hI
      go_wp2_with (first | (go_at_call 31; refine Calls.mono HC.out ?_; rintro e w1 ⟨rfl, hc⟩; have HD := Lib.hid hc; clear hc) | (go_at_call 30; refine Calls.mono HD.out ?_; rintro e w2 ⟨⟨r, rfl⟩, hI2⟩; have HI2 := Lib.hid hI2; clear hI2))
      exact ⟨⟨j + 1, by push_cast; rfl, by omega, HI2.out⟩, by simp [intOf]; omega⟩
    · have e : j = 10 := by omega
      subst e
      have HI := Lib.hid hI; clear hI
      go_wp2
      go_ret
      exact ⟨rfl, HI.out⟩
end Go.Proofs.YtmheonaddidbjaaGreatDoor
