/- The reference's runes: shuckref1.Decode. -/
import Derived.Test.YtlimgecmolhdhaaGreatDoorRu
import Derived.Deep.DeepCutAuto
import Derived.Deep.CutBlock
set_option linter.unusedVariables false
set_option linter.unusedSimpArgs false
namespace Go.Proofs.YtlimgecmolhdhaaGreatDoor
open Go.RowKit

theorem ret_bool {a b : Bool} (h : a = b) : Ending.returned (.bool a) = .returned (.bool b) := by rw [h]
/-- Does a byte that goes on stand there? -/
def contB (l : List UInt8) (i : Nat) : Bool := match l[i]? with
  | some c => decide (c.toNat / 64 = 2)
  | none => false

abbrev BytesAt (w : World) (g : Nat) (l : List UInt8) : Prop := ∀ i (h : i < l.length), w.cell? ⟨g, i, none⟩ = some (.int .u8 l[i].toNat)

set_option maxRecDepth 100000 in
set_option maxHeartbeats 400000 in
theorem cont_any (g cap : Nat) (l : List UInt8) (i : Nat) (w : World) (hb : BytesAt w g l) (hl : l.length ≤ 140737488355328) :
    Calls Tryz.prog 80 #[.slice (some ⟨g, 0, none⟩) l.length cap, .int .i64 i] w fun e w' => e = .returned (.bool (contB l i)) ∧ w = w' := by
  by_cases h : i < l.length
  · have c0 := hb i h
    have hcb : contB l i = decide (l[i].toNat / 64 = 2) := by unfold contB; rw [List.getElem?_eq_getElem h]
    rw [hcb]; clear hcb
    generalize l[i] = c at *
    have hc := c.toNat_lt
    generalize c.toNat = x at *
    by_cases h1 : x < 128
    · rw [decide_eq_false (by omega)]
      clear hb
      go_enter Tryz.func80, Tryz.ntmps80
      go_wp2
      go_ret
      exact ⟨rfl, rfl⟩
    · by_cases h2 : x ≤ 191
      · rw [decide_eq_true (by omega)]
        clear hb
        go_enter Tryz.func80, Tryz.ntmps80
        go_wp2
        go_ret
        exact ⟨ret_bool (decide_eq_true (by omega)), rfl⟩
      · rw [decide_eq_false (by omega)]
        clear hb
        go_enter Tryz.func80, Tryz.ntmps80
        go_wp2
        go_ret
        exact ⟨ret_bool (decide_eq_false (by omega)), rfl⟩
  · have hcb : contB l i = false := by unfold contB; rw [List.getElem?_eq_none (by omega)]
    rw [hcb]; clear hcb hb
    go_enter Tryz.func80, Tryz.ntmps80
    go_wp2
    go_ret
    exact ⟨rfl, rfl⟩

def rowV (p : Nat) (q : Nat × Nat × Bool) : Value := .agg #[.int .i64 p, .int .i32 q.1, .int .i64 q.2.1, .bool q.2.2]

theorem wideP_0 (c n d : Nat) (h : wideP c = (n, d)) (h0 : n = 0) : 128 ≤ c ∧ (c < 192 ∨ 248 ≤ c ∨ 256 ≤ c) := by
  unfold wideP at h
  split at h
  · simp only [Prod.mk.injEq] at h; omega
  · split at h
    · simp only [Prod.mk.injEq] at h; omega
    · split at h
      · simp only [Prod.mk.injEq] at h; omega
      · split at h
        · simp only [Prod.mk.injEq] at h; omega
        · omega

set_option maxRecDepth 100000 in
set_option maxHeartbeats 1000000 in
/-- No first byte, or one alone. -/
theorem rdec_short (g cap m p c n d : Nat) (w : World) (hc : c < 256) (hw : wideP c = (n, d)) (h1 : n ≤ 1) (c0 : w.cell? ⟨g, p, none⟩ = some (.int .u8 c)) (hp : p < m) (hm : m ≤ 140737488355328) :
    Calls Tryz.prog 65 #[.slice (some ⟨g, 0, none⟩) m cap, .int .i64 p] w fun e w' => e = .returned (rowV p (if n = 0 then (65533, 1, false) else (d, 1, true))) ∧ Old w w' := by
  have hg : g < w.heap.size := by
    rcases Nat.lt_or_ge g w.heap.size with h | h
    · exact h
    · simp [World.cell?, Array.getElem?_eq_none h] at c0
  by_cases h0 : n = 0
  · rw [if_pos h0]
    obtain ⟨a1, a2⟩ := wideP_0 c n d hw h0
    have a3 : c < 192 ∨ 248 ≤ c := by omega
    clear hw a2
    rcases a3 with a3 | a3
    all_goals
      go_enter Tryz.func65, Tryz.ntmps65
      go_wp2
      refine bodyPost_ret (v := rowV p (65533, 1, false)) (by simp [results, Tryz.results65, go_sem, rowV]) rfl ⟨rfl, ?_⟩
      repeat (first | exact Fr.refl _ _ | refine Fr.setCell ?_ (Or.inl (by simp)) _ | refine Fr.alloc ?_ _)
  · rw [if_neg h0]
    have hcd : c < 128 ∧ d = c := by
      unfold wideP at hw
      split at hw
      · simp only [Prod.mk.injEq] at hw; omega
      · split at hw
        · simp only [Prod.mk.injEq] at hw; omega
        · split at hw
          · simp only [Prod.mk.injEq] at hw; omega
          · split at hw
            · simp only [Prod.mk.injEq] at hw; omega
            · simp only [Prod.mk.injEq] at hw; omega
    obtain ⟨hc1, rfl⟩ := hcd
    clear hw h0
    go_enter Tryz.func65, Tryz.ntmps65
    go_wp2
    refine bodyPost_ret (v := rowV p (d, 1, true)) (by simp [results, Tryz.results65, go_sem, rowV]) rfl ⟨rfl, ?_⟩
    repeat (first | exact Fr.refl _ _ | refine Fr.setCell ?_ (Or.inl (by simp)) _ | refine Fr.alloc ?_ _)

/-- The least rune that is written with so many bytes. -/
def leastP (n : Nat) : Nat := if n = 2 then 128 else if n = 3 then 2048 else 65536
theorem wideP_many (c n d : Nat) (hc : c < 256) (h : wideP c = (n, d)) (h2 : 2 ≤ n) :
    (n = 2 ∧ 192 ≤ c ∧ c ≤ 223 ∧ d = c - 192) ∨ (n = 3 ∧ 224 ≤ c ∧ c ≤ 239 ∧ d = c - 224) ∨ (n = 4 ∧ 240 ≤ c ∧ c ≤ 247 ∧ d = c - 240) := by
  unfold wideP at h
  split at h
  · simp only [Prod.mk.injEq] at h; omega
  · split at h
    · simp only [Prod.mk.injEq] at h; omega
    · split at h
      · simp only [Prod.mk.injEq] at h; omega
      · split at h
        · simp only [Prod.mk.injEq] at h; omega
        · simp only [Prod.mk.injEq] at h; omega
/-- What Decode tests at the end. -/
def outP (v least : Nat) : Bool := decide ((v : Int) < least) || decide ((1114111 : Int) < v) || (decide ((55296 : Int) ≤ v) && decide ((v : Int) ≤ 57343))
set_option maxRecDepth 100000 in
theorem outP_fits (c n d v : Nat) (L : List UInt8) (hc : c < 256) (hw : wideP c = (n, d)) (h2 : 2 ≤ n) (hL : L.length + 1 = n) (hv : contP L d = some v) : outP v (leastP n) = !fitsP v n := by
  have hb := contP_bd L d v hv
  rcases wideP_many c n d hc hw h2 with ⟨rfl, h1, h2, rfl⟩ | ⟨rfl, h1, h2, rfl⟩ | ⟨rfl, h1, h2, rfl⟩
  · have e : L.length = 1 := by omega
    rw [e] at hb
    unfold outP fitsP leastP
    rw [if_pos rfl, if_neg (by omega), if_pos rfl, Bool.eq_iff_iff]
    simp
    omega
  · have e : L.length = 2 := by omega
    rw [e] at hb
    unfold outP fitsP leastP
    rw [if_neg (by omega), if_pos rfl, if_neg (by omega), if_neg (by omega), if_pos rfl, Bool.eq_iff_iff]
    simp
    omega
  · have e : L.length = 3 := by omega
    rw [e] at hb
    unfold outP fitsP leastP
    rw [if_neg (by omega), if_neg (by omega), if_neg (by omega), if_neg (by omega), if_neg (by omega), Bool.eq_iff_iff]
    simp
    omega

theorem contB_at (l : List UInt8) (i : Nat) (h : i < l.length) : contB l i = decide (l[i].toNat / 64 = 2) := by unfold contB; rw [List.getElem?_eq_getElem h]
theorem contB_out (l : List UInt8) (i : Nat) (h : l.length ≤ i) : contB l i = false := by unfold contB; rw [List.getElem?_eq_none h]

/-- Where a byte does not go on, there is no rune. -/
theorem decP_bad (c : UInt8) (r : List UInt8) (n d k v : Nat) (hw : wideP c.toNat = (n, d)) (hk : k + 1 < n) (hv : contP (r.take k) d = some v) (hb : contB r k = false) : decP (c :: r) = (65533, 1, false) := by
  rw [decP_cons c r n d hw]
  split
  · rfl
  · rename_i h
    have hkr : k < r.length := by omega
    rw [contB_at r k hkr] at hb
    have hb' := of_decide_eq_false hb
    have h1 : contP ((r.take (n - 1)).take (k + 1)) d = none := by
      rw [List.take_take, Nat.min_eq_left (by omega), contP_take r d k hkr, hv]
      simp [hb']
    unfold restP
    rw [contP_none _ d _ h1]
theorem decP_good (c : UInt8) (r : List UInt8) (n d v : Nat) (hw : wideP c.toNat = (n, d)) (h1 : 1 ≤ n) (hr : n ≤ r.length + 1) (hv : contP (r.take (n - 1)) d = some v) : decP (c :: r) = if fitsP v n then (v, n, true) else (65533, 1, false) := by
  rw [decP_cons c r n d hw, if_neg (by omega)]
  unfold restP
  rw [hv]

theorem cont_int (g cap : Nat) (l : List UInt8) (i : Nat) (I : Int) (hI : I = (i : Int)) (w : World) (hb : BytesAt w g l) (hl : l.length ≤ 140737488355328) :
    Calls Tryz.prog 80 #[.slice (some ⟨g, 0, none⟩) l.length cap, .int .i64 I] w fun e w' => e = .returned (.bool (contB l i)) ∧ w = w' := by
  subst hI; exact cont_any g cap l i w hb hl
theorem BytesAt.old {w w' : World} {g : Nat} {l : List UInt8} (h : BytesAt w g l) (hg : g < w.heap.size) (hO : Old w w') : BytesAt w' g l := fun i hi => by
  rw [← h i hi]; simp only [World.cell?]; rw [hO.block g hg (fun f => f)]

end Go.Proofs.YtlimgecmolhdhaaGreatDoor
