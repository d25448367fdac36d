/- The rune at the head of bytes: what text.Decode computes. -/
import Derived.Test.YtlimgecmolhdhaaGreatDoorFr
import Derived.Laws.BitsLemmas
set_option linter.unusedVariables false
set_option linter.unusedSimpArgs false
namespace Go.Proofs.YtlimgecmolhdhaaGreatDoor
open Go.RowKit

/-- What a first byte asks for: how many bytes; its digits. -/
def wideP (c : Nat) : Nat × Nat :=
  if c < 128 then (1, c) else if c / 32 = 6 then (2, c % 32) else if c / 16 = 14 then (3, c % 16) else if c / 8 = 30 then (4, c % 8) else (0, 0)
def fitsP (r n : Nat) : Bool :=
  if n = 1 then true else if n = 2 then decide ((128 : Int) ≤ r) else if n = 3 then decide ((2048 : Int) ≤ r) && (decide ((r : Int) < 55296) || decide ((57343 : Int) < r)) else decide ((65536 : Int) ≤ r) && decide ((r : Int) ≤ 1114111)

set_option maxRecDepth 100000 in
set_option maxHeartbeats 400000 in
theorem wide_any (c : Nat) (hc : c < 256) (w : World) :
    Calls Tryz.prog 78 #[.int .u8 c] w fun e w' => e = .returned (.tuple #[.int .i64 (wideP c).1, .int .i32 (wideP c).2]) ∧ w = w' := by
  by_cases h1 : c < 128
  · have hw : wideP c = (1, c) := by unfold wideP; rw [if_pos h1]
    rw [hw]; clear hw
    go_enter Tryz.func78, Tryz.ntmps78
    go_wp2
    go_ret2
    exact ⟨rfl, rfl⟩
  · have h1' : (128 : Int) ≤ c := by omega
    by_cases h2 : c / 32 = 6
    · have hw : wideP c = (2, c % 32) := by unfold wideP; rw [if_neg h1, if_pos h2]
      rw [hw]; clear hw
      go_enter Tryz.func78, Tryz.ntmps78
      go_wp2
      go_ret2
      exact ⟨rfl, rfl⟩
    · have g2 : ((c : Int) / 32 == 6) = false := by simp; omega
      by_cases h3 : c / 16 = 14
      · have hw : wideP c = (3, c % 16) := by unfold wideP; rw [if_neg h1, if_neg h2, if_pos h3]
        rw [hw]; clear hw
        go_enter Tryz.func78, Tryz.ntmps78
        go_wp2
        go_ret2
        exact ⟨rfl, rfl⟩
      · have g3 : ((c : Int) / 16 == 14) = false := by simp; omega
        by_cases h4 : c / 8 = 30
        · have hw : wideP c = (4, c % 8) := by unfold wideP; rw [if_neg h1, if_neg h2, if_neg h3, if_pos h4]
          rw [hw]; clear hw
          go_enter Tryz.func78, Tryz.ntmps78
          go_wp2
          go_ret2
          exact ⟨rfl, rfl⟩
        · have g4 : ((c : Int) / 8 == 30) = false := by simp; omega
          have hw : wideP c = (0, 0) := by unfold wideP; rw [if_neg h1, if_neg h2, if_neg h3, if_neg h4]
          rw [hw]; clear hw
          go_enter Tryz.func78, Tryz.ntmps78
          go_wp2
          go_ret2
          exact ⟨rfl, rfl⟩

set_option maxRecDepth 100000 in
set_option maxHeartbeats 400000 in
theorem fits_any (r n : Nat) (w : World) :
    Calls Tryz.prog 79 #[.int .i32 r, .int .i64 n] w fun e w' => e = .returned (.bool (fitsP r n)) ∧ w = w' := by
  by_cases h1 : n = 1
  · subst h1
    go_enter Tryz.func79, Tryz.ntmps79
    go_wp2
    go_ret
    exact ⟨rfl, rfl⟩
  · have g1 : ((n : Int) == 1) = false := by simp; omega
    by_cases h2 : n = 2
    · subst h2
      have hf : fitsP r 2 = decide ((128 : Int) ≤ r) := by unfold fitsP; rw [if_neg (by omega), if_pos rfl]
      rw [hf]; clear hf
      go_enter Tryz.func79, Tryz.ntmps79
      go_wp2
      go_ret
      exact ⟨rfl, rfl⟩
    · have g2 : ((n : Int) == 2) = false := by simp; omega
      by_cases h3 : n = 3
      · subst h3
        have hf : fitsP r 3 = (decide ((2048 : Int) ≤ r) && (decide ((r : Int) < 55296) || decide ((57343 : Int) < r))) := by unfold fitsP; rw [if_neg (by omega), if_neg (by omega), if_pos rfl]
        rw [hf]; clear hf
        by_cases a1 : (2048 : Int) ≤ r <;> by_cases a2 : (r : Int) < 55296 <;> by_cases a3 : (57343 : Int) < r
        all_goals
          go_enter Tryz.func79, Tryz.ntmps79
          go_wp2
          go_ret
          exact ⟨by simp [a1, a2, a3], rfl⟩
      · have g3 : ((n : Int) == 3) = false := by simp; omega
        have hf : fitsP r n = (decide ((65536 : Int) ≤ r) && decide ((r : Int) ≤ 1114111)) := by unfold fitsP; rw [if_neg h1, if_neg h2, if_neg h3]
        rw [hf]; clear hf
        by_cases a1 : (65536 : Int) ≤ r <;> by_cases a2 : (r : Int) ≤ 1114111
        all_goals
          go_enter Tryz.func79, Tryz.ntmps79
          go_wp2
          go_ret
          exact ⟨by simp [a1, a2], rfl⟩
end Go.Proofs.YtlimgecmolhdhaaGreatDoor

/- The rune at the head of bytes: text.Decode. -/
set_option linter.unusedVariables false
set_option linter.unusedSimpArgs false
namespace Go.Proofs.YtlimgecmolhdhaaGreatDoor
open Go.RowKit

/-- The digits of the bytes that go on. -/
def contP : List UInt8 → Nat → Option Nat
  | [], r => some r
  | c :: l, r => if c.toNat / 64 = 2 then contP l (r * 64 + c.toNat % 64) else none
/-- The rune at the head: which, how many bytes, whether it is one. -/
def decP : List UInt8 → Nat × Nat × Bool
  | [] => (0, 0, false)
  | c :: r =>
    if (wideP c.toNat).1 = 0 ∨ r.length + 1 < (wideP c.toNat).1 then (65533, 1, false)
    else match contP (r.take ((wideP c.toNat).1 - 1)) (wideP c.toNat).2 with
      | none => (65533, 1, false)
      | some v => if fitsP v (wideP c.toNat).1 then (v, (wideP c.toNat).1, true) else (65533, 1, false)

def bytesAt (w : World) (g : Nat) (l : List UInt8) : Prop := ∀ i (h : i < l.length), w.cell? ⟨g, i, none⟩ = some (.int .u8 l[i].toNat)

theorem wide_of (c : Nat) (hc : c < 256) (n d : Nat) (h : wideP c = (n, d)) (w : World) :
    Calls Tryz.prog 78 #[.int .u8 c] w fun e w' => e = .returned (.tuple #[.int .i64 n, .int .i32 d]) ∧ w = w' := by
  have := wide_any c hc w
  rw [h] at this
  exact this

set_option maxRecDepth 100000 in
set_option maxHeartbeats 1000000 in
theorem decode_none (g cap m c n d : Nat) (w : World) (hc : c < 256) (hw : wideP c = (n, d)) (c0 : w.cell? ⟨g, 0, none⟩ = some (.int .u8 c)) (hm : 1 ≤ m) (hm4 : m ≤ 1000000) (h : n = 0 ∨ m < n) :
    Calls Tryz.prog 64 #[.slice (some ⟨g, 0, none⟩) m cap, .int .i64 0] w fun e w' => e = .returned (.tuple #[.int .i32 65533, .int .i64 1, .bool false]) ∧ w = w' := by
  have HW := Lib.hid hw; clear hw
  have hm0 : ¬ ((m : Int) ≤ 0) := by omega
  by_cases hn : n = 0
  · subst hn
    clear h
    go_enter Tryz.func64, Tryz.ntmps64
    go_wp2_with (go_at_call 78; refine (wide_of c hc _ _ HW.out _).mono ?_; rintro e w' ⟨rfl, rfl⟩)
    go_ret3
    exact ⟨rfl, rfl⟩
  · have hn' : ((n : Int) == 0) = false := by simp; omega
    have hmn : (m : Int) < n := by omega
    clear h hn
    go_enter Tryz.func64, Tryz.ntmps64
    go_wp2_with (go_at_call 78; refine (wide_of c hc _ _ HW.out _).mono ?_; rintro e w' ⟨rfl, rfl⟩)
    go_ret3
    exact ⟨rfl, rfl⟩
theorem contP_snoc (L : List UInt8) (c : UInt8) : ∀ d, contP (L ++ [c]) d = (contP L d).bind fun r => if c.toNat / 64 = 2 then some (r * 64 + c.toNat % 64) else none := by
  induction L with
  | nil => intro d; rfl
  | cons x L ih =>
    intro d
    simp only [List.cons_append, contP]
    split
    · exact ih _
    · rfl
theorem contP_take (L : List UInt8) (d k : Nat) (h : k < L.length) : contP (L.take (k + 1)) d = (contP (L.take k) d).bind fun r => if (L[k]).toNat / 64 = 2 then some (r * 64 + (L[k]).toNat % 64) else none := by
  rw [List.take_succ_eq_append_getElem h, contP_snoc]
theorem contP_none (L : List UInt8) : ∀ (d k : Nat), contP (L.take k) d = none → contP L d = none := by
  induction L with
  | nil => intro d k h; simpa using h
  | cons x L ih =>
    intro d k h
    cases k with
    | zero => cases h
    | succ k =>
      simp only [List.take_succ_cons, contP] at h ⊢
      split
      · rename_i hx; rw [if_pos hx] at h; exact ih _ _ h
      · rfl

/-- What Decode answers behind the first byte. -/
def restP (L : List UInt8) (n d : Nat) : Nat × Nat × Bool :=
  match contP L d with
  | none => (65533, 1, false)
  | some v => if fitsP v n then (v, n, true) else (65533, 1, false)
def decV (q : Nat × Nat × Bool) : Value := .tuple #[.int .i32 q.1, .int .i64 q.2.1, .bool q.2.2]

theorem wideP_bd (c n d : Nat) (hc : c < 256) (h : wideP c = (n, d)) (h2 : 2 ≤ n) : n ≤ 4 ∧ d < 32 := by
  unfold wideP at h
  split at h
  · simp only [Prod.mk.injEq] at h; omega
  · split at h
    · simp only [Prod.mk.injEq] at h; omega
    · split at h
      · simp only [Prod.mk.injEq] at h; omega
      · split at h
        · simp only [Prod.mk.injEq] at h; omega
        · simp only [Prod.mk.injEq] at h; omega

set_option maxRecDepth 100000 in
set_option maxHeartbeats 1000000 in
theorem decode_one (g cap m c d : Nat) (w : World) (hc : c < 256) (hw : wideP c = (1, d)) (c0 : w.cell? ⟨g, 0, none⟩ = some (.int .u8 c)) (hm : 1 ≤ m) (hm4 : m ≤ 1000000) (hcap : m ≤ cap) :
    Calls Tryz.prog 64 #[.slice (some ⟨g, 0, none⟩) m cap, .int .i64 0] w fun e w' => e = .returned (decV (d, 1, true)) ∧ w = w' := by
  have HW := Lib.hid hw; clear hw
  have hm0 : ¬ ((m : Int) ≤ 0) := by omega
  have hmn : ¬ ((m : Int) < 1) := by omega
  have hc1 : (1 : Int) ≤ cap := by omega
  have hf : ∀ w, Calls Tryz.prog 79 #[.int .i32 d, .int .i64 1] w fun e w' => e = .returned (.bool true) ∧ w = w' := fun w => fits_any d 1 w
  have HF := Lib.hid hf; clear hf
  by_cases h1 : cap = 1
  all_goals
    go_enter Tryz.func64, Tryz.ntmps64
    go_wp2_with (go_at_call 78; refine (wide_of c hc _ _ HW.out _).mono ?_; rintro e w' ⟨rfl, rfl⟩)
    refine wp_loop_rounds 1 ?_
    rw [rounds_succ]
    go_wp2_with (go_at_call 79; refine (HF.out _).mono ?_; rintro e w' ⟨rfl, rfl⟩)
    go_ret3
    exact ⟨rfl, rfl⟩

set_option maxRecDepth 100000 in
set_option maxHeartbeats 2000000 in
theorem decode_loop (g cap m c n d : Nat) (L : List UInt8) (w : World) (hc : c < 256) (hw : wideP c = (n, d)) (h2 : 2 ≤ n) (c0 : w.cell? ⟨g, 0, none⟩ = some (.int .u8 c)) (hL : L.length + 1 = n)
    (hb : ∀ i (h : i < L.length), w.cell? ⟨g, 1 + i, none⟩ = some (.int .u8 L[i].toNat)) (hm : n ≤ m) (hm4 : m ≤ 1000000) (hcap : m ≤ cap) :
    Calls Tryz.prog 64 #[.slice (some ⟨g, 0, none⟩) m cap, .int .i64 0] w fun e w' => e = .returned (decV (restP L n d)) ∧ w = w' := by
  obtain ⟨hn4, hd⟩ := wideP_bd c n d hc hw h2
  have HW := Lib.hid hw; clear hw
  have HB := Lib.hid hb; clear hb
  have hm0 : ¬ ((m : Int) ≤ 0) := by omega
  have hmn : ¬ ((m : Int) < n) := by omega
  have hn0 : ((n : Int) == 0) = false := by simp; omega
  have hc1 : (n : Int) ≤ cap := by omega
  have hc2 : ¬ cap = 1 := by omega
  have hc3 : (1 : Int) ≤ n := by omega
  have HL := Lib.hid hL; clear hL
  go_enter Tryz.func64, Tryz.ntmps64
  go_wp2_with (go_at_call 78; refine (wide_of c hc _ _ HW.out _).mono ?_; rintro e w' ⟨rfl, rfl⟩)
  go_loop [45, 8] (fun t r => ∃ k v : Nat, k ≤ L.length ∧ t = .int .i64 k ∧ r = .int .i32 v ∧ Hid (contP (L.take k) d = some v) ∧ v < 32 * 64 ^ k) (fun t _ => 4 - (intOf t).toNat)
  case atStart => exact ⟨0, d, Nat.zero_le _, rfl, rfl, Lib.hid rfl, by omega⟩
  case round =>
    obtain ⟨k, v, hk, rfl, rfl, hv, hvb⟩ := hrel
    by_cases hlt : k < L.length
    · have hbk := HB.out k hlt
      have hvb2 : (v : Int) * 64 < 2147483648 ∧ v < 33554432 ∧ 0 ≤ (v : Int) * 64 := by
        have : k = 0 ∨ k = 1 ∨ k = 2 := by have := HL.out; omega
        rcases this with rfl | rfl | rfl <;> omega
      have hx := (L[k]).toNat_lt
      have hcs := contP_take L d k hlt
      have HCS := Lib.hid hcs; clear hcs
      have hkn : (k : Int) < n - 1 := by have := HL.out; omega
      generalize hxc : (L[k]).toNat = x at *
      have HX := Lib.hid hxc; clear hxc
      have hor : bits .or .i32 ((v : Int) * 64) ((x : Int) % 64) = (v : Int) * 64 + (x : Int) % 64 := i32_or6 _ _ (by omega) (by omega) (by omega) (by omega) (by omega)
      by_cases h6 : x / 64 = 2
      · have h6' : (((x : Int) / 64) != 2) = false := by simp; omega
        go_wp2
        go_round
        case rel =>
          refine ⟨k + 1, v * 64 + x % 64, by omega, by go_num, by go_num, Lib.hid ?_, ?_⟩
          · rw [HCS.out, hv.out]; simp [h6]
          · rw [Nat.pow_succ]; omega
        case measure => simp [intOf]; omega
      · have h6' : (((x : Int) / 64) != 2) = true := by simp; omega
        have hq : restP L n d = (65533, 1, false) := by
          have h1 : contP (L.take (k + 1)) d = none := by rw [HCS.out, hv.out]; simp [h6]
          unfold restP; rw [contP_none L d _ h1]
        have HQ := Lib.hid hq; clear hq
        go_wp2
        go_ret3
        exact ⟨by rw [HQ.out]; rfl, rfl⟩
    · have hke : k = L.length := by omega
      subst hke
      have hkn : ¬ ((L.length : Int) < n - 1) := by have := HL.out; omega
      have hfin : restP L n d = if fitsP v n then (v, n, true) else (65533, 1, false) := by
        have := hv.out
        rw [List.take_length] at this
        unfold restP; rw [this]
      have hf := fits_any v n w
      generalize fitsP v n = f at *
      have HF := Lib.hid hf; clear hf
      have HQ := Lib.hid hfin; clear hfin
      cases f
      all_goals
        go_wp2_with (go_at_call 79; refine (HF.out).mono ?_; rintro e w' ⟨rfl, rfl⟩)
        go_ret3
        exact ⟨by rw [HQ.out]; rfl, rfl⟩

theorem decP_cons (c : UInt8) (r : List UInt8) (n d : Nat) (h : wideP c.toNat = (n, d)) : decP (c :: r) = if n = 0 ∨ r.length + 1 < n then (65533, 1, false) else restP (r.take (n - 1)) n d := by
  simp only [decP, h, restP]

/-- Decode at the head of some bytes. -/
theorem decode_any (g cap : Nat) (l : List UInt8) (w : World) (hb : ∀ i (h : i < l.length), w.cell? ⟨g, i, none⟩ = some (.int .u8 l[i].toNat)) (h0 : l ≠ []) (hl : l.length ≤ 1000000) (hcap : l.length ≤ cap) :
    Calls Tryz.prog 64 #[.slice (some ⟨g, 0, none⟩) l.length cap, .int .i64 0] w fun e w' => e = .returned (decV (decP l)) ∧ w = w' := by
  match l, h0 with
  | c :: r, _ =>
    have hc := c.toNat_lt
    obtain ⟨n, d, hw⟩ : ∃ n d, wideP c.toNat = (n, d) := ⟨_, _, rfl⟩
    have c0 := hb 0 (by simp)
    simp only [List.getElem_cons_zero] at c0
    simp only [List.length_cons] at hl hcap ⊢
    rw [decP_cons c r n d hw]
    by_cases h1 : n = 0 ∨ r.length + 1 < n
    · rw [if_pos h1]
      exact decode_none g cap _ _ n d w hc hw c0 (by omega) hl h1
    · rw [if_neg h1]
      by_cases h2 : n = 1
      · subst h2
        have := decode_one g cap (r.length + 1) _ d w hc hw c0 (by omega) hl hcap
        exact this
      · have hL : (r.take (n - 1)).length + 1 = n := by rw [List.length_take]; omega
        have := decode_loop g cap (r.length + 1) _ n d (r.take (n - 1)) w hc hw (by omega) c0 hL (fun i h => by
          have h' : i < r.length := by rw [List.length_take] at h; omega
          have := hb (1 + i) (by simp; omega)
          rw [this]
          simp [Nat.add_comm 1 i]) (by omega) hl hcap
        exact this
end Go.Proofs.YtlimgecmolhdhaaGreatDoor
