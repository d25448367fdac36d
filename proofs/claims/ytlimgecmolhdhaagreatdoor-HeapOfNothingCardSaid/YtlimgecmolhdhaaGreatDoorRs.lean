/- The reference's runes: shuckref1.Decode where a first byte asks for more; shuckref1.Runes. -/
import Derived.Test.YtlimgecmolhdhaaGreatDoorRr
set_option linter.unusedVariables false
set_option linter.unusedSimpArgs false
namespace Go.Proofs.YtlimgecmolhdhaaGreatDoor
open Go.RowKit

set_option maxRecDepth 100000 in
set_option maxHeartbeats 4000000 in
/-- A first byte that asks for more. -/
theorem rdec_many (g cap p n d : Nat) (l : List UInt8) (c : UInt8) (r : List UInt8) (w : World) (hlp : l.drop p = c :: r) (hw : wideP c.toNat = (n, d)) (h2 : 2 ≤ n) (hb : BytesAt w g l) (hm : l.length ≤ 140737488355328) :
    Calls Tryz.prog 65 #[.slice (some ⟨g, 0, none⟩) l.length cap, .int .i64 p] w fun e w' => e = .returned (rowV p (decP (c :: r))) ∧ Old w w' := by
  have hp : p < l.length := by
    rcases Nat.lt_or_ge p l.length with h | h
    · exact h
    · rw [List.drop_of_length_le h] at hlp; cases hlp
  have hat : ∀ i, l[p + i]? = (c :: r)[i]? := fun i => by rw [← hlp, List.getElem?_drop]
  have hcb : ∀ k, contB l (p + (k + 1)) = contB r k := fun k => by unfold contB; rw [hat (k + 1), List.getElem?_cons_succ]
  have hlr : l.length = p + (r.length + 1) := by have := congrArg List.length hlp; simp at this; omega
  have c0 : w.cell? ⟨g, p, none⟩ = some (.int .u8 c.toNat) := by
    rw [hb p hp]; have := hat 0; simp [hp] at this; rw [this]
  have hg : g < w.heap.size := by
    rcases Nat.lt_or_ge g w.heap.size with h | h
    · exact h
    · simp [World.cell?, Array.getElem?_eq_none h] at c0
  have HW := Lib.hid hw
  have hc := c.toNat_lt
  have hmany := wideP_many _ n d hc hw h2
  have HB := Lib.hid hb; clear hb
  have HAT := Lib.hid hat; clear hat hlp
  have HCB := Lib.hid hcb; clear hcb
  have HLR := Lib.hid hlr; clear hlr
  clear hw
  rcases hmany with ⟨hn, h3, h4, hd⟩ | ⟨hn, h3, h4, hd⟩ | ⟨hn, h3, h4, hd⟩
  all_goals
    have HD := Lib.hid hd; clear hd
    have HN := Lib.hid hn
    have hn1 := Nat.le_of_eq hn
    have hn2 := Nat.le_of_eq hn.symm
    clear hn
    (first | (have g1 : decide ((c.toNat : Int) ≤ 223) = true := decide_eq_true (by omega)) | (have g1 : decide ((c.toNat : Int) ≤ 223) = false := decide_eq_false (by omega)))
    (first | (have g2 : decide ((c.toNat : Int) ≤ 239) = true := decide_eq_true (by omega)) | (have g2 : decide ((c.toNat : Int) ≤ 239) = false := decide_eq_false (by omega)))
    have g3 : decide ((c.toNat : Int) ≤ 247) = true := decide_eq_true (by omega)
    go_enter Tryz.func65, Tryz.ntmps65
    go_wp2
    have hO : Hid (Old w ((w.alloc (.cells #[.int .i64 0, .int .i32 0, .int .i64 0, .bool false] 115)).alloc (.cells #[.int .i64 p, .int .i32 65533, .int .i64 1, .bool false] 115))) := Lib.hid (((Fr.refl _ _).alloc _).alloc _)
    go_loop [10, 8] (fun t t8 => ∃ k v : Nat, k + 1 ≤ n ∧ k ≤ r.length ∧ t = .int .i64 ((k : Int) + 1) ∧ t8 = .int .i64 v ∧ Hid (contP (r.take k) d = some v) ∧ v < 32 * 64 ^ k) (fun t _ => 5 - (intOf t).toNat)
    case atStart => exact ⟨0, d, by omega, Nat.zero_le _, rfl, by rw [HD.out]; go_num, Lib.hid rfl, by have := HD.out; omega⟩
    case round =>
      obtain ⟨k, v, hk, hkr0, rfl, rfl, hv, hvb⟩ := hrel
      by_cases hlt : k + 1 < n
      · have hvb2 : v < 33554432 := by
          have : k = 0 ∨ k = 1 ∨ k = 2 := by omega
          rcases this with rfl | rfl | rfl <;> omega
        have hdp := fun hb => decP_bad c r n d k v HW.out hlt hv.out hb
        have HDP := Lib.hid hdp; clear hdp
        have hca : ∀ I, I = ((p + (k + 1) : Nat) : Int) → ∀ W, BytesAt W g l → Calls Tryz.prog 80 #[.slice (some ⟨g, 0, none⟩) l.length cap, .int .i64 I] W fun e w' => e = .returned (.bool (contB r k)) ∧ W = w' := fun I hI W hW => by
          rw [← HCB.out k]; exact cont_int g cap l _ I hI W hW hm
        have hcr : contB r k = true → ∃ x, x < 256 ∧ x / 64 = 2 ∧ k < r.length ∧ p + (k + 1) < l.length ∧ w.cell? ⟨g, p + (k + 1), none⟩ = some (.int .u8 (x : Nat)) ∧ contP (r.take (k + 1)) d = some (v * 64 + x % 64) := fun h => by
          have hkr : k < r.length := by
            rcases Nat.lt_or_ge k r.length with h' | h'
            · exact h'
            · rw [contB_out r k h'] at h; cases h
          rw [contB_at r k hkr] at h
          have hx := of_decide_eq_true h
          have hpl : p + (k + 1) < l.length := by have := HLR.out; omega
          have hlr := HAT.out (k + 1)
          rw [List.getElem?_cons_succ, List.getElem?_eq_getElem hpl, List.getElem?_eq_getElem hkr] at hlr
          simp only [Option.some.injEq] at hlr
          refine ⟨(r[k]).toNat, (r[k]).toNat_lt, hx, hkr, hpl, by rw [HB.out _ hpl, hlr], ?_⟩
          rw [contP_take r d k hkr, hv.out]
          simp [hx]
        generalize hcq : contB r k = q at *
        have HCA := Lib.hid hca; clear hca
        cases q with
        | false =>
          clear hcr
          have hbad := HDP.out rfl
          have HBAD := Lib.hid hbad; clear hbad
          go_wp2_with (go_at_call 80; ((with_reducible refine (HCA.out _ (by omega) _ (HB.out.old hg hO.out)).mono ?_)); rintro e w' ⟨rfl, rfl⟩)
          refine bodyPost_ret (v := rowV p (65533, 1, false)) (by simp [results, Tryz.results65, go_sem, rowV]) rfl ⟨by rw [HBAD.out], ?_⟩
          repeat (first | exact Fr.refl _ _ | refine Fr.setCell ?_ (Or.inl (by simp)) _ | refine Fr.alloc ?_ _)
        | true =>
          obtain ⟨x, hx, hx2, hkr1, hpl, c1, hnx⟩ := hcr rfl
          have HNX := Lib.hid hnx; clear hnx hcr
          have hxa : 128 ≤ x ∧ x < 192 := by omega
          clear hx2 hx
          go_wp2_with (go_at_call 80; ((with_reducible refine (HCA.out _ (by omega) _ (HB.out.old hg hO.out)).mono ?_)); rintro e w' ⟨rfl, rfl⟩)
          go_round
          case rel => exact ⟨k + 1, v * 64 + x % 64, by omega, by omega, by go_num, by go_num, HNX, by rw [Nat.pow_succ]; omega⟩
          case measure => simp [intOf]; omega
      · have hkn : k = n - 1 := by omega
        have hgood : n ≤ r.length + 1 → decP (c :: r) = if fitsP v n then (v, n, true) else (65533, 1, false) := fun h => decP_good c r n d v HW.out (by omega) h (by rw [← hkn]; exact hv.out)
        have hgd := hgood (by omega)
        clear hgood
        have hout := outP_fits _ n d v (r.take (n - 1)) hc HW.out h2 (by rw [List.length_take]; omega) (by rw [← hkn]; exact hv.out)
        (first | (have hle : leastP n = 128 := by rw [HN.out]; rfl) | (have hle : leastP n = 2048 := by rw [HN.out]; rfl) | (have hle : leastP n = 65536 := by rw [HN.out]; rfl))
        rw [hle] at hout
        clear hle
        have hvb2 : v < 33554432 := by
          have : k ≤ 3 := by omega
          have h64 : 64 ^ k ≤ 64 ^ 3 := Nat.pow_le_pow_right (by omega) this
          omega
        unfold outP at hout
        simp only [Int.cast_ofNat_Int] at hout
        clear hvb
        cases hf : fitsP v n with
        | true =>
          rw [hf] at hout hgd
          simp only [Bool.not_true, Bool.or_eq_false_iff, Bool.and_eq_false_iff, decide_eq_false_iff_not] at hout
          obtain ⟨⟨b1, b2⟩, b3⟩ := hout
          (first | (have q1 : decide ((v : Int) < 65536) = false := decide_eq_false (by omega)) | (have q1 : decide ((v : Int) < 2048) = false := decide_eq_false (by omega)) | (have q1 : decide ((v : Int) < 128) = false := decide_eq_false (by omega)))
          have q2 : decide ((1114111 : Int) < v) = false := decide_eq_false b2
          have HGD := Lib.hid hgd; clear hgd
          have HF := Lib.hid hf; clear hf
          have ek : k = 1 ∨ k = 2 ∨ k = 3 := by omega
          rcases ek with rfl | rfl | rfl <;> (try (exfalso; omega))
          clear hkn hlt hk hkr0
          by_cases b4 : (55296 : Int) ≤ v
          · have q3 : decide ((55296 : Int) ≤ v) = true := decide_eq_true b4
            have q4 : decide ((v : Int) ≤ 57343) = false := decide_eq_false (by rcases b3 with b3 | b3 <;> omega)
            clear b1 b2 b3 b4
            go_wp2
            refine bodyPost_ret (v := rowV p (v, n, true)) (by simp [results, Tryz.results65, go_sem, rowV, HN.out]) rfl ⟨by rw [HGD.out]; rfl, ?_⟩
            repeat (first | exact Fr.refl _ _ | refine Fr.setCell ?_ (Or.inl (by simp)) _ | refine Fr.alloc ?_ _)
          · have q3 : decide ((55296 : Int) ≤ v) = false := decide_eq_false b4
            clear b1 b2 b3 b4
            go_wp2
            refine bodyPost_ret (v := rowV p (v, n, true)) (by simp [results, Tryz.results65, go_sem, rowV, HN.out]) rfl ⟨by rw [HGD.out]; rfl, ?_⟩
            repeat (first | exact Fr.refl _ _ | refine Fr.setCell ?_ (Or.inl (by simp)) _ | refine Fr.alloc ?_ _)
        | false =>
          rw [hf] at hout hgd
          simp only [Bool.not_false, Bool.or_eq_true, Bool.and_eq_true, decide_eq_true_eq] at hout
          have HGD := Lib.hid hgd; clear hgd
          have HF := Lib.hid hf; clear hf
          have ek : k = 1 ∨ k = 2 ∨ k = 3 := by omega
          rcases ek with rfl | rfl | rfl <;> (try (exfalso; omega))
          clear hkn hlt hk hkr0
          by_cases b1 : (1114111 : Int) < v <;> by_cases b2 : (55296 : Int) ≤ v <;> by_cases b3 : (v : Int) ≤ 57343
          all_goals first
            | (exfalso; omega)
            | (go_wp2
               refine bodyPost_ret (v := rowV p (65533, 1, false)) (by simp [results, Tryz.results65, go_sem, rowV]) rfl ⟨by rw [HGD.out]; rfl, ?_⟩
               repeat (first | exact Fr.refl _ _ | refine Fr.setCell ?_ (Or.inl (by simp)) _ | refine Fr.alloc ?_ _))

/-- Decode of the reference. -/
theorem rdecode_any (g cap p : Nat) (l : List UInt8) (w : World) (hp : p < l.length) (hb : BytesAt w g l) (hm : l.length ≤ 140737488355328) :
    Calls Tryz.prog 65 #[.slice (some ⟨g, 0, none⟩) l.length cap, .int .i64 p] w fun e w' => e = .returned (rowV p (decP (l.drop p))) ∧ Old w w' := by
  obtain ⟨c, r, hcr⟩ : ∃ c r, l.drop p = c :: r := by
    match h : l.drop p with
    | [] => have := congrArg List.length h; simp at this; omega
    | c :: r => exact ⟨c, r, rfl⟩
  obtain ⟨n, d, hw⟩ : ∃ n d, wideP c.toNat = (n, d) := ⟨_, _, rfl⟩
  have hc := c.toNat_lt
  by_cases h2 : 2 ≤ n
  · rw [hcr]; exact rdec_many g cap p n d l c r w hcr hw h2 hb hm
  · have c0 : w.cell? ⟨g, p, none⟩ = some (.int .u8 c.toNat) := by
      rw [hb p hp]
      have e : l[p] = c := by
        have h1 : (l.drop p)[0]? = some c := by rw [hcr]; rfl
        rw [List.getElem?_drop] at h1
        simpa [hp] using h1
      rw [e]
    have := rdec_short g cap l.length p c.toNat n d w hc hw (by omega) c0 hp hm
    rw [hcr, decP_cons c r n d hw]
    by_cases h0 : n = 0
    · rw [if_pos h0] at this; rw [if_pos (Or.inl h0)]; exact this
    · rw [if_neg h0] at this; rw [if_neg (by omega)]
      have h1 : n = 1 := by omega
      subst h1
      exact this
end Go.Proofs.YtlimgecmolhdhaaGreatDoor
