/- HeapArrays' walk. -/
import Derived.Test.YtlimgecmolhdhaaDoorAs
import Derived.Test.YtlimgecmolhdhaaDoorGd
import Derived.Test.YtlimgecmolhdhaaDoorKn
set_option linter.unusedVariables false
set_option linter.unusedSimpArgs false
namespace Go.Proofs.YtlimgecmolhdhaaDoor
open Go.RowKit

section
variable {w W W' : World} {H b n : Nat} {vs : List Int} {av tv : Value}

theorem AS.start (w : World) : Calls Tryd.prog 10 #[.pointer (some ⟨w.heap.size, 0, none⟩), .int .i64 2, .int .i64 (-1)] (w.alloc (.cells #[.int .i64 5000, .int .i64 0, .slice none 0 0] 50)) fun e w' =>
    e = .returned (.tuple #[.int .i64 0, .int .i64 0]) ∧ ∃ b tv, AS w w' w.heap.size b 0 [] (.slice none 0 0) tv := by
  refine (make_arr _ w.heap.size 5000 0 (-1) (.slice none 0 0) 0 [] (heapNew w _) (by decide) (by decide) (by decide) ⟨rfl, Or.inl ⟨rfl, rfl⟩⟩ (by decide) (fun e => by simp [Value.ownBlock] at e)).mono ?_
  rintro e w' ⟨b, rfl, g, cap, p1, p2, p3, p4, p5, p6, p7⟩
  refine ⟨rfl, b, _, ((Fr.refl _ _).alloc _).trans p7 (fun i hi e => ?_), Nat.le_refl _, p1, p2, by simp at p6; omega, p5, ⟨rfl, Or.inl ⟨rfl, rfl⟩⟩, fun g e => by simp [Value.ownBlock] at e, rfl⟩
  rcases e with e | e
  · omega
  · simp [Value.ownBlock] at e

theorem AS.at (h : AS w W H b n vs av tv) (hn : n ≤ 4000) (m : Int) (h1 : -9007199254740991 < m) (h2 : m < 9007199254740991) {k y : Int} (hk : k = if 0 ≤ m ∧ m < n then 3 else 0) (hy : y = if 0 ≤ m ∧ m < n then vs.getD m.toNat 0 else 0) :
    Calls Tryd.prog 15 #[.pointer (some ⟨H, 0, none⟩), .agg #[.int .i64 5, .int .i64 0, .string ⟨#[]⟩], .agg #[.int .i64 3, .int .i64 m, .string ⟨#[]⟩]] W fun e w' =>
      e = .returned (.tuple #[.agg #[.int .i64 k, .int .i64 y, .string ⟨#[]⟩], .string ⟨#[]⟩, .int .i64 0]) ∧ Old W w' := by
  by_cases hm : 0 ≤ m
  · by_cases hm2 : m < n
    · rw [if_pos ⟨hm, hm2⟩] at hk hy
      subst hk hy
      have hlt : m.toNat < vs.length := by rw [h.len]; omega
      obtain ⟨c0, c1, c2⟩ := cellsN_at vs m.toNat hlt
      have e : vs.getD m.toNat 0 = vs[m.toNat] := by simp [List.getD, hlt]
      rw [e]
      exact at_in W _ 0 m b av n (cellsN vs) h1 h2 hm hm2 3 _ ⟨#[]⟩ c0 c1 c2 (h.plain _) (h.array _) h.ab h.ar
    · rw [if_neg (by omega)] at hk hy
      subst hk hy
      exact at_hi W _ 0 m b av n (cellsN vs) h1 h2 (by omega) (h.plain _) (h.array _) h.ab h.ar
  · rw [if_neg (by omega)] at hk hy
    subst hk hy
    exact at_lo W _ 0 m b av n (cellsN vs) h1 h2 (by omega) (h.plain _) (h.array _) h.ab h.ar

theorem AS.len_ (h : AS w W H b n vs av tv) :
    Calls Tryd.prog 16 #[.pointer (some ⟨H, 0, none⟩), .int .i64 0] W fun e w' => e = .returned (.int .i64 n) ∧ Old W w' :=
  len_any W _ 0 b av n (cellsN vs) (h.array _) h.ab h.ar

theorem AS.get (h : AS w W H b n vs av tv) :
    Calls Tryd.prog 12 #[.pointer (some ⟨H, 0, none⟩), .agg #[.int .i64 5, .int .i64 0, .string ⟨#[]⟩], .string ⟨#[108, 101, 110, 103, 116, 104]⟩] W fun e w' =>
      e = .returned (.tuple #[.agg #[.int .i64 3, .int .i64 n, .string ⟨#[]⟩], .string ⟨#[]⟩, .int .i64 0]) ∧ Old W w' :=
  get_ref W _ 0 ⟨#[]⟩ _ (arrV b) (some ⟨3, n, ⟨#[]⟩⟩) 1 (h.plain _) (h.thing _) (Or.inr ⟨_, some ⟨3, n, ⟨#[]⟩⟩, rfl, own_len W b av n (cellsN vs) h.ab h.ar, rfl⟩)

/-- .. and a block that holds the array's value. -/
structure AR (w W : World) (H b rb n : Nat) (vs : List Int) (av tv : Value) : Prop where
  s : AS w W H b n vs av tv
  r : W.heap[rb]? = some (.cells #[.int .i64 5, .int .i64 0, .string ⟨#[]⟩] 35 (0, 0))
  r0 : w.heap.size ≤ rb
  nr : av.ownBlock ≠ some rb

theorem AR.later {rb : Nat} (h : AR w W H b rb n vs av tv) (hO : Old W W') : AR w W' H b rb n vs av tv := ⟨h.s.later hO, hO.at h.r (fun f => f), h.r0, h.nr⟩

theorem AR.push {rb : Nat} (h : AR w W H b rb n vs av tv) (hn : n < 4000) (m : Int) (h1 : -9007199254740991 < m) (h2 : m < 9007199254740991) :
    Calls Tryd.prog 14 #[.pointer (some ⟨H, 0, none⟩), .int .i64 0, .agg #[.int .i64 3, .int .i64 m, .string ⟨#[]⟩]] W fun e w' => e = .returned (.tuple #[.int .i64 ((n : Int) + 1), .int .i64 0]) ∧
      ∃ av', AR w w' H b rb (n + 1) (vs ++ [m]) av' tv := by
  refine (h.s.push hn m h1 h2).mono ?_
  rintro e w' ⟨rfl, av', h3, h4, h5⟩
  refine ⟨rfl, av', h3, h4.at h.r (fun e => ?_), h.r0, fun e => ?_⟩
  · rcases e with e | e | e
    · have := h.r; rw [e, h.s.hp] at this; simp only [Option.some.injEq, Obj.cells.injEq] at this; exact absurd this.2.1 (by decide)
    · have := h.r; rw [e, h.s.ab] at this; simp only [Option.some.injEq, Obj.cells.injEq] at this; exact absurd this.2.1 (by decide)
    · exact h.nr e
  · rcases h5 rb e with e | e
    · exact h.nr e
    · have := ltOf h.r; omega
end

theorem addr_block (ad : Addr) (i : Nat) : (ad.add i).block = ad.block := by unfold Addr.add; split <;> rfl
theorem cell_older {w W : World} (h : Old w W) {ad : Addr} (hb : ad.block < w.heap.size) {i : Nat} {v : Value} (hc : w.cell? (ad.add i) = some v) : W.cell? (ad.add i) = some v :=
  (World.cell?_of_block (h.block (ad.add i).block (by rw [addr_block]; exact hb) (fun f => f))).trans hc

def firsts (vs : Nat → Int) (j : Nat) : List Int := (List.range j).map fun i => (vs i).tmod 100000
theorem firsts_succ (vs : Nat → Int) (j : Nat) : firsts vs j ++ [(vs j).tmod 100000] = firsts vs (j + 1) := by simp [firsts, List.range_succ]
theorem firsts_at (vs : Nat → Int) (j i : Nat) (h : i < j) : (firsts vs j).getD i 0 = (vs i).tmod 100000 := by simp [firsts, List.getD, h]
theorem tmod_lo (v : Int) : -100000 < v.tmod 100000 ∧ v.tmod 100000 < 100000 := by
  have h1 := Int.tmod_lt_of_pos v (show (0 : Int) < 100000 by decide)
  have h2 := Int.neg_tmod (-v) 100000
  have h3 := Int.tmod_lt_of_pos (-v) (show (0 : Int) < 100000 by decide)
  rw [Int.neg_tmod] at h3
  omega

set_option maxRecDepth 100000 in
set_option maxHeartbeats 4000000 in
theorem arrays_law (w : World) (A : Option Addr) (N c : Nat) (vs : Nat → Int) (hvs : ∀ i, i < N → ∃ ad, A = some ad ∧ ad.block < w.heap.size ∧ w.cell? (ad.add i) = some (.int .i64 (vs i))) (hN : N ≤ 9223372036854775807) :
    Calls Tryd.prog 6 #[.slice A N c] w fun e w' => e = .returned (.bool true) ∧ Old w w' := by
  have HV := Lib.hid hvs; clear hvs
  go_enter Tryd.func6, Tryd.ntmps6
  by_cases hbig : 200 < N
  · go_wp2_with (first | (go_at_call 8; refine (new_ok 5000 _ (by decide) (by decide)).mono ?_; rintro e w1 ⟨rfl, rfl⟩) | (go_at_call 7; refine (known_true _).mono ?_; rintro e w' ⟨rfl, hO⟩))
    all_goals (first | (go_ret; exact ⟨rfl, ((Fr.refl _ _).alloc _).old hO⟩) | omega)
  · have hN2 : N ≤ 200 := by omega
    clear hbig hN
    go_wp2_with (first | (go_at_call 8; refine (new_ok 5000 _ (by decide) (by decide)).mono ?_; rintro e w1 ⟨rfl, rfl⟩) | (go_at_call 10; refine (AS.start w).mono ?_; rintro e w2 ⟨rfl, b, tv, hS⟩; have HS := Lib.hid hS; clear hS))
    have hR0 : AR w (w2.alloc (.cells #[.int .i64 5, .int .i64 0, .string ⟨#[]⟩] 35)) w.heap.size b w2.heap.size 0 (firsts vs 0) (.slice none 0 0) tv :=
      ⟨HS.out.later ((Fr.refl _ _).alloc _), heapNew _ _, HS.out.old.size, fun e => by simp [Value.ownBlock] at e⟩
    have HR0 := Lib.hid hR0; clear hR0
    have hB8 : w.heap.size ≤ w2.heap.size := HS.out.old.size
    obtain ⟨rb, hrb⟩ : ∃ rb, rb = w2.heap.size := ⟨_, rfl⟩
    rw [← hrb] at HR0 ⊢
    clear hrb HS
    go_loopw [8] (fun s8 wr => ∃ (j : Nat) (av : Value), s8 = .int .i64 (j : Int) ∧ j ≤ N ∧ AR w wr w.heap.size b rb j (firsts vs j) av tv) (fun s8 _ => N - (intOf s8).toNat)
    case atStart => exact ⟨0, _, rfl, Nat.zero_le _, HR0.out⟩
    case round =>
      obtain ⟨j, av, rfl, hj, hR⟩ := hrel
      clear HR0
      have HR := Lib.hid hR; clear hR
      rcases Nat.lt_or_ge j N with hlt | hge
      · obtain ⟨ad, rfl, hab, hac⟩ := HV.out j hlt
        have hac1 := cell_older HR.out.s.old hab hac
        have ht := tmod_lo (vs j)
        obtain ⟨ht1, ht2⟩ := ht
        have i0 : (0 : Int) ≤ (j : Int) := by omega
        have i1 : (j : Int) < (N : Int) := by omega
        go_wp2_with (go_at_call 14; refine (HR.out.push (by omega) ((vs j).tmod 100000) (by omega) (by omega)).mono ?_; rintro e w3 ⟨rfl, av', hR3⟩; rw [firsts_succ] at hR3; have HR3 := Lib.hid hR3; clear hR3)
        exact ⟨⟨j + 1, av', by push_cast; rfl, by omega, HR3.out⟩, by simp [intOf]; (try omega)⟩
      · have hjN : j = N := by omega
        subst hjN
        clear hj hge
        go_wp2
        go_loopw [11] (fun s11 wr => ∃ (m : Int), s11 = .int .i64 m ∧ -1 ≤ m ∧ m ≤ (j : Int) + 1 ∧ AR w wr w.heap.size b rb j (firsts vs j) av tv) (fun s11 _ => ((j : Int) + 1 - intOf s11).toNat)
        case atStart => exact ⟨-1, rfl, by omega, by omega, HR.out⟩
        case round =>
          obtain ⟨m, rfl, hm1, hm2, hR⟩ := hrel
          clear HR
          have HR := Lib.hid hR; clear hR
          obtain ⟨r0, r1, r2, -, -, -⟩ := cells3 HR.out.r
          by_cases hin : 0 ≤ m ∧ m < j
          · obtain ⟨i0, i1⟩ := hin
            obtain ⟨k, rfl⟩ := Int.eq_ofNat_of_zero_le i0
            have hk : k < j := by omega
            have hle : (k : Int) ≤ (j : Int) := by omega
            have hg : firsts vs j = firsts vs j := rfl
            obtain ⟨ad, rfl, hab, hac⟩ := HV.out k hk
            have hac1 := fun W hO => cell_older (W := W) hO hab hac
            have HC := Lib.hid hac1; clear hac1 hac
            go_wp2_with (go_at_call 15; refine (HR.out.s.at (by omega) (k : Int) (by omega) (by omega) (k := 3) (y := (vs k).tmod 100000) (by rw [if_pos ⟨i0, i1⟩]) (by rw [if_pos ⟨i0, i1⟩, Int.toNat_natCast, firsts_at _ _ _ hk])).mono ?_; rintro e w3 ⟨rfl, hO3⟩; have HR3 := Lib.hid (HR.out.later hO3); have hac2 := HC.out _ (((HR3.out.s.old).alloc (.cells #[.int .i64 3, .int .i64 ((vs k).tmod 100000), .string ⟨#[]⟩] 35)).alloc (.cells #[.int .i64 0, .int .i64 0, .string ⟨#[]⟩] 35)))
            exact ⟨⟨(k : Int) + 1, rfl, by omega, by omega, HR3.out.later (((Fr.refl _ _).alloc _).alloc _)⟩, by simp [intOf]; (try omega)⟩
          · by_cases hend : m = (j : Int) + 1
            · subst hend
              have hle : decide ((j : Int) + 1 ≤ (j : Int)) = false := decide_eq_false (by omega)
              have hj1 : (0 : Int) ≤ (j : Int) := by omega
              go_wp2_with (first | (go_at_call 12; refine (HR.out.s.get).mono ?_; rintro e w3 ⟨rfl, hO3⟩; have HR3 := Lib.hid ((HR.out.later hO3).later ((Fr.refl _ _).alloc (.cells #[.int .i64 3, .int .i64 (j : Int), .string ⟨#[]⟩] 35))); clear HR) | (go_at_call 16; refine (HR3.out.s.len_).mono ?_; rintro e w4 ⟨rfl, hO4⟩; have HR4 := Lib.hid (HR3.out.later hO4)) | (go_at_call 9; refine (used_any _ _ _ _ _ HR4.out.s.hp).mono ?_; rintro e w5 ⟨rfl, rfl⟩) | (go_at_call 7; refine (known_true _).mono ?_; rintro e w' ⟨rfl, hO⟩))
              go_ret
              exact ⟨rfl, HR4.out.s.old.old hO⟩
            · have hm : m = -1 ∨ m = (j : Int) := by omega
              have hlt : decide (m < (j : Int)) = decide (m < (j : Int)) := rfl
              rcases hm with rfl | rfl
              · go_wp2_with (go_at_call 15; refine (HR.out.s.at (by omega) (-1) (by omega) (by omega) (k := 0) (y := 0) (by rw [if_neg (by omega)]) (by rw [if_neg (by omega)])).mono ?_; rintro e w3 ⟨rfl, hO3⟩; have HR3 := Lib.hid (HR.out.later hO3))
                exact ⟨⟨0, rfl, by omega, by omega, HR3.out.later (((Fr.refl _ _).alloc _).alloc _)⟩, by simp [intOf]; (try omega)⟩
              · go_wp2_with (go_at_call 15; refine (HR.out.s.at (by omega) (j : Int) (by omega) (by omega) (k := 0) (y := 0) (by rw [if_neg (by omega)]) (by rw [if_neg (by omega)])).mono ?_; rintro e w3 ⟨rfl, hO3⟩; have HR3 := Lib.hid (HR.out.later hO3))
                exact ⟨⟨(j : Int) + 1, rfl, by omega, by omega, HR3.out.later (((Fr.refl _ _).alloc _).alloc _)⟩, by simp [intOf]; (try omega)⟩
end Go.Proofs.YtlimgecmolhdhaaDoor
