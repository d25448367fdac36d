/- slices.CompactFunc of types: the walk. -/
import Derived.Test.YtmheonaddidbjaaGreatDoorCo
set_option linter.unusedVariables false
set_option linter.unusedSimpArgs false
namespace Go.Proofs.YtmheonaddidbjaaGreatDoor
open Go.RowKit

variable {B : Nat}

def CompPost (B : Nat) (w : World) (N : Nat → Prop) (g cap C : Nat) (q : List Pq) (e : Ending) (w' : World) : Prop :=
  e = .returned (.slice (some ⟨g, 0, none⟩) (compQ q).length cap) ∧ SSt B w N g cap C (compQ q) w'

theorem compQ_small (q : List Pq) (h : q.length < 2) : compQ q = q := by
  match q, h with
  | [], _ => rfl
  | [x], _ => rfl

theorem CSt.room {w W : World} {N : Nat → Prop} {g cap C j : Nat} {q : List Pq} {orig : List Value} (h : CSt B w N g cap C q orig j W) (i : Nat) (hi : i < cap) : (∃ u, W.cell? ⟨g, i, none⟩ = some u) ∧ W.frozen? ⟨g, i, none⟩ = false := by
  obtain ⟨cur, h1, _⟩ := h
  exact ⟨Option.isSome_iff_exists.1 (h1.room i hi).1, (h1.room i hi).2⟩

set_option maxRecDepth 100000 in
set_option maxHeartbeats 4000000 in
theorem compact_any (w W : World) (N : Nat → Prop) (g cap C n : Nat) (q : List Pq) (hlow : ∀ i, i < B → N i) (hN : N g) (hgC : g ≠ C) (h : SSt B w N g cap C q W) (hq : q.length = n) (hn : n ≤ 1099511627776) (hcap : cap ≤ 9223372036854775807) :
    Calls Tryz.prog 98 #[.slice (some ⟨g, 0, none⟩) n cap, eqF C] W (CompPost B w N g cap C q) := by
  obtain ⟨orig, hrw⟩ := h.rw_
  have hnc : n ≤ cap := by rw [← hq]; exact hrw.le
  have hpre := hrw.pre
  have H0 := Lib.hid h; clear h
  have HL := Lib.hid hlow; clear hlow
  have HPRE := Lib.hid hpre; clear hpre hrw
  by_cases h2 : n < 2
  · have hc := compQ_small q (by omega)
    have HC := Lib.hid hc; clear hc
    have d2 : decide ((n : Int) < 2) = true := decide_eq_true (by omega)
    go_enter Tryz.func98, Tryz.ntmps98
    go_wp2
    go_ret
    exact ⟨by rw [HC.out, hq]; rfl, by rw [HC.out]; exact H0.out⟩
  · have d2 : decide ((n : Int) < 2) = false := decide_eq_false (by omega)
    go_enter Tryz.func98, Tryz.ntmps98
    go_wp2
    have h1q := compQ_one q (by omega)
    have H1Q := Lib.hid h1q; clear h1q
    go_loopw [5] (fun s5 wr => ∃ k : Nat, s5 = .int .i64 ((k : Int) + 1) ∧ k + 1 ≤ n ∧ compQ (q.take (k + 1)) = q.take (k + 1) ∧ SSt B w N g cap C q wr ∧ ∃ orig, Rw wr g cap q orig) (fun s5 _ => n - (intOf s5).toNat)
    case atStart => exact ⟨0, rfl, by omega, H1Q.out, H0.out, H0.out.rw_⟩
    case round =>
      obtain ⟨k, rfl, hkn, hcq, hI, orig', hrw'⟩ := hrel
      clear H0 H1Q HPRE
      rcases Nat.lt_or_ge (k + 1) n with hlt | hge
      · have hj1 : k + 1 < q.length := by omega
        obtain ⟨k1, _⟩ := hI.cell (k + 1) hj1
        obtain ⟨k3, _⟩ := hI.cell k (by omega)
        have heq2 : eqQ q[k + 1] q[k] = (key q[k + 1].1 == key q[k].1) := rfl
        have hID := hI.same ((Fr.refl _ _).drew.up (B := B))
        have hC := eq_any (B := B) wr.drew N q[k + 1].1 q[k].1 q[k + 1].2 q[k].2 C (hI.fine _ (List.getElem_mem _)) (hI.fine _ (List.getElem_mem _)) HL.out (hID.tq _ (List.getElem_mem _)) (hID.tq _ (List.getElem_mem _)) hID.lt hID.by_
        rw [← heq2] at hC
        have HC := Lib.hid hC; clear hC heq2
        have hnx : ∀ W1, Same B wr.drew W1 → SSt B w N g cap C q W1 ∧ Rw W1 g cap q orig' := fun W1 hS => ⟨hID.same hS, (hrw'.up ((Fr.refl (fun _ => False) wr).drew.up (B := B)) (fun f => f)).up hS (fun f => f)⟩
        have hce : ∀ W1, SSt B w N g cap C q W1 → W1.cell? ⟨g, k + 1, none⟩ = some (ptr q[k + 1].2) ∧ W1.cell? ⟨g, k, none⟩ = some (ptr q[k].2) := fun W1 h => ⟨(h.cell (k + 1) hj1).1, (h.cell k (by omega)).1⟩
        have HNX := Lib.hid hnx
        have HCE := Lib.hid hce
        have hco := compQ_succ q k hj1
        have HCO := Lib.hid hco
        have HCQ := Lib.hid hcq
        clear hnx hce hID hI hrw' hco hcq
        generalize hpa : q[k + 1].2 = pa at *
        generalize hpb : q[k].2 = pb at *
        have i0 : (0 : Int) ≤ (k : Int) := by omega
        have i1 : (k : Int) < (n : Int) := by omega
        have i2 : (k : Int) + 1 < (n : Int) := by omega
        have i3 : (0 : Int) ≤ (k : Int) + 1 := by omega
        have t1 : ((k : Int) + 1).toNat = k + 1 := by omega
        cases he : eqQ q[k + 1] q[k] with
        | false =>
          rw [he] at HC HCO
          clear he hpa hpb
          go_wp2_with fail
          have w1_ : IntKind.i64.wrap (k : Int) = (k : Int) := IntWalk.i64_in _ (by omega)
          have w2_ : IntKind.i64.wrap ((k : Int) + 1 - 1) = (k : Int) := by rw [show (k : Int) + 1 - 1 = (k : Int) by omega]; exact w1_
          go_region_held3 (fun w' => w'.cell? ⟨g, k + 1, none⟩ = some (ptr pa) ∧ w'.cell? ⟨g, k, none⟩ = some (ptr pb)) (go_keep) ((go_at_call 99; refine Calls.mono HC.out ?_; rintro e w1 ⟨rfl, hS1⟩; obtain ⟨hSS, hRR⟩ := HNX.out _ hS1; have HSS := Lib.hid hSS; have HRR := Lib.hid hRR; clear hSS hRR; obtain ⟨q1_, q2_⟩ := HCE.out _ HSS.out))
          all_goals (clear w1_ w2_)
          all_goals (go_wp2_with fail)
          have hc2 : compQ (q.take (k + 1 + 1)) = q.take (k + 1 + 1) := by
            have e1 := HCO.out
            rw [HCQ.out] at e1
            rw [take_snoc q (k + 1) hj1]
            simpa using e1
          exact ⟨⟨k + 1, by push_cast; rfl, by omega, hc2, HSS.out, orig', HRR.out⟩, by simp [intOf]; omega⟩
        | true =>
          have hst : ∀ W1, SSt B w N g cap C q W1 → Rw W1 g cap q orig' → CSt B w N g cap C q orig' (k + 1 + 1) W1 := fun W1 h1 h2 => (CSt.start h1 h2 (k + 1) HCQ.out).skip hj1 he
          have hl0 : (compQ (q.take (k + 1 + 1))).length = k + 1 := by
            have e1 := HCO.out
            rw [he, if_pos rfl, HCQ.out, List.append_nil] at e1
            rw [e1, List.length_take]; omega
          rw [he] at HC
          have HST := Lib.hid hst
          have HL0 := Lib.hid hl0
          have hpre' : ∀ W1, Rw W1 g cap q orig' → orig'.take q.length = q.map fun p => ptr p.2 := fun W1 h => h.pre
          have HPR := Lib.hid hpre'
          clear he hst hl0 HCO hpre' hpa hpb
          go_wp2_with fail
          have w1_ : IntKind.i64.wrap (k : Int) = (k : Int) := IntWalk.i64_in _ (by omega)
          have w2_ : IntKind.i64.wrap ((k : Int) + 1 - 1) = (k : Int) := by rw [show (k : Int) + 1 - 1 = (k : Int) by omega]; exact w1_
          go_region_held3 (fun w' => w'.cell? ⟨g, k + 1, none⟩ = some (ptr pa) ∧ w'.cell? ⟨g, k, none⟩ = some (ptr pb)) (go_keep) ((go_at_call 99; refine Calls.mono HC.out ?_; rintro e w1 ⟨rfl, hS1⟩; obtain ⟨hSS, hRR⟩ := HNX.out _ hS1; have HSS := Lib.hid hSS; have HRR := Lib.hid hRR; clear hSS hRR; obtain ⟨q1_, q2_⟩ := HCE.out _ HSS.out))
          all_goals (clear w1_ w2_)
          have kc1 : ¬ cap = k + 1 := by omega
          have kc2 : ¬ k + 1 = cap := by omega
          have kc3 : k + 1 ≤ n := by omega
          have kc4 : k + 1 ≤ cap := by omega
          have kc5 : (k : Int) + 1 ≤ (n : Int) := by omega
          have kc6 : (k : Int) + 1 ≤ (cap : Int) := by omega
          go_wp2
          have HCS := Lib.hid (HST.out _ HSS.out HRR.out)
          have hp0 := HPR.out _ HRR.out
          have HP0 := Lib.hid hp0; clear hp0
          obtain ⟨L, hL⟩ : ∃ L, n = k + 1 + L := ⟨n - (k + 1), by omega⟩
          have e1 : n - (k + 1) = L := by omega
          rw [e1]
          have hL1 : k + 1 + L ≤ n := by omega
          have hL2 : n ≤ k + 1 + L := by omega
          clear e1 HNX HCE hL
          go_loopw [5, 7] (fun s5 s7 wr => ∃ m : Nat, s7 = .int .i64 ((m : Int) + 1) ∧ m + 1 ≤ L ∧ s5 = .int .i64 ((compQ (q.take (k + 1 + 1 + m))).length : Int) ∧ (compQ (q.take (k + 1 + 1 + m))).length ≤ k + 1 + m ∧ CSt B w N g cap C q orig' (k + 1 + 1 + m) wr ∧ ∀ p ∈ q, Fine p.1) (fun _ s7 _ => L - (intOf s7).toNat)
          case atStart => exact ⟨0, rfl, by omega, by rw [show k + 1 + 1 + 0 = k + 1 + 1 from rfl, HL0.out]; push_cast; rfl, by (rw [show k + 1 + 1 + 0 = k + 1 + 1 from rfl, HL0.out]; omega), HCS.out, HSS.out.fine⟩
          case round =>
            obtain ⟨m, rfl, hm, rfl, hcl, hCS, hfine⟩ := hrel
            clear HCS HL0 HST HPR HSS HRR q1_ q2_
            rcases Nat.lt_or_ge (m + 1) L with hlt3 | hge3
            · have hjj : k + 1 + m + 1 < q.length := by omega
              have hcs' : CSt B w N g cap C q orig' (k + 1 + m + 1) wr := by rw [show k + 1 + m + 1 = k + 1 + 1 + m by omega]; exact hCS
              have hx1 : wr.cell? ⟨g, k + 1 + (m + 1), none⟩ = some (ptr q[k + 1 + m + 1].2) := hcs'.cell HP0.out (i := k + 1 + m + 1) (by omega) hjj
              have hx2 := hcs'.cell HP0.out (i := k + 1 + m) (by omega) (by omega)
              have heq2 : eqQ q[k + 1 + m + 1] q[k + 1 + m] = (key q[k + 1 + m + 1].1 == key q[k + 1 + m].1) := rfl
              have hcD := hcs'.same ((Fr.refl _ _).drew.up (B := B))
              have hC2 : Calls Tryz.prog 99 #[ptr q[k + 1 + m + 1].2, ptr q[k + 1 + m].2, ptr C] wr.drew fun e w' => e = .returned (.bool (eqQ q[k + 1 + m + 1] q[k + 1 + m])) ∧ Same B wr.drew w' := by
                obtain ⟨cur, _, _, _, htq, hby, hlt'⟩ := hcD
                rw [heq2]
                exact eq_any (B := B) wr.drew N _ _ _ _ C (hfine _ (List.getElem_mem _)) (hfine _ (List.getElem_mem _)) HL.out (htq _ (List.getElem_mem _)) (htq _ (List.getElem_mem _)) hlt' hby
              have hnx2 : ∀ W1, Same B wr.drew W1 → CSt B w N g cap C q orig' (k + 1 + m + 1) W1 ∧ W1.cell? ⟨g, k + 1 + (m + 1), none⟩ = some (ptr q[k + 1 + m + 1].2) ∧ W1.cell? ⟨g, k + 1 + m, none⟩ = some (ptr q[k + 1 + m].2) := fun W1 hS =>
                ⟨hcD.same hS, (hcD.same hS).cell HP0.out (by omega) hjj, (hcD.same hS).cell HP0.out (by omega) (by omega)⟩
              have HC2 := Lib.hid hC2
              have HNX2 := Lib.hid hnx2
              have hco2 := compQ_succ q (k + 1 + m) hjj
              have HCO2 := Lib.hid hco2
              have hkp : ∀ W1, CSt B w N g cap C q orig' (k + 1 + m + 1) W1 → eqQ q[k + 1 + m + 1] q[k + 1 + m] = false → CSt B w N g cap C q orig' (k + 1 + m + 2) (W1.setCell ⟨g, (compQ (q.take (k + 1 + m + 1))).length, none⟩ (ptr q[k + 1 + m + 1].2)) := fun W1 h he => h.keep hjj he (by rw [show k + 1 + m + 1 = k + 1 + 1 + m by omega]; exact hcl) (by omega) hN hgC
              have hsk : ∀ W1, CSt B w N g cap C q orig' (k + 1 + m + 1) W1 → eqQ q[k + 1 + m + 1] q[k + 1 + m] = true → CSt B w N g cap C q orig' (k + 1 + m + 2) W1 := fun W1 h he => h.skip hjj he
              have HKP := Lib.hid hkp
              have HSK := Lib.hid hsk
              have hsp : compQ (q.take (k + 1 + 1 + m)) = compQ (q.take (k + 1 + m + 1)) := by rw [show k + 1 + m + 1 = k + 1 + 1 + m by omega]
              rw [hsp] at hcl
              rw [hsp]
              clear hsp hnx2 hco2 hcD hC2 hcs' hCS heq2 hkp hsk
              generalize q[k + 1 + m + 1].2 = pc at *
              generalize q[k + 1 + m].2 = pd at *
              generalize hkk : (compQ (q.take (k + 1 + m + 1))).length = kk at *
              have HKK := Lib.hid hkk; clear hkk
              have j0 : (0 : Int) ≤ (m : Int) := by omega
              have j1 : (m : Int) < (L : Int) := by omega
              have j2 : (m : Int) + 1 < (L : Int) := by omega
              have j3 : (0 : Int) ≤ (m : Int) + 1 := by omega
              have t2 : ((m : Int) + 1).toNat = m + 1 := by omega
              have kk0 : (0 : Int) ≤ (kk : Int) := by omega
              have kk1 : (kk : Int) < (n : Int) := by omega
              cases he2 : eqQ q[k + 1 + m + 1] q[k + 1 + m] with
              | true =>
                have hl' : (compQ (q.take (k + 1 + m + 2))).length = kk := by rw [HCO2.out, he2, if_pos rfl, List.append_nil]; exact HKK.out
                have HL' := Lib.hid hl'
                have hsk' := fun W1 h => HSK.out W1 h he2
                have HSK' := Lib.hid hsk'
                rw [he2] at HC2
                clear he2 HKP hl' hsk' HSK HCO2
                go_wp2_with fail
                have w1_ : IntKind.i64.wrap (m : Int) = (m : Int) := IntWalk.i64_in _ (by omega)
                have w2_ : IntKind.i64.wrap ((m : Int) + 1 - 1) = (m : Int) := by rw [show (m : Int) + 1 - 1 = (m : Int) by omega]; exact w1_
                go_region_held3 (fun w' => w'.cell? ⟨g, k + 1 + (m + 1), none⟩ = some (ptr pc) ∧ w'.cell? ⟨g, k + 1 + m, none⟩ = some (ptr pd)) (go_keep) ((go_at_call 99; refine Calls.mono HC2.out ?_; rintro e w2 ⟨rfl, hS2⟩; obtain ⟨hN2, hz1, hz2⟩ := HNX2.out _ hS2; have HN2 := Lib.hid hN2; clear hN2))
                all_goals (clear w1_ w2_)
                all_goals (go_wp2_with fail)
                go_roundw
                case rel => exact ⟨m + 1, by push_cast; rfl, by omega, by rw [show k + 1 + 1 + (m + 1) = k + 1 + m + 2 by omega, HL'.out], by (rw [show k + 1 + 1 + (m + 1) = k + 1 + m + 2 by omega, HL'.out]; omega), by rw [show k + 1 + 1 + (m + 1) = k + 1 + m + 2 by omega]; exact HSK'.out _ HN2.out, hfine⟩
                case measure => simp [intOf]; omega
              | false =>
                have hl' : (compQ (q.take (k + 1 + m + 2))).length = kk + 1 := by rw [HCO2.out, he2, if_neg (by decide), List.length_append, HKK.out]; rfl
                have HL' := Lib.hid hl'
                have hkp' := fun W1 h => HKP.out W1 h he2
                have HKP' := Lib.hid hkp'
                rw [he2] at HC2
                clear he2 HSK hl' hkp' HKP HCO2
                go_wp2_with fail
                have w1_ : IntKind.i64.wrap (m : Int) = (m : Int) := IntWalk.i64_in _ (by omega)
                have w2_ : IntKind.i64.wrap ((m : Int) + 1 - 1) = (m : Int) := by rw [show (m : Int) + 1 - 1 = (m : Int) by omega]; exact w1_
                go_region_held3 (fun w' => w'.cell? ⟨g, k + 1 + (m + 1), none⟩ = some (ptr pc) ∧ w'.cell? ⟨g, k + 1 + m, none⟩ = some (ptr pd)) (go_keep) ((go_at_call 99; refine Calls.mono HC2.out ?_; rintro e w2 ⟨rfl, hS2⟩; obtain ⟨hN2, hz1, hz2⟩ := HNX2.out _ hS2; have HN2 := Lib.hid hN2; clear hN2))
                all_goals (clear w1_ w2_)
                obtain ⟨⟨uu, hu1⟩, hu2⟩ := HN2.out.room kk (by omega)
                all_goals (go_wp2_with fail)
                go_roundw
                case rel => exact ⟨m + 1, by push_cast; rfl, by omega, by rw [show k + 1 + 1 + (m + 1) = k + 1 + m + 2 by omega, HL'.out]; push_cast; rfl, by (rw [show k + 1 + 1 + (m + 1) = k + 1 + m + 2 by omega, HL'.out]; omega), by rw [show k + 1 + 1 + (m + 1) = k + 1 + m + 2 by omega]; exact HKP'.out _ HN2.out, hfine⟩
                case measure => simp [intOf]; omega
            · have em : m + 1 = L := by omega
              have hqt : q.take (k + 1 + 1 + m) = q := by rw [List.take_of_length_le (by omega)]
              rw [hqt] at hcl
              rw [hqt]
              obtain ⟨cur, hrw, _, hU, htq, hby, hltN⟩ := hCS
              rw [hqt] at hrw
              have hklt : (compQ q).length < n := by omega
              have hzc : ∀ ty, (Builtin.clear_ #[55] ty #[.slice (some ⟨g, (compQ q).length, none⟩) (n - (compQ q).length) (cap - (compQ q).length)]).run Tryz.prog wr = .ok (.tuple #[]) (wr.setCells g (compQ q).length (List.replicate (n - (compQ q).length) (.pointer none))) :=
                fun ty => Lib.run_clear_slice wr _ 74 ty (.pointer none) Tryz.underlying55 (fun w => by kernel_rfl) rfl rfl g _ _ _ (by omega) (fun t ht => (hrw.room _ (by omega)).1) (fun t ht => (hrw.room _ (by omega)).2)
              obtain ⟨c', b1, b2, b3, b4⟩ := setCells_block g (List.replicate (n - (compQ q).length) (.pointer none)) (compQ q).length wr _ _ hrw.at_
              have hfin : Rw (wr.setCells g (compQ q).length (List.replicate (n - (compQ q).length) (.pointer none))) g cap (compQ q) c'.toList := by
                refine ⟨b1, by simpa [hrw.len] using b2, ?_⟩
                rw [← hrw.pre]
                apply List.ext_getElem?
                intro i
                rw [List.getElem?_take, List.getElem?_take]
                by_cases hi : i < (compQ q).length
                · rw [if_pos hi, if_pos hi]
                  have := b3 i hi
                  simpa using this
                · rw [if_neg hi, if_neg hi]
              have hss : SSt B w N g cap C (compQ q) (wr.setCells g (compQ q).length (List.replicate (n - (compQ q).length) (.pointer none))) :=
                ⟨⟨_, hfin⟩, hU.trans (b4.up (B := B)) (fun _ _ h => h), (fun p hp => TY.up (b4.up (B := B)) (fun i f => by rw [f]; exact hN) (fun _ _ f => f) _ _ (htq p (comp_sub q none p hp))), fun p hp => hfine p (comp_sub q none p hp), b4.at hby (fun e => hgC e.symm), fun i hi => Nat.lt_of_lt_of_le (hltN i hi) b4.size⟩
              have HFIN := Lib.hid hss
              clear hfin hss b1 b2 b3 b4 hrw hU htq hby hltN hqt hfine HP0
              generalize hkq : (compQ q).length = kq at *
              have HKQ := Lib.hid hkq; clear hkq
              have k0 : (0 : Int) ≤ (kq : Int) := by omega
              have k1 : (kq : Int) ≤ (n : Int) := by omega
              have k2 : ¬ cap = kq := by omega
              have k3 : ¬ kq = cap := by omega
              have k4 : kq ≤ n := by omega
              have k5 : kq ≤ cap := by omega
              have k6 : (kq : Int) ≤ (cap : Int) := by omega
              have dm : decide ((m : Int) + 1 < (L : Int)) = false := decide_eq_false (by omega)
              clear em
              go_wp2
              go_ret
              exact ⟨by rw [HKQ.out]; rfl, HFIN.out⟩
      · have hkn' : k + 1 = n := by omega
        have hqt : q.take (k + 1) = q := List.take_of_length_le (by omega)
        rw [hqt] at hcq
        have HCQ := Lib.hid hcq
        have HI := Lib.hid hI
        have dm : decide ((k : Int) + 1 < (n : Int)) = false := decide_eq_false (by omega)
        clear hcq hI hkn' hqt hrw'
        go_wp2
        go_ret
        exact ⟨by rw [HCQ.out, hq]; rfl, by rw [HCQ.out]; exact HI.out⟩
end Go.Proofs.YtmheonaddidbjaaGreatDoor
