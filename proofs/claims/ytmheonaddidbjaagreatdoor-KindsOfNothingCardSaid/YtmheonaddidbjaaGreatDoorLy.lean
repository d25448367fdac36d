/- lay, of a type that is not there. -/
import Derived.Test.YtmheonaddidbjaaGreatDoorRe
set_option linter.unusedVariables false
set_option linter.unusedSimpArgs false
namespace Go.Proofs.YtmheonaddidbjaaGreatDoor
open Go.RowKit

variable {B : Nat}

/-- In lay: the map is there. -/
def Mk (B : Nat) (wc : World) (A : Nat) (N : Nat → Prop) (ts : List Ty) (t : Ty) (b : Nat) (wx : World) : Prop :=
  ∃ N3 m tv3 bs3 kvs3, AR B wx A N3 ts tv3 (.map (some m)) bs3 kvs3 ∧ TY wx N3 t b ∧ Up B (Own B N) wc wx ∧ ∀ j, N3 j → N j ∨ wc.heap.size ≤ j

theorem Mk.same {wc wx wy : World} {A : Nat} {N : Nat → Prop} {ts : List Ty} {t : Ty} {b : Nat} (h : Mk B wc A N ts t b wx) (hS : Same B wx wy) : Mk B wc A N ts t b wy := by
  obtain ⟨N3, m, tv3, bs3, kvs3, h1, h2, h3, h4⟩ := h
  exact ⟨N3, m, tv3, bs3, kvs3, h1.same hS, h2.same hS, h3.same hS, h4⟩

/-- In lay: the text's number is laid. -/
def Nu (B : Nat) (wc : World) (A : Nat) (N : Nat → Prop) (ts : List Ty) (t : Ty) (b : Nat) (W : World) : Prop :=
  ∃ wx N3 m tv3 bs3 kvs3, AR B wx A N3 ts tv3 (.map (some m)) bs3 kvs3 ∧ TY wx N3 t b ∧ Up B (Own B N) wc wx ∧ (∀ j, N3 j → N j ∨ wc.heap.size ≤ j) ∧ Fr (· = m) wx W ∧ MapIs strKey W m (put (S (tx t)) (.int .i64 (ts.length : Int)) kvs3)

theorem ty_map : Tryz.prog.underlying 56 = some (.map 9 3) := Tryz.underlying56

theorem IdsV.map {w : World} {m : Nat} {kvs : List (ByteArray × Value)} (h : IdsV w (.map (some m)) kvs) : MapIs strKey w m kvs := by
  rcases h with ⟨e, _⟩ | ⟨m', e, h⟩
  · cases e
  · cases e; exact h
theorem ownsRow_slice {w : World} {base e size n : Nat} {v : Value} {xs : List Value} (h : w.ownsRow base e size v n xs) : ∃ a m, v = .slice a n m := by
  rcases h.2 with ⟨rfl, rfl⟩ | ⟨g, cap, _, rfl, _⟩
  · exact ⟨_, _, rfl⟩
  · exact ⟨_, _, rfl⟩

set_option maxRecDepth 100000 in
set_option maxHeartbeats 2000000 in
theorem lay_new (t : Ty) (hx : TextOk t) (hsh : Sh t) (hps : ∀ (i : Nat) (hi : i < t.parts.length), LayOk t.parts[i]) (w : World) (A : Nat) (N : Nat → Prop) (ts : List Ty) (b : Nat) (tv mv : Value) (bs : List Nat) (kvs : List (ByteArray × Value))
    (h : AR B w A N ts tv mv bs kvs) (hT : TY w N t b) (hi : idx (tx t) ts = none) (hlen : (layP ts t).length ≤ 1099511627776) :
    Calls Tryz.prog 30 #[ptr A, ptr b] w (LayPost B w A N ts t) := by
  have hk : look (S (tx t)) kvs = none := by rw [h.keys, hi]; rfl
  have HK := Lib.hid hk; clear hk
  replace hi := Lib.hid hi
  have HH := Lib.hid h; clear h
  have HT := Lib.hid hT; clear hT
  have HP := Lib.hid hps; clear hps
  have HSH := Lib.hid hsh; clear hsh
  have c1 := cellOf HH.out.own 1 _ rfl
  have hA := ltOf HH.out.own
  have HX := Lib.hid hx; clear hx
  go_enter Tryz.func30, Tryz.ntmps30
  go_upto_region 1 with fail
  go_cut [5, 6] (fun s5 s6 wx => s6 = .bool false ∧ Same B w wx)
  case first =>
    go_region_with (go_at_call 43; refine Calls.mono (HX.out B _ N b HH.out.low (HT.out.same (B := B) ((Fr.refl _ _).drew.up))) ?_; rintro e w1 ⟨rfl, hS1⟩; have d1 := cellOf (HH.out.same ((Fr.refl _ _).drew.up.same hS1)).own 1 _ rfl; have hl := run_ids (HH.out.same ((Fr.refl _ _).drew.up.same hS1)).ids (S (tx t)); rw [HK.out] at hl; simp only [Option.getD_none, Option.isSome_none] at hl)
    all_goals (go_wp2; go_meet; exact ⟨rfl, (Fr.refl _ _).drew.up.same hS1⟩)
  case rest =>
    obtain ⟨rfl, hS⟩ := hcut
    obtain ⟨wa, hwa⟩ : ∃ wa, wa = wc := ⟨_, rfl⟩
    subst hwa
    have HS := Lib.hid hS; clear hS c1
    obtain ⟨pv, pbs, hc3, hrd, htys⟩ := (HT.out.same HS.out).parts_
    obtain ⟨pa, pc, rfl⟩ := hrd.slice
    have HRD := Lib.hid hrd; clear hrd
    have HTS := Lib.hid htys; clear htys
    have hL0 : LSt B wa A N ts t b 0 wa := ⟨N, by rw [List.take_zero]; exact ⟨tv, mv, bs, kvs, HH.out.same HS.out⟩, HT.out.same HS.out, Up.refl _ _, fun j hj => Or.inl hj⟩
    have HL0 := Lib.hid hL0; clear hL0
    have hpl : t.parts.length ≤ 1099511627776 := HSH.out.len
    go_wp2
    go_loopw [26] (fun s26 wr => ∃ i : Nat, s26 = .int .i64 (i : Int) ∧ i ≤ t.parts.length ∧ LSt B wa A N ts t b i wr) (fun s26 _ => t.parts.length - (intOf s26).toNat)
    case atStart => exact ⟨0, rfl, Nat.zero_le _, HL0.out⟩
    case round =>
      obtain ⟨i, rfl, hil, hL⟩ := hrel
      have HL := Lib.hid hL; clear hL HL0
      rcases Nat.lt_or_ge i t.parts.length with hlt | hge
      · obtain ⟨Ni, l1, l2, l3, l4⟩ := HL.out
        have hNi : ∀ j, j < wa.heap.size → Ni j → N j := fun j hj h => by rcases l4 j h with h | h; exact h; omega
        obtain ⟨g, cap, x, e1, e2, hx2, _, hgl⟩ := (HRD.out.up l3 (fun _ f => f.1) hNi (by decide)).cell i hlt
        obtain ⟨pb, e3, hTp⟩ := (HTS.out.up l3 (fun _ f => f.1) hNi).get i hlt
        cases e1
        rw [List.getElem?_map, e3] at e2
        cases e2
        have i0 : (0 : Int) ≤ (i : Int) := by omega
        have i1 : (i : Int) < (t.parts.length : Int) := by omega
        have hsn : layP (layPs ts (t.parts.take i)) t.parts[i] = layPs ts (t.parts.take (i + 1)) := by rw [take_snoc _ i hlt, layPs_snoc]
        have hbd : (layP (layPs ts (t.parts.take i)) t.parts[i]).length ≤ 1099511627776 := by
          rw [hsn]
          refine Nat.le_trans (layPs_take _ _ _) (Nat.le_trans ?_ hlen)
          rw [layP_eq, hi.out]
          simp
        have HC := Lib.hid (HP.out i hlt B wr A Ni _ pb l1 hTp hbd)
        have hstep : ∀ e w2, LayPost B wr A Ni (layPs ts (t.parts.take i)) t.parts[i] e w2 → ∃ r : Nat, e = .returned (.int .i64 (r : Int)) ∧ LSt B wa A N ts t b (i + 1) w2 := by
          rintro e w2 ⟨r, N', rfl, q1, q2, q3, q4⟩
          refine ⟨r, rfl, N', by rw [← hsn]; exact q2, TY.up q3 (fun _ f => f.1) (fun j hj h => ?_) t b l2, l3.trans q3 (fun j hj h => ⟨hNi j hj h.1, h.2⟩), fun j h => ?_⟩
          · rcases q4 j h with h | h
            · exact h
            · omega
          · rcases q4 j h with h | h
            · exact l4 j h
            · have := l3.size; exact Or.inr (by omega)
        have HST := Lib.hid hstep
        clear l1 l2 l3 l4 hNi hTp hbd e3 hstep hsn
        go_wp2_with (go_at_call 30; refine Calls.mono HC.out ?_; intro e w2 hq; obtain ⟨r, rfl, hL2⟩ := HST.out e w2 hq; clear hq; have HL2 := Lib.hid hL2; clear hL2)
        exact ⟨⟨i + 1, by push_cast; rfl, by omega, HL2.out⟩, by simp [intOf]; omega⟩
      · have hil' : i = t.parts.length := by omega
        subst hil'
        obtain ⟨N2, ⟨tv2, mv2, bs2, kvs2, l1⟩, l2, l3, l4⟩ := HL.out
        rw [List.take_length] at l1
        have hfr : idx (tx t) (layPs ts t.parts) = none := lay_fresh HSH.out hi.out
        have hcl : ∀ p ∈ t.parts, (idx (tx p) (layPs ts t.parts)).isSome := fun p hp => by obtain ⟨j, hj⟩ := layPs_has t.parts ts p hp; rw [hj]; rfl
        have hll : (layPs ts t.parts).length + 1 ≤ 1099511627776 := by
          rw [layP_eq, hi.out] at hlen
          simpa using hlen
        have hres : layP ts t = layPs ts t.parts ++ [t] := by rw [layP_eq, hi.out]; simp
        have HRES := Lib.hid hres
        have HFR := Lib.hid hfr
        have HCL := Lib.hid hcl
        clear hres hfr hcl hil hge
        generalize layPs ts t.parts = tsP at *
        obtain ⟨r, rfl⟩ : ∃ r, mv2 = .map r := by
          rcases l1.ids with ⟨e, _⟩ | ⟨m, e, _⟩
          · exact ⟨_, e⟩
          · exact ⟨_, e⟩
        have c1 := cellOf l1.own 1 _ rfl
        have he := fun W => run_eql_map_nil (P := Tryz.prog) W 56 9 3 r Tryz.underlying56
        have L1 := Lib.hid l1; clear l1
        have L2 := Lib.hid l2; clear l2
        have L3 := Lib.hid l3; clear l3
        have L4 := Lib.hid l4; clear l4
        go_upto_if 38 with fail
        go_cut [] (fun wx => Mk B wa A N tsP t b wx)
        case first =>
          rcases r with _ | m
          · have hmk := @run_makeMap Tryz.prog
            have d1 := cellOf L1.out.own 1 _ rfl
            have f1 := freeOf L1.out.own 1
            have hA2 := ltOf L1.out.own
            go_wp2_with fail
            go_meet
            exact ⟨_, _, _, _, _, L1.out.mkmap.1, TY.up L1.out.mkmap.2 (fun _ f => f.1) (fun i hi h => by rcases h with h | h; exact h; omega) t b L2.out, L3.out.trans L1.out.mkmap.2 (fun j hj h => ⟨by rcases L4.out j h.1 with h | h; exact h; omega, h.2⟩), fun j h => by
              rcases h with h | h
              · exact L4.out j h
              · have := L3.out.size; exact Or.inr (by omega)⟩
          · go_wp2_with fail
            go_meet
            exact ⟨_, _, _, _, _, L1.out, L2.out, L3.out, L4.out⟩
        case rest =>
          obtain ⟨wb, hwb⟩ : ∃ wb, wb = wc := ⟨_, rfl⟩
          subst hwb
          obtain ⟨N3, m, tv3, bs3, kvs3, m1, m2, m3, m4⟩ := hcut
          clear he c1 L1 L2 L3 L4 HL
          obtain ⟨ta, tc, rfl⟩ := ownsRow_slice m1.row
          have M1 := Lib.hid m1; clear m1
          have M2 := Lib.hid m2; clear m2
          have M3 := Lib.hid m3; clear m3
          have M4 := Lib.hid m4; clear m4
          have c0 := cellOf M1.out.own 0 _ rfl
          have c1 := cellOf M1.out.own 1 _ rfl
          have hA3 := ltOf M1.out.own
          go_upto_region 11 with fail
          go_cut [] (fun wx => Nu B wa A N tsP t b wx)
          case first =>
            go_region_with (go_at_call 43; refine Calls.mono (HX.out B _ N3 b M1.out.low (M2.out.same (B := B) ((Fr.refl _ _).drew.up))) ?_; rintro e w1 ⟨rfl, hS1⟩; have hS1' := ((Fr.refl (fun _ => False) wb).drew.up (B := B)).same hS1; have M1' := Lib.hid (M1.out.same hS1'); have d0 := cellOf M1'.out.own 0 _ rfl; have d1 := cellOf M1'.out.own 1 _ rfl; obtain ⟨w2, hrun, hm2, hf2⟩ := run_put (w := w1) keyS ty_map M1'.out.ids.map (S (tx t)) (.int .i64 (tsP.length : Int)); have HM2 := Lib.hid hm2; have HF2 := Lib.hid hf2; have HS1 := Lib.hid hS1'; clear hm2 hf2 hS1 hS1')
            all_goals (go_wp2_with fail; go_meet; exact ⟨w1, N3, m, _, bs3, kvs3, M1'.out, M2.out.same HS1.out, M3.out.same HS1.out, M4.out, HF2.out, HM2.out⟩)
          case rest =>
            obtain ⟨wd, hwd⟩ : ∃ wd, wd = wc := ⟨_, rfl⟩
            subst hwd
            clear M1 M2 M3 M4 c0 c1 hA3
            obtain ⟨wx, N4, m', tv4, bs4, kvs4, n1, n2, n3, n4, n5, n6⟩ := hcut
            obtain ⟨ta', tc', rfl⟩ := ownsRow_slice n1.row
            have hmA : A ≠ m' := fun e => by
              obtain ⟨es, c, hx, _⟩ := n1.ids.map
              rw [← e, n1.own] at hx; cases hx
            have hAd := n5.at n1.own hmA
            have hTm : ∀ g, (Value.slice ta' tsP.length tc').ownBlock = some g → ¬ g = m' := fun g hg e => by
              obtain ⟨es, c, hx, _⟩ := n1.ids.map
              exact row_type n1.row hx (fun c e => by cases e) (by rw [hg, e])
            have hrow := n5.row n1.row hTm
            have hTA : (Value.slice ta' tsP.length tc').ownBlock ≠ some A := row_type n1.row n1.own (fun c e => by cases e)
            have c0 := cellOf hAd 0 _ rfl
            have hAlt := ltOf hAd
            obtain ⟨i0, hi', hz0, hz1, hz2⟩ := info_parts infoPtr
            have P1 := Lib.hid n1; clear n1
            have P2 := Lib.hid n2; clear n2
            have P3 := Lib.hid n3; clear n3
            have P4 := Lib.hid n4; clear n4
            have P5 := Lib.hid n5; clear n5
            have P6 := Lib.hid n6; clear n6
            have HAD := Lib.hid hAd; clear hAd
            have HROW := Lib.hid hrow; clear hrow
            have HTA := Lib.hid hTA; clear hTA hTm
            go_wp2_with (at_builtin; refine wpList_append_own_at _ rfl (.tmp 58) (.tmp 60) 55 rfl 0 74 i0 (.pointer none) 1 8 Tryz.underlying55 hi' hz0 hz1 hz2 rfl (by decide) _ _ _ rfl (HROW.out.alloc _) ⟨wd.heap.size, 0, none⟩ 1 1 [ptr b] rfl rfl ?c1 ?c2 ?c3 ?c4 ?c5 ?_)
            case c1 => simpa using cell_one_new wd (ptr b) 74
            case c2 => intro u hu; simp at hu; subst hu; rfl
            case c3 => unfold maxLen; omega
            case c4 => omega
            case c5 => omega
            intro v' w2 hown2 hg2 hnil hat
            obtain ⟨g, cap, rfl, hgg⟩ := push_form hown2 hat
            have hA2 := grownAt hg2 (heapAlloc HAD.out _) HTA.out
            have d0 := cellOf hA2 0 _ rfl
            have f0 := freeOf hA2 0
            have hfin := AR.final P1.out P2.out HFR.out HCL.out P5.out P6.out _ hg2 hown2 (by rcases hgg with h | h; exact Or.inl h; exact Or.inr (by simpa using h))
            have HFIN := Lib.hid hfin
            clear hfin hnil hat hgg hown2 hg2 hA2
            go_wp2
            go_ret
            obtain ⟨N5, q1, q2, q3⟩ := HFIN.out
            refine ⟨tsP.length, N5, rfl, ?_, ?_, ?_, ?_⟩
            · rw [HRES.out, idx_append, HFR.out]
              simp [idx]
            · rw [HRES.out]; exact q1
            · refine ((HS.out.mono (fun _ _ f => f.elim)).trans P3.out (fun _ _ h => h)).trans q2 (fun j hj h => ⟨?_, h.2⟩)
              rcases P4.out j h.1 with h | h
              · exact h
              · have := HS.out.size; omega
            · intro j hj
              rcases q3 j hj with h | h
              · rcases P4.out j h with h | h
                · exact Or.inl h
                · have := HS.out.size; exact Or.inr (by omega)
              · have := HS.out.size; have := P3.out.size; exact Or.inr (by omega)

theorem lay_step (t : Ty) (hx : TextOk t) (hsh : Sh t) (hps : ∀ (i : Nat) (hi : i < t.parts.length), LayOk t.parts[i]) : LayOk t := by
  rintro B w A N ts b ⟨tv, mv, bs, kvs, h⟩ hT hlen
  cases hi : idx (tx t) ts with
  | some r =>
    refine (lay_found t hx w A N ts b r tv mv bs kvs h hT hi).mono ?_
    rintro e w' ⟨rfl, hS⟩
    have e1 : layP ts t = ts := by rw [layP_eq, hi]; rfl
    exact ⟨r, N, rfl, by rw [e1]; exact hi, by rw [e1]; exact ⟨tv, mv, bs, kvs, h.same hS⟩, hS.mono (fun _ _ f => f.elim), fun i hi => Or.inl hi⟩
  | none => exact lay_new t hx hsh hps w A N ts b tv mv bs kvs h hT hi hlen

mutual
/-- The texts of all that a type has are as they should be. -/
def Gd : Ty → Prop
  | .mk k n nm ps ns ms => TextOk (.mk k n nm ps ns ms) ∧ Gds ps
def Gds : List Ty → Prop
  | [] => True
  | t :: r => Gd t ∧ Gds r
end
mutual
theorem lay_any : ∀ t : Ty, Gd t → Sh t → LayOk t
  | .mk k n nm ps ns ms, hg, hs => lay_step _ hg.1 hs (fun i hi => lays_any ps _ hg.2 hs.2 i hi)
theorem lays_any : ∀ (l : List Ty) (L : Nat), Gds l → Shs L l → ∀ (i : Nat) (hi : i < l.length), LayOk l[i]
  | t :: r, L, hg, hs, 0, _ => lay_any t hg.1 hs.1
  | t :: r, L, hg, hs, i + 1, hi => lays_any r L hg.2 hs.2.2 i (by simpa using hi)
end
end Go.Proofs.YtmheonaddidbjaaGreatDoor
