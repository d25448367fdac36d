/- union. -/
import Derived.Test.YtmheonaddidbjaaGreatDoorUs
import Derived.Maps.OwnIn
import Derived.Shelf.Abstract
import Derived.Deep.DeepCutAuto
import Derived.Sort.CutIn
set_option linter.unusedVariables false
set_option linter.unusedSimpArgs false
namespace Go.Proofs.YtmheonaddidbjaaGreatDoor
open Go.RowKit
attribute [local go_sem] Oper.semAt_some

variable {B : Nat}

theorem comp_mem : ∀ (q : List (Ty × Nat)) (o : Option (Ty × Nat)) (p : Ty × Nat), p ∈ comp o q → p ∈ q
  | [], none, p, h => by cases h
  | [], some _, p, h => by cases h
  | x :: r, none, p, h => by
    rcases List.mem_cons.1 (by simpa [comp] using h) with rfl | h
    · simp
    · exact List.mem_cons_of_mem _ (comp_mem r _ p h)
  | x :: r, some y, p, h => by
    unfold comp at h
    by_cases e : eqQ x y = true
    · rw [if_pos e] at h; exact List.mem_cons_of_mem _ (comp_mem r _ p h)
    · rw [if_neg e] at h
      rcases List.mem_cons.1 h with rfl | h
      · simp
      · exact List.mem_cons_of_mem _ (comp_mem r _ p h)
theorem comp_len : ∀ (q : List (Ty × Nat)) (o : Option (Ty × Nat)), (comp o q).length ≤ q.length
  | [], none => Nat.le_refl _
  | [], some _ => Nat.le_refl _
  | x :: r, none => by
    have := comp_len r (some x)
    simp [comp]; omega
  | x :: r, some y => by
    have h1 := comp_len r (some y)
    have h2 := comp_len r (some x)
    unfold comp
    split
    · simp; omega
    · simp; omega
theorem keep_mem {q : List (Ty × Nat)} {fl : List Ty} {p : Ty × Nat} (h : p ∈ compQ (sortQ (keepQ fl q))) : p ∈ q := (List.mem_filter.1 ((sortQ_perm _).mem_iff.1 (comp_mem _ _ _ h))).1

/-- The union of these parts. -/
def unionQ (q : List (Ty × Nat)) : Ty :=
  if 0 < cntK (q.map (·.1)) 1 then bas 1
  else if 0 < cntK (q.map (·.1)) 2 then bas 2
  else match compQ (sortQ (keepQ (q.map (·.1)) q)) with
    | [] => bas 3
    | [p] => p.1
    | l => .mk 16 0 [] (l.map (·.1)) [] []

def UnPost (B : Nat) (w : World) (N : Nat → Prop) (fl : List Ty) (e : Ending) (w' : World) : Prop :=
  ∃ q b, q.map (·.1) = fl ∧ e = .returned (ptr b) ∧ TY w' N (unionQ q) b ∧ Same B w w'

/-- The function's end: the marks are taken. -/
theorem UnPost.fin {w W : World} {N : Nat → Prop} {q : List (Ty × Nat)} {fl : List Ty} {b : Nat} {Ds : List Nat} (hq : q.map (·.1) = fl) (hT : TY W (fun i => N i ∨ i ∈ Ds) (unionQ q) b) (hU : Same B w W) (hD : ∀ D ∈ Ds, w.heap.size ≤ D) {W' : World} (hF : Fr (fun b => b ∈ Ds) W W') : UnPost B w N fl (.returned (ptr b)) W' :=
  ⟨q, b, hq, rfl, TY.up (hF.up (B := B)) (fun i f => Or.inr f) (fun i _ f => Or.inl f) _ _ hT, hU.trans hF.up (fun i hi f => by (have := hD i f; omega))⟩

def ULp (B : Nat) (w : World) (N : Nat → Prop) (C1 C2 C3 m1 m2 : Nat) (given : List Ty) (i : Nat) (Ds : List Nat) (W : World) : Prop :=
  ∃ q v, q.map (·.1) = (given.take i).flatMap flatT ∧ USt B w N C1 C2 C3 m1 m2 (q.map (·.1)) (q.map (·.1)) q v Ds W

set_option maxRecDepth 100000 in
set_option maxHeartbeats 1000000 in
theorem union_any (w : World) (N : Nat → Prop) (a : Option Addr) (n c : Nat) (given : List Ty) (bs : List Nat) (hlow : ∀ i, i < B → N i) (hlt : ∀ i, N i → i < w.heap.size)
    (hr : Rd w N 74 (.slice a n c) n (bs.map ptr)) (hT : TYs w N given bs) (hf : ∀ t ∈ given.flatMap flatT, Fine t ∧ Ask t) (hne : given.flatMap flatT ≠ []) (hn : (given.flatMap flatT).length < 20) (hn2 : n ≤ 1099511627776) :
    Calls Tryz.prog 42 #[.slice a n c] w (UnPost B w N (given.flatMap flatT)) := by
  have hmf : ∀ (fn : Fn) (first cap : Array Value) (w : World), (Instr.makeFunc fn first cap).run Tryz.prog w = .ok (.func fn first cap) w := fun _ _ _ _ => rfl
  have hmk := @run_makeMap Tryz.prog
  have HR := Lib.hid hr; clear hr
  have HT := Lib.hid hT; clear hT
  have HL := Lib.hid hlow; clear hlow
  have HLT := Lib.hid hlt; clear hlt
  have HF := Lib.hid hf; clear hf
  have HNE := Lib.hid hne; clear hne
  refine callsIn_wide.1 (callsIn_of_wp_marks (n := 3) Tryz.func42 rfl trivial ?_ rfl)
  rw [wpIn_wide]
  simp only [Tryz.ntmps42, List.size_toArray, List.length_cons, List.length_nil, Nat.reduceAdd, Nat.reduceSub, Array.replicate_succ, Array.replicate_zero, List.push_toArray, List.append_toArray, List.nil_append, List.cons_append]
  go_wp2
  have h0 : USt B w N (w.heap.size + 1) (w.heap.size + 1 + 1 + 1) (w.heap.size + 1 + 1 + 1 + 1) w.heap.size (w.heap.size + 1 + 1) [] [] [] (.slice none 0 0) [] (((((w.alloc (.map #[] 0)).alloc (.cells #[.map (some w.heap.size)] 139)).alloc (.map #[] 0)).alloc (.cells #[.map (some (w.heap.size + 1 + 1))] 56)).alloc (.cells #[.slice none 0 0] 55)) := by
    refine ⟨?_, ?_, ?_, ⟨rfl, Or.inl ⟨rfl, rfl⟩⟩, ⟨[], ?_, fun k => rfl⟩, ⟨[], ?_, fun k => rfl⟩, fun p hp => (by cases hp), ?_, ⟨List.nodup_nil, fun D hD => (by cases hD)⟩, ⟨(by refine ⟨?_, ?_, ?_, ?_, ?_⟩ <;> omega), fun D hD => (by cases hD), (by omega), (by omega), (by omega)⟩⟩
    · simpa using heapAlloc (heapAlloc (heapAlloc (heapNew (w.alloc (.map #[] 0)) (.cells #[.map (some w.heap.size)] 139)) (.map #[] 0)) (.cells #[.map (some (w.heap.size + 1 + 1))] 56)) (.cells #[.slice none 0 0] 55)
    · simpa using heapAlloc (heapNew (((w.alloc (.map #[] 0)).alloc (.cells #[.map (some w.heap.size)] 139)).alloc (.map #[] 0)) (.cells #[.map (some (w.heap.size + 1 + 1))] 56)) (.cells #[.slice none 0 0] 55)
    · simpa using heapNew ((((w.alloc (.map #[] 0)).alloc (.cells #[.map (some w.heap.size)] 139)).alloc (.map #[] 0)).alloc (.cells #[.map (some (w.heap.size + 1 + 1))] 56)) (.cells #[.slice none 0 0] 55)
    · exact ((((MapIs.new intKey w).alloc _).alloc _).alloc _).alloc _
    · simpa using ((MapIs.new strKey ((w.alloc (.map #[] 0)).alloc (.cells #[.map (some w.heap.size)] 139))).alloc (.cells #[.map (some (w.heap.size + 1 + 1))] 56)).alloc (.cells #[.slice none 0 0] 55)
    · exact ((((((Fr.refl _ _).alloc _).alloc _).alloc _).alloc _).alloc _).up
  generalize ((((w.alloc (.map #[] 0)).alloc (.cells #[.map (some w.heap.size)] 139)).alloc (.map #[] 0)).alloc (.cells #[.map (some (w.heap.size + 1 + 1))] 56)).alloc (.cells #[.slice none 0 0] 55) = W0 at h0 ⊢
  generalize w.heap.size + 1 + 1 + 1 + 1 = C3 at h0 ⊢
  generalize w.heap.size + 1 + 1 + 1 = C2 at h0 ⊢
  generalize w.heap.size + 1 + 1 = m2 at h0 ⊢
  generalize w.heap.size + 1 = C1 at h0 ⊢
  generalize hm1 : w.heap.size = m1 at h0 ⊢
  have H0 : Hid (ULp B w N C1 C2 C3 m1 m2 given 0 [] W0) := Lib.hid ⟨[], _, by simp, h0⟩
  clear h0 hm1
  refine wp_loop (fun (a' : Act) (W : World) => ∃ (u7 u17 u18 u19 u20 u21 u22 u45 : Value) (Ds : List Nat) (i : Nat), (i ≤ n ∧ u17 = .int .i64 (i : Int) ∧ ULp B w N C1 C2 C3 m1 m2 given i Ds W) ∧ a' = ⟨#[.slice a n c, undef, .pointer none, .pointer (some ⟨C1, 0, none⟩), .pointer (some ⟨C2, 0, none⟩), .pointer (some ⟨C3, 0, none⟩), undef, u7, undef, undef, undef, undef, undef, .map (some m1), .map (some m2), .slice a n c, .int .i64 (n : Int), u17, u18, u19, u20, u21, u22, undef, undef, undef, undef, undef, undef, undef, undef, undef, undef, undef, undef, undef, undef, undef, undef, undef, undef, undef, undef, undef, undef, u45, undef, undef, undef, undef, undef, undef, undef, undef, undef, undef, undef, undef, undef, undef, undef, undef, undef, undef, undef, undef, undef, undef, undef, undef, undef, undef, undef, undef, undef, undef], Marks Ds⟩)
    (fun a' _ => n - (intOf (a'.tmps.getD 17 undef)).toNat) ?start ?round
  case start =>
    exact ⟨_, _, _, _, _, _, _, _, [], 0, ⟨Nat.zero_le _, rfl, H0.out⟩, rfl⟩
  case round =>
    rintro a' W ⟨u7, u17, u18, u19, u20, u21, u22, u45, Ds, i, ⟨hi, rfl, hU⟩, rfl⟩
    clear H0
    obtain ⟨q, v1, hq, hU⟩ := hU
    have hnl : given.length = n := by rw [← HT.out.len]; simpa using HR.out.1
    rcases Nat.lt_or_ge i n with hin | hin
    · obtain ⟨g0, cap0, x0, e1, e2, hx, _, hg0⟩ := (HR.out.same hU.up (by decide)).cell i hin
      cases e1
      have hig : i < given.length := by omega
      obtain ⟨b, e3, hTi⟩ := (TYs.up (N' := NW N w) hU.up (fun _ f => f.elim) (fun j hj f => f.elim id (fun h => absurd h (by omega))) _ _ HT.out).get i hig
      rw [List.getElem?_map, e3] at e2
      cases e2
      have hq' : Hid ((given.take (i + 1)).flatMap flatT = (given.take i).flatMap flatT ++ flatT given[i]) := Lib.hid (by rw [take_snoc _ i hig, List.flatMap_append]; simp)
      have hsz := hU.up.size
      have HE := Lib.hid (each_any2 W (fun j => N j ∨ w.heap.size ≤ j ∧ j < W.heap.size) (NW N w) given[i] b hTi (fun j hj => by
        rcases hj with h | h
        · exact ⟨Nat.lt_of_lt_of_le (HLT.out j h) hsz, Or.inl h⟩
        · exact ⟨h.2, Or.inr h.1⟩))
      have hfl : (flatT given[i]).length ≤ 1099511627776 := by
        have : (flatT given[i]).length ≤ (given.flatMap flatT).length := by
          conv => rhs; rw [← List.take_append_drop (i + 1) given, List.flatMap_append, List.length_append, hq'.out, List.length_append]
          omega
        omega
      have HFL := Lib.hid hfl; clear hfl
      have HFt : Hid (∀ p ∈ flatT given[i], Fine p ∧ Ask p) := Lib.hid (fun p hp => HF.out p (List.mem_flatMap.2 ⟨_, List.getElem_mem hig, hp⟩))
      have HU := Lib.hid hU; clear hU
      have HQ := Lib.hid hq; clear hq
      have i0 : (0 : Int) ≤ (i : Int) := by omega
      have i1 : (i : Int) < (n : Int) := by omega
      clear hTi e3
      generalize given[i] = t at *
      go_wp2_with (go_at_call 64; refine Calls.mono HE.out ?_; rintro e wa ⟨C, ev, bs', rfl, hC, hCW, hev, htys, hO⟩; have HC := Lib.hid hC; clear hC; have HCW := Lib.hid hCW; clear hCW; have HEV := Lib.hid hev; clear hev; have HTY := Lib.hid htys; clear htys; have HO := Lib.hid hO; clear hO)
      obtain ⟨a1, a2, a3, a4, a5, a6, a7⟩ := HU.out.lts
      have hszO := HO.out.size
      have hlt0 : C1 < wa.heap.size ∧ C2 < wa.heap.size ∧ C3 < wa.heap.size ∧ m1 < wa.heap.size ∧ m2 < wa.heap.size ∧ ∀ D ∈ Ds, D < wa.heap.size := ⟨by omega, by omega, by omega, by omega, by omega, fun D hD => by (have := a7 D hD; omega)⟩
      have HLT0 := Lib.hid hlt0; clear hlt0
      have HBL : Hid (bs'.length = (flatT t).length) := Lib.hid (by simpa using HEV.out.1)
      have hSb : ∀ b, (0 < (flatT t).length ∧ ev.ownBlock = some b) → b < wa.heap.size ∧ ¬ (N b ∨ w.heap.size ≤ b ∧ b < W.heap.size) := fun b hb => by
        rcases HEV.out.2 with ⟨e, _⟩ | ⟨g, cap, cur, rfl, hg, hN, _⟩
        · omega
        · cases hb.2; exact ⟨ltOf hg, hN⟩
      have HSB := Lib.hid hSb; clear hSb
      refine wp_rangeU (B := B) (gf := 134) rfl (enters_of Tryz.func134 (by kernel_rfl) rfl)
        (values_iterU wa (fun j => N j ∨ w.heap.size ≤ j ∧ j < W.heap.size) C ev (flatT t).length bs' HC.out HEV.out HFL.out) (fun x hx => by obtain ⟨y, _, rfl⟩ := List.mem_map.1 hx; rfl) ?hSlt (fun b => b = C3 ∨ b = m1 ∨ b = m2 ∨ v1.ownBlock = some b) ?hSG
        (UIn B w N C1 C2 C3 m1 m2 ((given.take i).flatMap flatT) (flatT t) bs' Ds) (fun _ _ _ => False)
        (fun _ _ _ h => h.lt) (fun _ _ _ h => h.elim) (fun _ _ _ _ h hf => h.keep hf (by omega) HLT0.out) (fun _ _ _ _ h _ => h.elim) ?start0 ?round0 ?done0 ?stop0
      case hSlt =>
        rintro b' (rfl | h)
        · exact ltOf HC.out
        · exact (HSB.out b' h).1
      case hSG =>
        have hlo := HU.out.lo.1
        have hvr := fun g hg => (HU.out.row.lt g hg).1
        have hCW := HCW.out
        rintro b' hb (rfl | rfl | rfl | hg)
        · rcases hb with h | h
          · omega
          · exact (HSB.out _ h).2 (Or.inr ⟨hlo.2.2.1, a3⟩)
        · rcases hb with h | h
          · omega
          · exact (HSB.out _ h).2 (Or.inr ⟨hlo.2.2.2.1, a4⟩)
        · rcases hb with h | h
          · omega
          · exact (HSB.out _ h).2 (Or.inr ⟨hlo.2.2.2.2, a5⟩)
        · rcases hb with h | h
          · have := a6 b' hg; omega
          · exact (HSB.out _ h).2 (Or.inr ⟨hvr _ hg, a6 _ hg⟩)
      case start0 => exact ⟨q, v1, by simpa using HQ.out, HU.out.same (HO.out.up), HTY.out, fun _ => Iff.rfl⟩
      case stop0 => rintro D c0 G W3 h; exact h.elim
      case done0 =>
        rintro D G W3 ⟨q2, v2, hq2, hU2, _, hG2⟩ hD1 hD2 hD3
        have HU2 := Lib.hid hU2; clear hU2
        have HQ2 := Lib.hid hq2; clear hq2
        go_wp2
        refine ⟨⟨_, _, _, _, _, _, _, _, D :: Ds, ⟨i + 1, by omega, by go_num, q2, v2, ?_, ?_⟩, ⟨rfl, rfl, rfl, rfl, rfl, rfl, rfl, rfl⟩, rfl⟩, ?_⟩
        · rw [HQ2.out, hq'.out, List.length_map, HBL.out, List.take_length]
        · exact HU2.out.mark hD3 (fun h => by (have := HLT0.out.2.2.2.2.2 D h; omega)) (by omega)
        · simp [intOf]; omega
      case round0 =>
        intro n' l k G W3 hk hI hl1 hl2 hl3
        rw [List.length_map] at hk
        have hk2 : k < (flatT t).length := by rw [← HBL.out]; exact hk
        rw [List.getElem_map]
        rw [zip1]
        gi_wp2
        refine ⟨Fr.refl _ _, ?_⟩
        intro W4 hF4 hI4
        have hsF := hF4.size
        clear hI hl1 hl2 hl3 hF4
        obtain ⟨q2, v2, hq2, hU2, hT2, hG2⟩ := hI4
        have hFk := HFt.out _ (List.getElem_mem hk2)
        obtain ⟨b', e3, hTk⟩ := hT2.get k hk2
        have hbk : bs'[k] = b' := by
          rw [List.getElem?_eq_getElem hk] at e3
          exact Option.some.inj e3
        rw [hbk]
        have hqk : Hid ((given.take i).flatMap flatT ++ (flatT t).take (k + 1) = q2.map (·.1) ++ [(flatT t)[k]]) := Lib.hid (by rw [hq2, take_snoc _ k hk2, List.append_assoc])
        generalize (flatT t)[k] = p at *
        clear hbk e3
        have hql : q2.length < 20 := by
          have e1 := congrArg List.length hq2
          have e2 := congrArg List.length hq'.out
          have e3 : ((given.take (i + 1)).flatMap flatT).length ≤ (given.flatMap flatT).length := by
            conv => rhs; rw [← List.take_append_drop (i + 1) given, List.flatMap_append, List.length_append]
            omega
          simp only [List.length_map, List.length_append, List.length_take] at e1 e2
          omega
        have hU5 : USt B w N C1 C2 C3 m1 m2 (q2.map (·.1)) (q2.map (·.1)) q2 v2 Ds W4.drew := hU2.same ((Fr.refl _ _).drew.up)
        obtain ⟨kv5, hm5, hk5⟩ := hU5.h1
        have hl5 := run_thr hm5 hk5 p.kind
        obtain ⟨W6, hput6, hU6, hF6⟩ := hU5.there p
        have hck : cntK (q2.map (·.1)) p.kind ≤ 20 := Nat.le_trans (cntK_le _ _) (by rw [List.length_map]; omega)
        have cC1 := cellOf hU2.c1 0 _ rfl
        have hkp := hTk.kind_
        have hwr : IntKind.i64.wrap ((cntK (q2.map (·.1)) p.kind : Int) + 1) = (cntK (q2.map (·.1)) p.kind : Int) + 1 := IntWalk.i64_in _ (by omega)
        have HU2 := Lib.hid hU2; clear hU2
        have HU6 := Lib.hid hU6; clear hU6
        have HF6 := Lib.hid hF6; clear hF6
        have HT2 := Lib.hid hT2; clear hT2
        have HTK := Lib.hid hTk; clear hTk
        have HQ2 := Lib.hid hq2; clear hq2
        clear hU5 hm5 hk5
        gi_upto_region 9 with fail
        gi_cut [] from 24 (fun wr => USt B w N C1 C2 C3 m1 m2 (q2.map (·.1) ++ [p]) (q2.map (·.1)) q2 v2 Ds wr ∧ Fr (· = m1) W4 wr)
        case first =>
          gi_region
          all_goals (gi_wp2_with fail; gi_meet; exact ⟨HU6.out, HF6.out.undrew⟩)
        case rest =>
          obtain ⟨hU7, hF7⟩ := hcut
          clear hput6 hl5 hck hwr HU6 HF6 cC1 hkp
          have hU47 : Up B (fun i => i = m1 ∨ i = m2) W4 wc := (hF7.mono (fun i _ e => Or.inl e)).up
          have hkp := (HTK.out.up hU47 (fun i f => Or.inr (by rcases f with rfl | rfl; exact HU2.out.lo.1.2.2.2.1; exact HU2.out.lo.1.2.2.2.2)) (fun _ _ f => f)).kind_
          have HU7 := Lib.hid hU7; clear hU7
          have HU47 := Lib.hid hU47; clear hU47 hF7
          have HFK := Lib.hid hFk; clear hFk
          by_cases h19 : p.kind = 19
          · rw [h19] at hkp
            gi_upto_region 11 with fail
            gi_cut [] from 24 (fun wr => USt B w N C1 C2 C3 m1 m2 (q2.map (·.1) ++ [p]) (q2.map (·.1) ++ [p]) q2 v2 Ds wr ∧ Up B (fun i => i = m1 ∨ i = m2) W4 wr)
            case first =>
              refine wpIn_region_any (by kernel_rfl) ?_
              change wpAnyIn _ _ _ _ _ _ _ _ _ (World.drew _)
              refine wpAnyIn_ready (rs := [0, 1]) (by kernel_rfl) (by simp) ?_
              have cC2 := cellOf HU7.out.c2 0 _ rfl
              have hwr8 : IntKind.i64.wrap ((cntE (q2.map (·.1)) (tx p) : Int) + 1) = (cntE (q2.map (·.1)) (tx p) : Int) + 1 := IntWalk.i64_in _ (by have := cntE_le (q2.map (·.1)) (tx p); rw [List.length_map] at this; omega)
              have HX : Hid (∀ W, Same B wc W → Calls Tryz.prog 43 #[ptr b'] W fun e w' => e = .returned (strV (tx p)) ∧ Same B W w') := Lib.hid (fun W hS => HFK.out.1.1 B W (NW N w) b' (fun i hi => Or.inl (HL.out i hi)) ((HTK.out.up HU47.out (fun i f => Or.inr (by rcases f with rfl | rfl; exact HU2.out.lo.1.2.2.2.1; exact HU2.out.lo.1.2.2.2.2)) (fun _ _ f => f)).same hS))
              refine AllReadyIn.cons rfl (fun K hK => ?_) (AllReadyIn.cons rfl (fun K hK => ?_) AllReadyIn.nil)
              · go_simp
                refine hK _ _ ?_
                clear hK K
                refine wpAnyIn_ready (rs := [1]) (by kernel_rfl) (by simp) ?_
                refine AllReadyIn.cons rfl (fun K hK => ?_) AllReadyIn.nil
                go_simp
                refine hK _ _ ?_
                clear hK K
                refine wpAnyIn_ready (rs := [2]) (by kernel_rfl) (by simp) ?_
                refine AllReadyIn.cons rfl (fun K hK => ?_) AllReadyIn.nil
                go_simp
                refine ⟨trivial, fun h => by simp [Fence.wide] at h, ?_⟩
                refine (CallsIn.inRound l (callsIn_wide.2 (HX.out _ ((Fr.refl _ _).drew.up)))).mono ?_
                rintro e w1 ⟨rfl, hS1⟩
                have hS01 : Same B wc w1 := ((Fr.refl (fun _ => False) wc).drew.up (B := B)).same hS1
                have hU8 := HU7.out.same hS01
                have cC8 := cellOf hU8.c2 0 _ rfl
                obtain ⟨kv8, hm8, hk8⟩ := hU8.h2
                have hl8 := run_enu hm8 hk8 (tx p)
                obtain ⟨W9, hput9, hU9, hF9⟩ := hU8.enum p h19
                have HU9 := Lib.hid hU9; clear hU9
                have HF9 := Lib.hid hF9; clear hF9
                have HS01 := Lib.hid hS01; clear hS01
                clear hS1 hm8 hk8 hU8
                refine hK _ _ ?_
                clear hK K
                refine wpAnyIn_ready (rs := [3]) (by kernel_rfl) (by simp) ?_
                refine AllReadyIn.cons rfl (fun K hK => ?_) AllReadyIn.nil
                go_simp
                refine hK _ _ ?_
                clear hK K
                refine wpAnyIn_ready (rs := [4]) (by kernel_rfl) (by simp) ?_
                refine AllReadyIn.cons rfl (fun K hK => ?_) AllReadyIn.nil
                go_simp
                refine hK _ _ ?_
                clear hK K
                refine wpAnyIn_ready (rs := [5]) (by kernel_rfl) (by simp) ?_
                refine AllReadyIn.cons rfl (fun K hK => ?_) AllReadyIn.nil
                go_simp
                refine hK _ _ ?_
                clear hK K
                refine wpAnyIn_done (by kernel_rfl) ?_ _
                gi_wp2_with fail
                gi_meet
                exact ⟨HU9.out, (HU47.out.same HS01.out).trans (HF9.out.up) (fun i _ e => Or.inr e)⟩
              · go_simp
                refine hK _ _ ?_
                clear hK K
                refine wpAnyIn_ready (rs := [0, 2]) (by kernel_rfl) (by simp) ?_
                refine AllReadyIn.cons rfl (fun K hK => ?_) (AllReadyIn.cons rfl (fun K hK => ?_) AllReadyIn.nil)
                · go_simp
                  refine hK _ _ ?_
                  clear hK K
                  refine wpAnyIn_ready (rs := [2]) (by kernel_rfl) (by simp) ?_
                  refine AllReadyIn.cons rfl (fun K hK => ?_) AllReadyIn.nil
                  go_simp
                  refine ⟨trivial, fun h => by simp [Fence.wide] at h, ?_⟩
                  refine (CallsIn.inRound l (callsIn_wide.2 (HX.out _ ((Fr.refl _ _).drew.up)))).mono ?_
                  rintro e w1 ⟨rfl, hS1⟩
                  have hS01 : Same B wc w1 := ((Fr.refl (fun _ => False) wc).drew.up (B := B)).same hS1
                  have hU8 := HU7.out.same hS01
                  have cC8 := cellOf hU8.c2 0 _ rfl
                  obtain ⟨kv8, hm8, hk8⟩ := hU8.h2
                  have hl8 := run_enu hm8 hk8 (tx p)
                  obtain ⟨W9, hput9, hU9, hF9⟩ := hU8.enum p h19
                  have HU9 := Lib.hid hU9; clear hU9
                  have HF9 := Lib.hid hF9; clear hF9
                  have HS01 := Lib.hid hS01; clear hS01
                  clear hS1 hm8 hk8 hU8
                  refine hK _ _ ?_
                  clear hK K
                  refine wpAnyIn_ready (rs := [3]) (by kernel_rfl) (by simp) ?_
                  refine AllReadyIn.cons rfl (fun K hK => ?_) AllReadyIn.nil
                  go_simp
                  refine hK _ _ ?_
                  clear hK K
                  refine wpAnyIn_ready (rs := [4]) (by kernel_rfl) (by simp) ?_
                  refine AllReadyIn.cons rfl (fun K hK => ?_) AllReadyIn.nil
                  go_simp
                  refine hK _ _ ?_
                  clear hK K
                  refine wpAnyIn_ready (rs := [5]) (by kernel_rfl) (by simp) ?_
                  refine AllReadyIn.cons rfl (fun K hK => ?_) AllReadyIn.nil
                  go_simp
                  refine hK _ _ ?_
                  clear hK K
                  refine wpAnyIn_done (by kernel_rfl) ?_ _
                  gi_wp2_with fail
                  gi_meet
                  exact ⟨HU9.out, (HU47.out.same HS01.out).trans (HF9.out.up) (fun i _ e => Or.inr e)⟩
                · go_simp
                  refine ⟨trivial, fun h => by simp [Fence.wide] at h, ?_⟩
                  refine (CallsIn.inRound l (callsIn_wide.2 (HX.out _ ((Fr.refl _ _).drew.up)))).mono ?_
                  rintro e w1 ⟨rfl, hS1⟩
                  have hS01 : Same B wc w1 := ((Fr.refl (fun _ => False) wc).drew.up (B := B)).same hS1
                  have hU8 := HU7.out.same hS01
                  have cC8 := cellOf hU8.c2 0 _ rfl
                  obtain ⟨kv8, hm8, hk8⟩ := hU8.h2
                  have hl8 := run_enu hm8 hk8 (tx p)
                  obtain ⟨W9, hput9, hU9, hF9⟩ := hU8.enum p h19
                  have HU9 := Lib.hid hU9; clear hU9
                  have HF9 := Lib.hid hF9; clear hF9
                  have HS01 := Lib.hid hS01; clear hS01
                  clear hS1 hm8 hk8 hU8
                  refine hK _ _ ?_
                  clear hK K
                  refine wpAnyIn_ready (rs := [0]) (by kernel_rfl) (by simp) ?_
                  refine AllReadyIn.cons rfl (fun K hK => ?_) AllReadyIn.nil
                  go_simp
                  refine hK _ _ ?_
                  clear hK K
                  refine wpAnyIn_ready (rs := [3]) (by kernel_rfl) (by simp) ?_
                  refine AllReadyIn.cons rfl (fun K hK => ?_) AllReadyIn.nil
                  go_simp
                  refine hK _ _ ?_
                  clear hK K
                  refine wpAnyIn_ready (rs := [4]) (by kernel_rfl) (by simp) ?_
                  refine AllReadyIn.cons rfl (fun K hK => ?_) AllReadyIn.nil
                  go_simp
                  refine hK _ _ ?_
                  clear hK K
                  refine wpAnyIn_ready (rs := [5]) (by kernel_rfl) (by simp) ?_
                  refine AllReadyIn.cons rfl (fun K hK => ?_) AllReadyIn.nil
                  go_simp
                  refine hK _ _ ?_
                  clear hK K
                  refine wpAnyIn_done (by kernel_rfl) ?_ _
                  gi_wp2_with fail
                  gi_meet
                  exact ⟨HU9.out, (HU47.out.same HS01.out).trans (HF9.out.up) (fun i _ e => Or.inr e)⟩
            case rest =>
              obtain ⟨hU9, hU94⟩ := hcut
              clear hkp
              have HU9 := Lib.hid hU9; clear hU9
              have HU94 := Lib.hid hU94; clear hU94
              have hrow := HU9.out.row
              have cC3 := cellOf HU9.out.c3 0 _ rfl
              obtain ⟨i0_, hi', hz0, hz1, hz2⟩ := info_parts infoPtr
              have hsz9 := HU9.out.up.size
              have hlt9 := HU9.out.lts.2.2.1
              have hn3 := row_type HU9.out.row HU9.out.c3 (fun c e => by cases e)
              gi_wp2_with (gi_at_builtin; refine wpListIn_append_own_at _ rfl (.tmp 41) (.tmp 43) 55 rfl w.heap.size 74 i0_ (.pointer none) 1 8 Tryz.underlying55 hi' hz0 hz1 hz2 rfl (by decide) _ _ _ rfl (hrow.alloc _) ⟨wc.heap.size, 0, none⟩ 1 1 [ptr b'] rfl rfl ?c1 ?c2 ?c3 ?c4 ?c5 ?_)
              case c2 => rfl
              case c3 => unfold maxLen; omega
              case c4 => omega
              case c5 => omega
              intro v' w2 hown2 hg2 hnil hat
              obtain ⟨g4, cap4, rfl, hgg⟩ := push_formB hown2 hat
              have hA2 := grownAt hg2 (heapAlloc HU9.out.c3 _) hn3
              have d0 := cellOf hA2 0 _ rfl
              have f0 := freeOf hA2 0
              have hfin := HU9.out.push p b' ((HTK.out.up HU94.out (fun i f => Or.inr (by rcases f with rfl | rfl; exact HU2.out.lo.1.2.2.2.1; exact HU2.out.lo.1.2.2.2.2)) (fun _ _ f => f))) hg2 (by simpa using hown2) (by simpa using hat)
              have HUE : Hid (Up B (fun i => i = C3 ∨ i = m1 ∨ i = m2 ∨ v2.ownBlock = some i) W4 (w2.setCell ⟨C3, 0, none⟩ (.slice (some ⟨g4, 0, none⟩) (q2.length + 1) cap4))) := Lib.hid ((HU94.out.mono (fun i _ f => Or.inr (f.elim Or.inl (fun h => Or.inr (Or.inl h))))).trans hfin.2 (fun i _ f => f.elim (fun h => Or.inr (Or.inr (Or.inr h))) Or.inl))
              have HFI := Lib.hid hfin
              clear hfin hown2 hg2 hnil hA2 cC3 hrow hi' hz0 hz1 hz2
              have HAT := Lib.hid hat; clear hat
              gi_wp2_with fail
              refine ⟨⟨fun b => b = C3 ∨ b = m1 ∨ b = m2 ∨ (Value.slice (some ⟨g4, 0, none⟩) (q2.length + 1) cap4).ownBlock = some b, ⟨q2 ++ [(p, b')], .slice (some ⟨g4, 0, none⟩) (q2.length + 1) cap4, ?_, ?_, ?_, fun _ => Iff.rfl⟩, ?_⟩, ?_⟩
              · rw [hqk.out]; simp
              · rw [List.map_append]; exact HFI.out.1
              · exact TYs.up HUE.out (fun i f => Or.inr (by rcases f with rfl | rfl | rfl | f; exact HU2.out.lo.1.2.2.1; exact HU2.out.lo.1.2.2.2.1; exact HU2.out.lo.1.2.2.2.2; exact (HU2.out.row.lt _ f).1)) (fun _ _ f => f) _ _ HT2.out
              · rintro b4 (h | h | h | h)
                · exact Or.inl ((hG2 b4).2 (Or.inl h))
                · exact Or.inl ((hG2 b4).2 (Or.inr (Or.inl h)))
                · exact Or.inl ((hG2 b4).2 (Or.inr (Or.inr (Or.inl h))))
                · have h4 : g4 = b4 := by simpa [Value.ownBlock] using h
                  subst h4
                  rcases hgg with h | h
                  · exact Or.inl ((hG2 g4).2 (Or.inr (Or.inr (Or.inr h))))
                  · have := HU94.out.size
                    exact Or.inr (by omega)
              · exact HUE.out.mono (fun i _ f => Or.inl ((hG2 i).2 f))
          · have b19 : (p.kind == 19) = false := beq_eq_false_iff_ne.2 h19
            have HU9 : Hid (USt B w N C1 C2 C3 m1 m2 (q2.map (·.1) ++ [p]) (q2.map (·.1) ++ [p]) q2 v2 Ds wc) := Lib.hid (HU7.out.skip p h19)
            have HU94 := HU47
            replace h19 := Lib.hid h19
            have hrow := HU9.out.row
            have cC3 := cellOf HU9.out.c3 0 _ rfl
            obtain ⟨i0_, hi', hz0, hz1, hz2⟩ := info_parts infoPtr
            have hsz9 := HU9.out.up.size
            have hlt9 := HU9.out.lts.2.2.1
            have hn3 := row_type HU9.out.row HU9.out.c3 (fun c e => by cases e)
            gi_wp2_with (gi_at_builtin; refine wpListIn_append_own_at _ rfl (.tmp 41) (.tmp 43) 55 rfl w.heap.size 74 i0_ (.pointer none) 1 8 Tryz.underlying55 hi' hz0 hz1 hz2 rfl (by decide) _ _ _ rfl (hrow.alloc _) ⟨wc.heap.size, 0, none⟩ 1 1 [ptr b'] rfl rfl ?d1 ?d2 ?d3 ?d4 ?d5 ?_)
            case d2 => rfl
            case d3 => unfold maxLen; omega
            case d4 => omega
            case d5 => omega
            intro v' w2 hown2 hg2 hnil hat
            obtain ⟨g4, cap4, rfl, hgg⟩ := push_formB hown2 hat
            have hA2 := grownAt hg2 (heapAlloc HU9.out.c3 _) hn3
            have d0 := cellOf hA2 0 _ rfl
            have f0 := freeOf hA2 0
            have hfin := HU9.out.push p b' ((HTK.out.up HU94.out (fun i f => Or.inr (by rcases f with rfl | rfl; exact HU2.out.lo.1.2.2.2.1; exact HU2.out.lo.1.2.2.2.2)) (fun _ _ f => f))) hg2 (by simpa using hown2) (by simpa using hat)
            have HUE : Hid (Up B (fun i => i = C3 ∨ i = m1 ∨ i = m2 ∨ v2.ownBlock = some i) W4 (w2.setCell ⟨C3, 0, none⟩ (.slice (some ⟨g4, 0, none⟩) (q2.length + 1) cap4))) := Lib.hid ((HU94.out.mono (fun i _ f => Or.inr (f.elim Or.inl (fun h => Or.inr (Or.inl h))))).trans hfin.2 (fun i _ f => f.elim (fun h => Or.inr (Or.inr (Or.inr h))) Or.inl))
            have HFI := Lib.hid hfin
            clear hfin hown2 hg2 hnil hA2 cC3 hrow hi' hz0 hz1 hz2
            have HAT := Lib.hid hat; clear hat
            gi_wp2_with fail
            refine ⟨⟨fun b => b = C3 ∨ b = m1 ∨ b = m2 ∨ (Value.slice (some ⟨g4, 0, none⟩) (q2.length + 1) cap4).ownBlock = some b, ⟨q2 ++ [(p, b')], .slice (some ⟨g4, 0, none⟩) (q2.length + 1) cap4, ?_, ?_, ?_, fun _ => Iff.rfl⟩, ?_⟩, ?_⟩
            · rw [hqk.out]; simp
            · rw [List.map_append]; exact HFI.out.1
            · exact TYs.up HUE.out (fun i f => Or.inr (by rcases f with rfl | rfl | rfl | f; exact HU2.out.lo.1.2.2.1; exact HU2.out.lo.1.2.2.2.1; exact HU2.out.lo.1.2.2.2.2; exact (HU2.out.row.lt _ f).1)) (fun _ _ f => f) _ _ HT2.out
            · rintro b4 (h | h | h | h)
              · exact Or.inl ((hG2 b4).2 (Or.inl h))
              · exact Or.inl ((hG2 b4).2 (Or.inr (Or.inl h)))
              · exact Or.inl ((hG2 b4).2 (Or.inr (Or.inr (Or.inl h))))
              · have h4 : g4 = b4 := by simpa [Value.ownBlock] using h
                subst h4
                rcases hgg with h | h
                · exact Or.inl ((hG2 g4).2 (Or.inr (Or.inr (Or.inr h))))
                · have := HU94.out.size
                  exact Or.inr (by omega)
            · exact HUE.out.mono (fun i _ f => Or.inl ((hG2 i).2 f))
    · have hin' : i = n := by omega
      subst hin'
      have hfl : q.map (·.1) = given.flatMap flatT := by rw [hq, List.take_of_length_le (by omega)]
      clear hq
      obtain ⟨kv1, hm1, hk1⟩ := hU.h1
      have hl1 := run_thr hm1 hk1 1
      have hl2 := run_thr hm1 hk1 2
      have cC1 := cellOf hU.c1 0 _ rfl
      have HU := Lib.hid hU; clear hU hm1 hk1
      have HFL := Lib.hid hfl; clear hfl
      have hn1 := cntK_le (q.map (·.1)) 1
      have hn2' := cntK_le (q.map (·.1)) 2
      rw [List.length_map] at hn1 hn2'
      have hql : q.length < 20 := by rw [← List.length_map (f := (·.1)), HFL.out]; exact hn
      have hu1 : Hid (0 < cntK (q.map (·.1)) 1 → unionQ q = bas 1) := Lib.hid (fun h => by unfold unionQ; rw [if_pos h])
      have hu2 : Hid (¬ 0 < cntK (q.map (·.1)) 1 → 0 < cntK (q.map (·.1)) 2 → unionQ q = bas 2) := Lib.hid (fun h h2 => by unfold unionQ; rw [if_neg h, if_pos h2])
      have hu3 : Hid (¬ 0 < cntK (q.map (·.1)) 1 → ¬ 0 < cntK (q.map (·.1)) 2 → unionQ q = match compQ (sortQ (keepQ (q.map (·.1)) q)) with
        | [] => bas 3
        | [p] => p.1
        | l => .mk 16 0 [] (l.map (·.1)) [] []) := Lib.hid (fun h h2 => by unfold unionQ; rw [if_neg h, if_neg h2])
      generalize cntK (q.map (·.1)) 1 = n1 at hl1 hn1 hu1 hu2 hu3
      generalize cntK (q.map (·.1)) 2 = n2 at hl2 hn2' hu2 hu3
      go_wp2
      have hix0 : ∀ w : World, (Instr.index 143 (.agg #[.int .i64 1, .int .i64 2]) (.int .i64 0)).run Tryz.prog w = .ok (.int .i64 1) w := fun _ => by kernel_rfl
      have hix1 : ∀ w : World, (Instr.index 143 (.agg #[.int .i64 1, .int .i64 2]) (.int .i64 1)).run Tryz.prog w = .ok (.int .i64 2) w := fun _ => by kernel_rfl
      go_loopw [47] (fun s47 wr => wr = W ∧ ∃ j : Nat, s47 = .int .i64 (j : Int) ∧ j ≤ 2 ∧ (1 ≤ j → n1 = 0) ∧ (2 ≤ j → n2 = 0)) (fun s47 _ => 2 - (intOf s47).toNat)
      case atStart => exact ⟨rfl, 0, rfl, by omega, by omega, by omega⟩
      case round =>
        obtain ⟨rfl, j, rfl, hj, hj1, hj2⟩ := hrel
        rcases (show j = 0 ∨ j = 1 ∨ j = 2 by omega) with rfl | rfl | rfl
        · have hnot : True := trivial
          by_cases hc : 0 < n1
          · have hd : decide ((0 : Int) < (n1 : Int)) = true := decide_eq_true (by omega)
            have HB := Lib.hid (basic_any 1 wr (fun i => N i ∨ i ∈ Ds) (fun i hi => hi.elim (fun h => Nat.lt_of_lt_of_le (HLT.out i h) HU.out.up.size) (HU.out.lts.2.2.2.2.2.2 i)))
            go_wp2_with (go_at_call 31; refine Calls.mono HB.out ?_; rintro e wa ⟨rfl, hTa, hOa⟩)
            refine retMarks (Ds := Ds) rfl (HU.out.mks.up (B := B) hOa.up (fun _ _ f => f)) (fun w => results_tmp rfl _ _ _) ?_
            intro w' hF'
            refine UnPost.fin HFL.out ?_ (HU.out.up.old hOa) HU.out.lo.2.1 hF'
            have eu : unionQ q = bas 1 := hu1.out hc
            rw [eu]; exact hTa
          · have hd : decide ((0 : Int) < (n1 : Int)) = false := decide_eq_false (by omega)
            go_wp2
            go_roundw
            case rel => exact ⟨(by first | trivial | rfl), 1, by go_num, by omega, by omega, by omega⟩
            case measure => simp [intOf]
        · have hz : n1 = 0 := hj1 (by omega)
          by_cases hc : 0 < n2
          · have hd : decide ((0 : Int) < (n2 : Int)) = true := decide_eq_true (by omega)
            have HB := Lib.hid (basic_any 2 wr (fun i => N i ∨ i ∈ Ds) (fun i hi => hi.elim (fun h => Nat.lt_of_lt_of_le (HLT.out i h) HU.out.up.size) (HU.out.lts.2.2.2.2.2.2 i)))
            go_wp2_with (go_at_call 31; refine Calls.mono HB.out ?_; rintro e wa ⟨rfl, hTa, hOa⟩)
            refine retMarks (Ds := Ds) rfl (HU.out.mks.up (B := B) hOa.up (fun _ _ f => f)) (fun w => results_tmp rfl _ _ _) ?_
            intro w' hF'
            refine UnPost.fin HFL.out ?_ (HU.out.up.old hOa) HU.out.lo.2.1 hF'
            have eu : unionQ q = bas 2 := hu2.out (by omega) hc
            rw [eu]; exact hTa
          · have hd : decide ((0 : Int) < (n2 : Int)) = false := decide_eq_false (by omega)
            go_wp2
            go_roundw
            case rel => exact ⟨(by first | trivial | rfl), 2, by go_num, by omega, by omega, by omega⟩
            case measure => simp [intOf]
        · have hz1 : n1 = 0 := hj1 (by omega)
          have hz2 : n2 = 0 := hj2 (by omega)
          have hu := hu3.out (by omega) (by omega)
          have hqne : 0 < q.length := by
            rcases Nat.eq_zero_or_pos q.length with h | h
            · exact absurd (by rw [← HFL.out, List.length_eq_zero_iff.1 h]; rfl) HNE.out
            · exact h
          obtain ⟨g, cap, cur, rfl, hgb, hgc, hcap1, hcap2, hcap3, hcap4⟩ : ∃ g cap cur, v1 = .slice (some ⟨g, 0, none⟩) q.length cap ∧ w.heap.size ≤ g ∧ wr.heap[g]? = some (.cells cur 74 (0, 0)) ∧ q.length ≤ cap ∧ cap ≤ 9223372036854775807 ∧ cur.size = cap ∧ cur.toList.take q.length = q.map fun p => ptr p.2 := by
            rcases HU.out.row.2 with ⟨_, h⟩ | ⟨g, cap, cur, h1, h2, h3, h4, h5, h6, h7⟩
            · omega
            · exact ⟨g, cap, cur, h1, h2, h3, h4, h5, by simpa using h6, by simpa using h7⟩
          have hrw : Rw wr g cap q cur.toList := ⟨by simpa using hgc, by simpa using hcap3, hcap4⟩
          obtain ⟨kv1', hm1', hk1'⟩ := HU.out.h1
          obtain ⟨kv2', hm2', hk2'⟩ := HU.out.h2
          have hCap : CapOk wr C1 C2 (q.map (·.1)) m1 m2 kv1' kv2' := ⟨HU.out.c1, HU.out.c2, hm1', hm2', hk1', hk2'⟩
          have hgC : g ≠ C1 ∧ g ≠ C2 ∧ g ≠ m1 ∧ g ≠ m2 := by
            obtain ⟨es1, ec1, hx1, _⟩ := hm1'
            obtain ⟨es2, ec2, hx2, _⟩ := hm2'
            refine ⟨fun e => ?_, fun e => ?_, fun e => ?_, fun e => ?_⟩
            · rw [e, HU.out.c1] at hgc; cases hgc
            · rw [e, HU.out.c2] at hgc; cases hgc
            · rw [e, hx1] at hgc; cases hgc
            · rw [e, hx2] at hgc; cases hgc
          have hgD : g ∉ Ds := fun h => by rw [HU.out.mks.2 g h] at hgc; cases hgc
          have hFA : ∀ p ∈ q, Fine p.1 ∧ Ask p.1 := fun p hp => HF.out p.1 (by rw [← HFL.out]; exact List.mem_map_of_mem hp)
          have HD := Lib.hid (delete_goes (B := B) wr (NW N w) g q.length cap q cur.toList C1 C2 m1 m2 (q.map (·.1)) kv1' kv2' (fun i hi => Or.inl (HL.out i hi)) hrw rfl (Or.inr hgb) HU.out.tq (fun p hp => (hFA p hp).2) hCap hgC (by omega) hcap1 hcap2)
          have hkl : (keepQ (q.map (·.1)) q).length ≤ q.length := List.length_filter_le _ _
          have cC3 := cellOf HU.out.c3 0 _ rfl
          have HS : Hid (∀ w1 cur1, Rw w1 g cap (keepQ (q.map (·.1)) q) cur1 → Up B (· = g) wr w1 → Calls Tryz.prog 66 #[.slice (some ⟨g, 0, none⟩) (keepQ (q.map (·.1)) q).length cap, byV] w1 (SdPost B w1 g cap (keepQ (q.map (·.1)) q))) := Lib.hid (fun w1 cur1 hr1 hu1 =>
            sorted_any w1 (fun i => N i ∨ i = g) g cap _ _ cur1 (fun i hi => Or.inl (HL.out i hi)) (Or.inr rfl) hr1 (fun p hp => (HU.out.tq.up hu1 (fun i e => Or.inr (by rw [e]; exact hgb)) (fun i _ f => f.elim Or.inl (fun e => Or.inr (by rw [e]; exact hgb)))) p ((List.mem_filter.1 hp).1)) (fun p hp => (hFA p ((List.mem_filter.1 hp).1)).1)
              (fun i hi => hi.elim (fun h => Nat.lt_of_lt_of_le (HLT.out i h) (Nat.le_trans HU.out.up.size hu1.size)) (fun e => by rw [e]; exact ltOf hr1.at_)) rfl (by omega) hcap2)
          have HRW := Lib.hid hrw; clear hrw
          have HGC := Lib.hid hgC; clear hgC
          have HGD := Lib.hid hgD; clear hgD
          have HFA := Lib.hid hFA; clear hFA
          have HUU := Lib.hid hu; clear hu
          clear hCap hm1' hm2' hk1' hk2' hgc
          go_upto_region 22 with (first | (go_at_call 67; refine Calls.mono HD.out ?_; rintro e wa ⟨cur1, rfl, hr1, hu1⟩; have HR1 := Lib.hid hr1; clear hr1; have HU1 := Lib.hid hu1; clear hu1) | (go_at_call 66; refine Calls.mono (HS.out _ _ HR1.out HU1.out) ?_; rintro e wb ⟨rfl, ⟨cur2, hr2⟩, hu2⟩; have HR2 := Lib.hid hr2; clear hr2; have HU2 := Lib.hid hu2; clear hu2))
          have hU3 : Up B (· = g) wr wb := HU1.out.trans HU2.out (fun _ _ e => e)
          have hUw : Same B w wb := HU.out.up.trans hU3 (fun i hi e => by omega)
          have hMk : MarksOk wb Ds := HU.out.mks.up hU3 (fun D hD e => HGD.out (e ▸ hD))
          have hTQ : ∀ p ∈ compQ (sortQ (keepQ (q.map (·.1)) q)), TY wb (fun i => N i ∨ i ∈ Ds) p.1 p.2 := fun p hp => (HU.out.tq.up hU3 (fun i e => Or.inr (by rw [e]; exact hgb)) (fun i hi f => f.elim Or.inl (fun h => Or.inr (HU.out.lo.2.1 i h)))) p (keep_mem hp)
          have hN3 : ∀ i, (N i ∨ i ∈ Ds) → i < wb.heap.size := fun i hi => hi.elim (fun h => Nat.lt_of_lt_of_le (HLT.out i h) hUw.size) (fun h => ltOf (hMk.2 i h))
          have hge : ¬ (N g ∨ g ∈ Ds) := fun h => h.elim (fun h => by (have := HLT.out g h; omega)) HGD.out
          have hle := HR2.out.le
          have hlq : (compQ (sortQ (keepQ (q.map (·.1)) q))).length < 20 := by
            have h1 := comp_len (sortQ (keepQ (q.map (·.1)) q)) none
            have h2 := (sortQ_perm (keepQ (q.map (·.1)) q)).length_eq
            unfold compQ
            omega
          have HUW := Lib.hid hUw; clear hUw hU3
          have HMK := Lib.hid hMk; clear hMk
          have HTQ := Lib.hid hTQ; clear hTQ
          have HN3 := Lib.hid hN3; clear hN3
          have HGE := Lib.hid hge; clear hge
          generalize compQ (sortQ (keepQ (q.map (·.1)) q)) = l at *
          rcases l with _ | ⟨p0, _ | ⟨p1, r⟩⟩
          · have eu : Hid (unionQ q = bas 3) := Lib.hid HUU.out
            have HB := Lib.hid (basic_any 3 wb (fun i => N i ∨ i ∈ Ds) HN3.out)
            clear HUU
            simp only [List.length_nil] at *
            go_wp2_with (go_at_call 31; refine Calls.mono HB.out ?_; rintro e wd ⟨rfl, hTa, hOa⟩)
            refine retMarks (Ds := Ds) rfl (HMK.out.up (B := B) hOa.up (fun _ _ f => f)) (fun w => results_tmp rfl _ _ _) ?_
            intro w' hF'
            refine UnPost.fin HFL.out ?_ (HUW.out.old hOa) HU.out.lo.2.1 hF'
            rw [eu.out]; exact hTa
          · have eu : Hid (unionQ q = p0.1) := Lib.hid HUU.out
            clear HUU
            have hc0 : wb.cell? ⟨g, 0, none⟩ = some (ptr p0.2) := HR2.out.cell 0 (by simp)
            simp only [List.length_cons, List.length_nil, Nat.zero_add] at *
            go_wp2
            refine retMarks (Ds := Ds) rfl HMK.out (fun w => results_tmp rfl _ _ _) ?_
            intro w' hF'
            refine UnPost.fin HFL.out ?_ HUW.out HU.out.lo.2.1 hF'
            rw [eu.out]; exact HTQ.out p0 (by simp)
          · have eu : Hid (unionQ q = .mk 16 0 [] ((p0 :: p1 :: r).map (·.1)) [] []) := Lib.hid HUU.out
            clear HUU
            generalize hl : p0 :: p1 :: r = l at *
            have hl2 : 2 ≤ l.length := by rw [← hl]; simp
            clear hl
            have e0 : ((l.length : Int) == 0) = false := beq_eq_false_iff_ne.2 (by omega)
            have e1 : ((l.length : Int) == 1) = false := beq_eq_false_iff_ne.2 (by omega)
            have HC := Lib.hid (clip_any wb g cap l.length hle)
            have HM := Lib.hid (made_any wb (fun i => N i ∨ i ∈ Ds) 16 0 [] (l.map (·.1)) [] [] (.slice (some ⟨g, 0, none⟩) l.length l.length) (.slice none 0 0) (.slice none 0 0) (l.map (·.2)) 0
              ⟨by simp, Or.inr ⟨g, l.length, cur2.toArray, by simp, HR2.out.at_, HGE.out, by simp, by rw [List.length_map, List.toList_toArray, HR2.out.pre]; simp [Function.comp_def]⟩⟩ ⟨rfl, Or.inl ⟨rfl, _, _, rfl⟩⟩ ⟨rfl, Or.inl ⟨rfl, _, _, rfl⟩⟩ (TQ.tys HTQ.out) HN3.out (by rw [List.length_map]; omega))
            generalize hll : l.length = ln at e0 e1 HC HM
            go_wp2_with (first | (go_at_call 70; refine Calls.mono HC.out ?_; rintro e wd ⟨rfl, rfl⟩) | (go_at_call 35; refine Calls.mono HM.out ?_; rintro e wd ⟨rfl, hTa, hOa⟩))
            refine retMarks (Ds := Ds) rfl (HMK.out.up (B := B) hOa.up (fun _ _ f => f)) (fun w => results_tmp rfl _ _ _) ?_
            intro w' hF'
            refine UnPost.fin HFL.out ?_ (HUW.out.old hOa) HU.out.lo.2.1 hF'
            rw [eu.out]; exact hTa
end Go.Proofs.YtmheonaddidbjaaGreatDoor
