/- spelled: of a union. -/
import Derived.Test.YtmheonaddidbjaaGreatDoorAu
import Derived.Test.YtmheonaddidbjaaGreatDoorSf
set_option linter.unusedVariables false
set_option linter.unusedSimpArgs false
namespace Go.Proofs.YtmheonaddidbjaaGreatDoor
open Go.RowKit

variable {B : Nat}

theorem infoS : (Tryz.prog.info? 9).map (fun i => (i.zero, i.size, i.bytes)) = some (some (.string ⟨#[]⟩), 1, 16) := by kernel_rfl

theorem join_eq (sep : Bs) : ∀ l : List Bs, Lib.join l sep = joinB sep l
  | [] => rfl
  | [a] => Lib.join_one a sep
  | a :: b :: r => by
    have h := join_eq sep (b :: r)
    simp only [Lib.join, List.intercalate, List.intersperse_cons_cons, List.flatten_cons] at h ⊢
    rw [h]
    simp [joinB]

set_option maxRecDepth 100000 in
set_option maxHeartbeats 1000000 in
theorem spelled_union (t : Ty) (hk : t.kind = 16) (hp : ∀ p ∈ t.parts, Fine p) (hn : t.parts.length ≤ 1099511627776) (hj : (tx t).length ≤ 140737488355328) : SpelledOk t := by
  intro B w N b hlow hT
  have hbB : B ≤ b := by
    rcases Nat.lt_or_ge b B with h1 | h1
    · exact absurd (hlow b h1) hT.not_in
    · exact h1
  have hkc := hT.kind_
  obtain ⟨said, -, -, hbw, -⟩ := hT.said
  have hT' : TY w (fun i => N i ∧ i < w.heap.size) t b := TY.weaken (fun i _ f => f.1) _ _ hT
  have hlow' : ∀ i, i < B → N i ∧ i < w.heap.size := fun i hi => ⟨hlow i hi, by omega⟩
  obtain ⟨pv, pbs, hc3, hrd, htys⟩ := hT'.parts_
  obtain ⟨pa, pc, rfl⟩ := hrd.slice
  have htx : tx t = joinB [32, 124, 32] (t.parts.map (rndT [15])) := by
    cases t with
    | mk k n nm ps ns ms =>
      have hk' : k = 16 := hk
      subst hk'
      simp [tx, body, kts_map, Ty.parts, Function.comp_def]
      rfl
  rw [hk] at hkc
  have HLOW := Lib.hid hlow'; clear hlow' hlow hT hT'
  have HR := Lib.hid hrd; clear hrd
  have HT := Lib.hid htys; clear htys
  have HP := Lib.hid hp; clear hp
  have HTX := Lib.hid htx; clear htx
  have HK := Lib.hid hk; clear hk
  have hlp : pbs.length = t.parts.length := by simpa using HR.out.1
  generalize t.parts = ps at *
  generalize hpn : ps.length = n at *
  go_enter Tryz.func71, Tryz.ntmps71
  go_wp2
  go_loopw [11, 141] (fun s11 s141 wr => ∃ j : Nat, s141 = .int .i64 (j : Int) ∧ j ≤ n ∧ Same B w wr ∧ wr.ownsRow w.heap.size 9 1 s11 j ((ps.take j).map fun p => strV (rndT [15] p))) (fun _ s141 _ => n - (intOf s141).toNat)
  case atStart => exact ⟨0, rfl, Nat.zero_le _, Up.refl _ _, ⟨rfl, Or.inl ⟨rfl, rfl⟩⟩⟩
  case round =>
    obtain ⟨j, rfl, hj', hS, hrow⟩ := hrel
    have HS := Lib.hid hS; clear hS
    have HROW := Lib.hid hrow; clear hrow
    rcases Nat.lt_or_ge j n with hlt | hge
    · obtain ⟨g, cap, x, e1, e2, hx, _, hgl⟩ := (HR.out.same HS.out (by decide)).cell j hlt
      cases e1
      have hjl : j < ps.length := by omega
      obtain ⟨pb, e3, hTj⟩ := (HT.out.same HS.out).get j hjl
      rw [List.getElem?_map, e3] at e2
      cases e2
      obtain ⟨hx1, hx2⟩ := HP.out _ (List.getElem_mem hjl)
      have hO : Old wr (wr.alloc (.cells #[.int .i64 15] 3)) := (Fr.refl _ _).alloc _
      have hsz := HS.out.size
      have HC := Lib.hid (round_any (B := B) (wr.alloc (.cells #[.int .i64 15] 3)) (fun i => N i ∧ i < w.heap.size) ps[j] pb (.slice (some ⟨wr.heap.size, 0, none⟩) 1 1) 1 [15] hx1 HLOW.out (hTj.same (B := B) hO.up) ⟨rfl, Or.inr ⟨_, _, _, rfl, heapNew wr _, fun f => by omega, Nat.le_refl _, rfl⟩⟩ (by decide) hx2)
      have hpk : Hid (((ps.take (j + 1)).map fun p => strV (rndT [15] p)) = ((ps.take j).map fun p => strV (rndT [15] p)) ++ [strV (rndT [15] ps[j])]) := Lib.hid (by rw [take_snoc _ j hjl, List.map_append]; rfl)
      have HO := Lib.hid hO; clear hO
      clear hTj e3 hx1 hx2
      have i0 : (0 : Int) ≤ (j : Int) := by omega
      have i1 : (j : Int) < (n : Int) := by omega
      generalize ps[j] = u at *
      obtain ⟨i0_, hi', hz0, hz1, hz2⟩ := info_parts infoS
      go_wp2_with (first | (go_at_call 69; refine Calls.mono HC.out ?_; rintro e w1 ⟨rfl, hS1⟩; have HS1 := Lib.hid hS1; clear hS1; have hrow1 := HO.out.up (B := B) |>.same HS1.out |>.row HROW.out (fun _ _ f => f) (by decide); have hsz1 := HS1.out.size; rw [World.size_alloc] at hsz1) | (at_builtin; refine wpList_append_own_at _ rfl (.tmp 145) (.tmp 149) 23 rfl w.heap.size 9 i0_ (.string ⟨#[]⟩) 1 16 Tryz.underlying23 hi' hz0 hz1 hz2 rfl (by decide) _ _ _ rfl (hrow1.alloc _) ⟨w1.heap.size, 0, none⟩ 1 1 [strV (rndT [15] u)] rfl rfl ?c1 ?c2 ?c3 ?c4 ?c5 ?_))
      case c1 => simpa using cell_one_new w1 (strV (rndT [15] u)) 9
      case c2 => intro u hu; simp at hu; subst hu; rfl
      case c3 => unfold maxLen; omega
      case c4 => omega
      case c5 => simp; omega
      intro v' w2 hown2 hg2 hnil hat
      have hO2 : Same B w w2 := by
        have h1 : Fr (fun i => w.heap.size ≤ i) w1 w2 := ((Fr.refl _ _).alloc _).grown hg2 (fun k hk => Or.inr (hrow1.lt k hk).1)
        exact ((HS.out.old HO.out).same HS1.out).trans h1.up (fun i hi f => by omega)
      have HO2 := Lib.hid hO2; clear hO2
      have HOWN2 := Lib.hid hown2; clear hown2 hg2 hnil hat hrow1
      go_wp2
      go_roundw
      case rel => exact ⟨j + 1, by go_num, by omega, HO2.out, by rw [hpk.out, List.map_take]; exact HOWN2.out⟩
      case measure => simp [intOf]; omega
    · have hje : j = n := by omega
      subst hje
      have hkeys : ((ps.take j).map fun p => strV (rndT [15] p)) = (ps.map (rndT [15])).map strV := by
        rw [List.take_of_length_le (by omega), List.map_map]; rfl
      have hrow := HROW.out
      rw [hkeys] at hrow
      rcases hrow.2 with ⟨rfl, h0⟩ | ⟨g, cap, cur, rfl, hg0, hg, hcap, -, -, hpre⟩
      · have hps : ps = [] := List.length_eq_zero_iff.1 (by omega)
        have hres : Hid (tx t = []) := Lib.hid (by rw [HTX.out, hps]; rfl)
        subst h0
        have HJ := Lib.hid (Tryz.strings_Join_none none 0 ⟨#[32, 124, 32]⟩ wr)
        clear hrow hkeys
        go_wp2_with (go_at_call 105; refine Calls.mono HJ.out ?_; rintro e w1 ⟨rfl, rfl⟩)
        go_ret
        exact ⟨by rw [hres.out]; rfl, HS.out⟩
      · have hxs : Hid ((((ps.map (rndT [15])).map S).map (·.data.toList)) = ps.map (rndT [15])) := Lib.hid (by simp [Function.comp_def, S])
        have hl2 : ((ps.map (rndT [15])).map S).length = j := by simp [hpn]
        have hJ := Tryz.strings_Join g 0 cap ((ps.map (rndT [15])).map S) ⟨#[32, 124, 32]⟩ wr (fun i x hx => by
          refine cellOf hg (0 + i) _ ?_
          have hij : i < j := by
            have := (List.getElem?_eq_some_iff.1 hx).1
            omega
          have h1 : (cur.toList.take (j * 1))[i]? = some (Value.string x) := by
            rw [hpre, List.getElem?_map]
            rw [List.getElem?_map] at hx
            cases hq : (ps.map (rndT [15]))[i]? with
            | none => rw [hq] at hx; cases hx
            | some y => rw [hq] at hx; cases hx; rfl
          rw [List.getElem?_take] at h1
          rw [Nat.zero_add]
          simpa [hij] using h1) (ltOf hg) (by omega) (by omega) (by rw [hxs.out, join_eq]; rw [← HTX.out]; exact hj)
        rw [hl2, hxs.out, join_eq] at hJ
        have HJ := Lib.hid hJ; clear hJ hrow hkeys hl2 hpre
        go_wp2_with (go_at_call 105; refine Calls.mono HJ.out ?_; rintro e w1 ⟨rfl, hb⟩)
        go_ret
        refine ⟨by rw [HTX.out]; rfl, HS.out.old ⟨hb.os, hb.tape, hb.output, hb.size, fun k hk _ => hb.block k hk⟩⟩
end Go.Proofs.YtmheonaddidbjaaGreatDoor
