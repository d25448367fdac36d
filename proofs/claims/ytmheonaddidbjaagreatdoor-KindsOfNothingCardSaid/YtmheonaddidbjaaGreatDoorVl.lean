/- slices.Values of types; each. -/
import Derived.Test.YtmheonaddidbjaaGreatDoorIt
import Derived.Test.YtmheonaddidbjaaGreatDoorNw
import Derived.OwnWalkIn
import Derived.TacticsInMore
import Derived.LoopNIn
import Derived.LoopIn
set_option linter.unusedVariables false
set_option linter.unusedSimpArgs false
namespace Go.Proofs.YtmheonaddidbjaaGreatDoor
open Go.RowKit
attribute [local go_sem] Oper.semAt_some

theorem Rd.step {G G' : Nat → Prop} {wr w' : World} {E n : Nat} {v : Value} {xs : List Value} (h : Rd wr G E v n xs) (hf : Fr G wr w') (hG : ∀ b, G' b → G b ∨ wr.heap.size ≤ b) : Rd w' G' E v n xs := by
  refine ⟨h.1, h.2.imp id (fun ⟨g, cap, cur, e, hg, hN, hc, ht⟩ => ⟨g, cap, cur, e, hf.at hg hN, fun f => ?_, hc, ht⟩)⟩
  rcases hG g f with h1 | h1
  · exact hN h1
  · have := ltOf hg; omega

set_option maxRecDepth 100000 in
set_option maxHeartbeats 2000000 in
/-- slices.Values: what the slice has, in its order. -/
theorem values_iter (w : World) (N : Nat → Prop) (C : Nat) (v : Value) (n : Nat) (bs : List Nat) (hC : w.heap[C]? = some (.cells #[v] 55 (0, 0))) (hr : Rd w N 74 v n (bs.map ptr)) (hl : n ≤ 1099511627776) :
    Iter Tryz.prog 134 #[ptr C] (bs.map fun b => #[ptr b]) (fun b => b = C ∨ v.ownBlock = some b) w := by
  intro n' l J Jx W G hW hSG hlt hst hstx hY h0
  have hC1 := hW.at hC (by simp)
  have hrW : Rd W G 74 v n (bs.map ptr) := by
    refine ⟨hr.1, hr.2.imp id (fun ⟨g, cap, cur, e, hg, hN, hc, ht⟩ => ⟨g, cap, cur, e, hW.at hg (by rw [e]; simp [Value.ownBlock]), hSG g (Or.inr (by rw [e]; rfl)), hc, ht⟩)⟩
  have hbl : bs.length = n := by simpa using hr.1
  obtain ⟨a0, c0, rfl⟩ := hr.slice
  have cC := cellOf hC1 0 (.slice a0 n c0) rfl
  have HY := Lib.hid hY; clear hY
  clear hSG hW hst hstx hlt hr hC
  refine callsIn_of_wp Tryz.func134 rfl trivial ?_ rfl
  simp only [Tryz.ntmps134, List.size_toArray, List.length_cons, List.length_nil, Nat.reduceAdd, Nat.reduceSub, Array.replicate_succ, Array.replicate_zero, List.push_toArray, List.append_toArray, List.nil_append, List.cons_append]
  gi_wp2
  gi_loopw [7] (fun t wr => ∃ (k : Nat) (G : Nat → Prop), k ≤ n ∧ t = .int .i64 k ∧ J k G wr ∧ Rd wr G 74 (.slice a0 n c0) n (bs.map ptr)) (fun t _ => n - (intOf t).toNat)
  case atStart => exact ⟨0, G, Nat.zero_le _, rfl, h0, hrW⟩
  case round =>
    obtain ⟨k, G', hkl, rfl, hJk, hP⟩ := hrel
    clear h0 hrW cC hC1
    by_cases hlt' : k < n
    · obtain ⟨g, c, x, hs, hx, hcell, hN, hgl⟩ := hP.cell k hlt'
      have hb : k < bs.length := by omega
      have hx' : x = ptr bs[k] := by rw [List.getElem?_map, List.getElem?_eq_getElem hb] at hx; simpa using hx.symm
      subst hx'
      have hyk := HY.out k G' wr (by rw [List.length_map]; exact hb) hJk
      rw [List.getElem_map] at hyk
      obtain ⟨fn, tmps, assign, body, hy, hR⟩ := hyk
      simp only [Value.slice.injEq] at hs
      obtain ⟨rfl, _, rfl⟩ := hs
      have HP := Lib.hid hP
      clear hP hx
      generalize bs[k] = pb at *
      gi_wp2
      refine ⟨fun h => by simp [Fence.wide] at h, (roundIn_any hR).mono ?_⟩
      rintro e W' (⟨rfl, G1, hJ1, hF1, hG1⟩ | ⟨rfl, G1, hJ1, hF1, hG1⟩)
      · clear hR hy hcell
        gi_wp2
        go_roundw
        case rel => exact ⟨k + 1, G1, by omega, by go_num, hJ1, HP.out.step hF1 hG1⟩
        case measure => simp [intOf]; omega
      · clear hR hy hcell
        gi_wp2
        refine bodyPost_ret (results_none rfl _ _ _) rfl ?_
        exact ⟨⟨_, rfl⟩, .inr ⟨G1, hJ1⟩⟩
    · have hke : k = n := by omega
      subst hke
      clear hP
      gi_wp2
      refine bodyPost_end (results_none rfl _ _ _) rfl ?_
      exact ⟨⟨_, rfl⟩, .inl ⟨G', by rw [List.length_map, hbl]; exact hJk⟩⟩

abbrev seqV (C : Nat) : Value := .func (.func 134) #[] #[ptr C]

set_option maxHeartbeats 400000 in
theorem values_any (w : World) (a : Option Addr) (n c : Nat) :
    Calls Tryz.prog 95 #[.slice a n c] w fun e w' => e = .returned (seqV w.heap.size) ∧ w.alloc (.cells #[.slice a n c] 55) = w' := by
  have hmf : ∀ (fn : Fn) (first cap : Array Value) (w : World), (Instr.makeFunc fn first cap).run Tryz.prog w = .ok (.func fn first cap) w := fun _ _ _ _ => rfl
  go_enter Tryz.func95, Tryz.ntmps95
  go_wp2
  go_ret
  exact ⟨rfl, rfl⟩

/-- What each goes through. -/
def flatT (t : Ty) : List Ty := if t.kind = 16 then t.parts else [t]

/-- What each answers: an iterator over a slice that reads so. -/
def EachPost (w : World) (N : Nat → Prop) (t : Ty) (e : Ending) (w' : World) : Prop :=
  ∃ C v bs, e = .returned (seqV C) ∧ w'.heap[C]? = some (.cells #[v] 55 (0, 0)) ∧ w.heap.size ≤ C ∧ Rd w' N 74 v (flatT t).length (bs.map ptr) ∧ TYs w' N (flatT t) bs ∧ Old w w'

set_option maxHeartbeats 1000000 in
theorem each_any (w : World) (N : Nat → Prop) (t : Ty) (b : Nat) (hT : TY w N t b) (hN : ∀ i, N i → i < w.heap.size) :
    Calls Tryz.prog 64 #[ptr b] w (EachPost w N t) := by
  have hk := hT.kind_
  have HT := Lib.hid hT; clear hT
  by_cases h : t.kind = 16
  · obtain ⟨pv, pbs, hc3, hrd, htys⟩ := HT.out.parts_
    obtain ⟨pa, pc, rfl⟩ := hrd.slice
    have HR := Lib.hid hrd; clear hrd
    have HS := Lib.hid htys; clear htys
    have hf : flatT t = t.parts := by unfold flatT; rw [if_pos h]
    rw [h] at hk
    replace h := Lib.hid h
    have HF := Lib.hid hf; clear hf
    go_enter Tryz.func64, Tryz.ntmps64
    go_wp2_with (go_at_call 95; refine (values_any _ _ _ _).mono ?_; rintro e w1 ⟨rfl, rfl⟩)
    go_ret
    have hO : Old w (w.alloc (.cells #[.slice pa t.parts.length pc] 55)) := (Fr.refl _ _).alloc _
    exact ⟨_, _, pbs, rfl, heapNew w _, Nat.le_refl _, by rw [HF.out]; exact HR.out.same (B := 0) hO.up (by decide), by rw [HF.out]; exact HS.out.same (B := 0) hO.up, hO⟩
  · have e16 : (t.kind == 16) = false := beq_eq_false_iff_ne.2 h
    have hf : flatT t = [t] := by unfold flatT; rw [if_neg h]
    have HF := Lib.hid hf; clear hf h
    go_enter Tryz.func64, Tryz.ntmps64
    go_wp2_with (go_at_call 95; refine (values_any _ _ _ _).mono ?_; rintro e w1 ⟨rfl, rfl⟩)
    go_ret
    have hO : Old w ((w.alloc (.cells #[ptr b] 74)).alloc (.cells #[.slice (some ⟨w.heap.size, 0, none⟩) 1 1] 55)) := ((Fr.refl _ _).alloc _).alloc _
    refine ⟨_, _, [b], rfl, heapNew1 w _ _, by omega, ?_, ?_, hO⟩
    · rw [HF.out]
      exact ⟨rfl, Or.inr ⟨_, _, _, rfl, heapAlloc (heapNew w _) _, fun f => by (have := hN _ f; omega), Nat.le_refl _, rfl⟩⟩
    · rw [HF.out]
      exact ⟨b, [], rfl, HT.out.same (B := 0) hO.up, rfl⟩
end Go.Proofs.YtmheonaddidbjaaGreatDoor
