/- The parts of a thing, gone through. -/
import Derived.Test.YtlimgecmolhdhaaGreatDoorIt
import Derived.Test.YtlimgecmolhdhaaGreatDoorHo
import Derived.Test.YtlimgecmolhdhaaGreatDoorHt
import Derived.OwnWalkIn
import Derived.TacticsInMore
import Derived.LoopNIn
import Derived.LoopIn
import Derived.Maps.OwnIn
set_option linter.unusedVariables false
set_option linter.unusedSimpArgs false
namespace Go.Proofs.YtlimgecmolhdhaaGreatDoor
open Go.RowKit
attribute [local go_sem] Oper.semAt_some

def partsObj (slots : List (ByteArray × AV)) : List (Array Value) :=
  slots.zipIdx.map fun p => #[.int .i64 p.2, .agg #[.string p.1.1, .bool true, .int .i64 p.1.2.k, .int .i64 p.1.2.n, .string p.1.2.s]]
theorem partsObj_length (slots : List (ByteArray × AV)) : (partsObj slots).length = slots.length := by simp [partsObj]
theorem partsObj_get (slots : List (ByteArray × AV)) (i : Nat) (h : i < slots.length) (h' : i < (partsObj slots).length) :
    (partsObj slots)[i] = #[.int .i64 i, .agg #[.string slots[i].1, .bool true, .int .i64 slots[i].2.k, .int .i64 slots[i].2.n, .string slots[i].2.s]] := by
  simp [partsObj]

/-- The members' map and keys, as they stand for these slots. -/
def kvsOf (slots : List (ByteArray × AV)) : List (ByteArray × Value) := slots.map fun p => (p.1, p.2.v)
def keysOf (slots : List (ByteArray × AV)) : List Value := slots.map fun p => .string p.1
theorem look_kvs : ∀ (slots : List (ByteArray × AV)), (slots.map Prod.fst).Nodup → ∀ i (h : i < slots.length), look slots[i].1 (kvsOf slots) = some slots[i].2.v
  | [], _, i, h => by simp at h
  | p :: r, hn, 0, h => by simp [kvsOf, look]
  | p :: r, hn, i + 1, h => by
    simp only [List.map_cons, List.nodup_cons] at hn
    have hi : i < r.length := by simpa using h
    have hne : p.1 ≠ r[i].1 := fun e => hn.1 (by rw [e]; exact List.mem_map.2 ⟨_, List.getElem_mem hi, rfl⟩)
    have := look_kvs r hn.2 i hi
    simp only [List.getElem_cons_succ]
    simp only [kvsOf, List.map_cons, look] at this ⊢
    rw [if_neg hne]; exact this

theorem run_lookup_at {kvs : List (ByteArray × Value)} {w : World} {bm : Nat} (h : MapIs strKey w bm kvs) (key : ByteArray) (x : AV) (hx : look key kvs = some x.v) :
    (Instr.lookup 91 (.map (some bm)) (.string key) false).run Tryz.prog w = .ok x.v w := by
  have := run_look keyS Tryz.underlying91 h key (zeroV w) false
  rw [hx] at this
  simpa using this

theorem parts_any (t : Value) (w : World) (ht : t.oneCell' = true) :
    Calls Tryz.prog 59 #[t] w fun e w' => e = .returned (.func (.func 74) #[] #[.pointer (some ⟨w.heap.size, 0, none⟩)]) ∧ w.alloc (.cells #[t] 79) = w' := by
  have hmf : ∀ (fn : Fn) (first cap : Array Value) (w : World), (Instr.makeFunc fn first cap).run Tryz.prog w = .ok (.func fn first cap) w := fun _ _ _ _ => rfl
  have hc : t.cells = #[t] := by cases t <;> simp_all [Value.oneCell', Value.cells]
  go_enter Tryz.func59, Tryz.ntmps59
  go_wp2
  go_ret
  exact ⟨rfl, rfl⟩

theorem cell_row {w : World} {e n : Nat} {v : Value} {xs : List Value} (h : w.ownsRow 0 e 1 v n xs) (i : Nat) (hi : i < n) :
    ∃ g c x, v = .slice (some ⟨g, 0, none⟩) n c ∧ xs[i]? = some x ∧ w.cell? ⟨g, i, none⟩ = some x ∧ g < w.heap.size := by
  rcases h.2 with ⟨_, h0⟩ | ⟨g, cap, cur, rfl, _, hg, hnc, _, hcs, ht⟩
  · omega
  · have hx : i < xs.length := by rw [h.1]; omega
    refine ⟨g, cap, xs[i], rfl, by simp, ?_, ltOf hg⟩
    have := h.cells (g := g) rfl i xs[i] (by simp)
    rw [show (⟨g, 0, none⟩ : Addr).add i = ⟨g, i, none⟩ from by unfold Addr.add; split <;> simp_all] at this
    exact this

/-- What the iterator needs to find in each round. -/
def PF (B6 mb bm : Nat) (what : Int) (pr ks : Value) (slots : List (ByteArray × AV)) (G : Nat → Prop) (wr : World) : Prop :=
  wr.heap[B6]? = some (.cells #[.pointer (some ⟨mb, 0, none⟩), .int .i64 what, pr] 96 (0, 0)) ∧ ¬ G B6 ∧
  wr.heap[mb]? = some (.cells #[.map (some bm), ks] 94 (0, 0)) ∧ ¬ G mb ∧ MapIs strKey wr bm (kvsOf slots) ∧ ¬ G bm ∧
  wr.ownsRow 0 9 1 ks slots.length (keysOf slots) ∧ ∀ g, ks.ownBlock = some g → ¬ G g

theorem PF.step {B6 mb bm : Nat} {what : Int} {pr ks : Value} {slots : List (ByteArray × AV)} {G G' : Nat → Prop} {wr w' : World} (h : PF B6 mb bm what pr ks slots G wr) (hf : Fr G wr w')
    (hG : ∀ b, G' b → G b ∨ wr.heap.size ≤ b) : PF B6 mb bm what pr ks slots G' w' := by
  obtain ⟨h1, n1, h2, n2, h3, n3, h4, n4⟩ := h
  have new : ∀ b, b < wr.heap.size → ¬ G b → ¬ G' b := fun b hb hn hg => by
    rcases hG b hg with h | h
    · exact hn h
    · omega
  exact ⟨hf.at h1 n1, new _ (ltOf h1) n1, hf.at h2 n2, new _ (ltOf h2) n2, h3.at hf n3, new _ h3.lt n3, hf.row h4 n4, fun g hg => new g (h4.lt g hg).2 (n4 g hg)⟩

set_option maxRecDepth 100000 in
set_option maxHeartbeats 2000000 in
/-- parts of an object: its members, in their order. -/
theorem parts_obj (w : World) (B mb bm : Nat) (what : Int) (pr ks : Value) (slots : List (ByteArray × AV)) (hn : (slots.map Prod.fst).Nodup) (hl : slots.length ≤ 1048576)
    (hB : w.heap[B]? = some (.cells #[.iface 96 (.agg #[.pointer (some ⟨mb, 0, none⟩), .int .i64 what, pr])] 79 (0, 0))) (hpr : pr.oneCell' = true)
    (hm : w.heap[mb]? = some (.cells #[.map (some bm), ks] 94 (0, 0))) (hM : MapIs strKey w bm (kvsOf slots)) (hk : w.ownsRow 0 9 1 ks slots.length (keysOf slots)) :
    Iter Tryz.prog 74 #[.pointer (some ⟨B, 0, none⟩)] (partsObj slots) (fun b => b = B ∨ b = mb ∨ b = bm ∨ ks.ownBlock = some b) w := by
  intro n l J Jx W G hW hSG hlt hst hstx hY h0
  have hB1 := hW.at hB (by simp)
  have hm1 := hW.at hm (by simp)
  have hM1 : MapIs strKey W bm (kvsOf slots) := hM.at hW (by simp)
  have hk1 : W.ownsRow 0 9 1 ks slots.length (keysOf slots) := hW.row hk (fun g hg => by simp [hg])
  have hBl := ltOf hB1
  have hml := ltOf hm1
  have cB := cellOf hB1 0 (.iface 96 (.agg #[.pointer (some ⟨mb, 0, none⟩), .int .i64 what, pr])) rfl
  have cm := cellOf hm1 1 ks rfl
  obtain ⟨a0, c0, rfl⟩ : ∃ a0 c0, ks = .slice a0 slots.length c0 := by
    rcases hk.2 with ⟨rfl, e⟩ | ⟨g, cap, _, rfl, _⟩
    · exact ⟨none, 0, by rw [e]⟩
    · exact ⟨_, _, rfl⟩
  have q1 := ta_obj_obj
  have q2 := ta_obj_arr
  have q3 := store_one (P := Tryz.prog) hpr
  have HB1 := Lib.hid hB1; clear hB1
  have Hm1 := Lib.hid hm1; clear hm1
  have HSG := Lib.hid hSG; clear hSG
  have HW := Lib.hid hW; clear hW
  have HY := Lib.hid hY; clear hY
  have Hlt := Lib.hid hlt; clear hlt
  have Hst := Lib.hid hst; clear hst
  have Hstx := Lib.hid hstx; clear hstx
  clear hpr hB hm hM hk
  refine callsIn_of_wp Tryz.func74 rfl trivial ?_ rfl
  simp only [Tryz.ntmps74, List.size_toArray, List.length_cons, List.length_nil, Nat.reduceAdd, Nat.reduceSub, Array.replicate_succ, Array.replicate_zero, List.push_toArray, List.append_toArray, List.nil_append, List.cons_append]
  gi_wp2
  have hsl : slots.length ≤ 9223372036854775807 := by omega
  have hPF : PF W.heap.size mb bm what pr (.slice a0 slots.length c0) slots G (W.alloc (.cells #[.pointer (some ⟨mb, 0, none⟩), .int .i64 what, pr] 96)) :=
    ⟨heapNew _ _, fun h => by have := Hlt.out 0 G W h0 _ h; omega, heapAlloc Hm1.out _, HSG.out _ (by simp), hM1.alloc _, HSG.out _ (by simp), hk1.alloc _, fun g hg => HSG.out _ (by simp [hg])⟩
  have hJ0 := Hst.out 0 G W _ h0 (((Fr.refl (fun _ => False) W).alloc (.cells #[.pointer (some ⟨mb, 0, none⟩), .int .i64 what, pr] 96)).mono (fun _ _ f => f.elim))
  gi_loopw [39] (fun t wr => ∃ (k : Nat) (G : Nat → Prop), k ≤ slots.length ∧ t = .int .i64 k ∧ J k G wr ∧ PF W.heap.size mb bm what pr (.slice a0 slots.length c0) slots G wr ∧ W.heap.size ≤ wr.heap.size) (fun t _ => slots.length - (intOf t).toNat)
  case atStart => exact ⟨0, G, Nat.zero_le _, rfl, hJ0, hPF, by simp⟩
  case round =>
    obtain ⟨k, G', hkl, rfl, hJk, hP, hsz⟩ := hrel
    clear hJ0 hPF h0 hM1 hk1 hBl hml cB cm
    by_cases hlt' : k < slots.length
    · have hP' := hP
      obtain ⟨p1, n1, p2, n2, p3, n3, p4, n4⟩ := hP'
      obtain ⟨g, c, x, hs, hx, hcell, hgl⟩ := cell_row p4 k hlt'
      have hx' : x = .string slots[k].1 := by simp [keysOf, hlt'] at hx; exact hx.symm
      subst hx'
      have e6 := cellOf p1 0 (.pointer (some ⟨mb, 0, none⟩)) rfl
      have em := cellOf p2 0 (.map (some bm)) rfl
      have hrun := run_lookup_at p3 slots[k].1 slots[k].2 (look_kvs slots hn k hlt')
      have hyk := HY.out k G' wr (by rw [partsObj_length]; exact hlt') hJk
      rw [partsObj_get slots k hlt'] at hyk
      obtain ⟨fn, tmps, assign, body, hy, hR⟩ := hyk
      simp only [Value.slice.injEq] at hs
      obtain ⟨rfl, _, rfl⟩ := hs
      have HP := Lib.hid hP
      clear hP p1 p2 p3 p4 n1 n2 n3 n4 hx
      generalize slots[k].1 = key at *
      generalize slots[k].2 = x at *
      obtain ⟨xk, xn, xs'⟩ := x
      gi_wp2
      refine ⟨fun h => by simp [Fence.wide] at h, (roundIn_any hR).mono ?_⟩
      rintro e W' (⟨rfl, G1, hJ1, hF1, hG1⟩ | ⟨rfl, G1, hJ1, hF1, hG1⟩)
      · clear hR hy hrun hcell e6 em
        gi_wp2
        go_roundw
        case rel => exact ⟨k + 1, G1, by omega, by go_num, hJ1, HP.out.step hF1 hG1, by have := hF1.size; omega⟩
        case measure => simp [intOf]; omega
      · clear hR hy hrun hcell e6 em
        gi_wp2
        refine bodyPost_ret (results_none rfl _ _ _) rfl ?_
        exact ⟨⟨_, rfl⟩, .inr ⟨G1, hJ1⟩⟩
    · have hke : k = slots.length := by omega
      subst hke
      clear hP
      gi_wp2
      refine bodyPost_end (results_none rfl _ _ _) rfl ?_
      exact ⟨⟨_, rfl⟩, .inl ⟨G', by rw [partsObj_length]; exact hJk⟩⟩
end Go.Proofs.YtlimgecmolhdhaaGreatDoor
