/- text.Runes: the runes of a text, gone through. -/
import Derived.Test.YtlimgecmolhdhaaGreatDoorDd
import Derived.Test.YtlimgecmolhdhaaGreatDoorIt
import Derived.OwnWalkIn
import Derived.TacticsInMore
import Derived.LoopNIn
import Derived.LoopIn
import Derived.Lib.ConvBytes
import Derived.Laws.IdiomStrings
import Derived.Lib.Strings
set_option linter.unusedVariables false
set_option linter.unusedSimpArgs false
namespace Go.Proofs.YtlimgecmolhdhaaGreatDoor
open Go.RowKit

theorem contP_bd : ∀ (L : List UInt8) (d v : Nat), contP L d = some v → v < (d + 1) * 64 ^ L.length
  | [], d, v, h => by simp [contP] at h; simp; omega
  | c :: L, d, v, h => by
    simp only [contP] at h
    split at h
    · have := contP_bd L _ v h
      rw [List.length_cons, Nat.pow_succ, Nat.mul_comm (64 ^ L.length) 64, ← Nat.mul_assoc]
      exact Nat.lt_of_lt_of_le this (Nat.mul_le_mul_right _ (by omega))
    · cases h

theorem decP_size : ∀ (l : List UInt8), l ≠ [] → 1 ≤ (decP l).2.1 ∧ (decP l).2.1 ≤ l.length ∧ (decP l).2.1 ≤ 4 ∧ (decP l).1 < 2147483648
  | [], h => absurd rfl h
  | c :: r, _ => by
    obtain ⟨n, d, hw⟩ : ∃ n d, wideP c.toNat = (n, d) := ⟨_, _, rfl⟩
    have hc := c.toNat_lt
    rw [decP_cons c r n d hw]
    split
    · simp
    · rename_i h
      have h1 : n ≠ 0 ∧ n ≤ r.length + 1 := by omega
      unfold restP
      split
      · simp
      · rename_i v hv
        split
        · rename_i hf
          by_cases h2 : 2 ≤ n
          · obtain ⟨a, b⟩ := wideP_bd _ n d hc hw h2
            refine ⟨by dsimp only; omega, by simp; omega, by dsimp only; omega, ?_⟩
            have hb := contP_bd _ _ _ hv
            have hl : (r.take (n - 1)).length ≤ 3 := by rw [List.length_take]; omega
            have h64 : 64 ^ (r.take (n - 1)).length ≤ 64 ^ 3 := Nat.pow_le_pow_right (by omega) hl
            have : v < 32 * 64 ^ 3 := Nat.lt_of_lt_of_le hb (Nat.mul_le_mul (by omega) h64)
            dsimp only
            omega
          · have h3 : n = 1 := by omega
            subst h3
            simp [contP] at hv
            subst hv
            have hd : d < 256 := by
              unfold wideP at hw
              split at hw
              · simp only [Prod.mk.injEq] at hw; omega
              · split at hw
                · simp only [Prod.mk.injEq] at hw; omega
                · split at hw
                  · simp only [Prod.mk.injEq] at hw; omega
                  · split at hw
                    · simp only [Prod.mk.injEq] at hw; omega
                    · simp only [Prod.mk.injEq] at hw; omega
            refine ⟨by simp, by simp, by simp, ?_⟩
            dsimp only
            omega
        · simp

/-- The runes from a place on: where it begins; which; how many bytes; whether it is one. -/
def rowsP (at_ : Nat) (l : List UInt8) : List (Nat × Nat × Nat × Bool) :=
  if h : l = [] then [] else (at_, decP l) :: rowsP (at_ + (decP l).2.1) (l.drop (decP l).2.1)
termination_by l.length
decreasing_by
  have := decP_size l h
  simp only [List.length_drop]
  omega

theorem decP_take (l : List UInt8) : decP (l.take 4) = decP l := by
  cases l with
  | nil => rfl
  | cons c r =>
    obtain ⟨n, d, hw⟩ : ∃ n d, wideP c.toNat = (n, d) := ⟨_, _, rfl⟩
    have hc := c.toNat_lt
    have hn : n ≤ 4 := by
      by_cases h2 : 2 ≤ n
      · exact (wideP_bd _ n d hc hw h2).1
      · omega
    rw [List.take_succ_cons, decP_cons c _ n d hw, decP_cons c r n d hw]
    have e1 : ((r.take 3).length + 1 < n) ↔ (r.length + 1 < n) := by rw [List.length_take]; omega
    have e2 : (r.take 3).take (n - 1) = r.take (n - 1) := by rw [List.take_take]; congr 1; omega
    rw [e2]
    simp only [e1]

theorem rowsP_cons (at_ : Nat) (l : List UInt8) (h : l ≠ []) : rowsP at_ l = (at_, decP l) :: rowsP (at_ + (decP l).2.1) (l.drop (decP l).2.1) := by
  rw [rowsP, dif_neg h]
theorem rowsP_nil (at_ : Nat) : rowsP at_ [] = [] := by
  rw [rowsP, dif_pos rfl]

def runesV (l : List UInt8) : List (Array Value) := (rowsP 0 l).map fun r => #[.int .i64 r.1, .int .i32 r.2.1]

theorem Old.bytesWorld (w : World) (e : TypeId) (s : ByteArray) : Old w (Lib.bytesWorld w e s) :=
  ⟨by simp [Lib.bytesWorld, World.freeze]; rfl, by simp [Lib.bytesWorld, World.freeze], by simp [Lib.bytesWorld, World.freeze]; rfl, by rw [Lib.bytesWorld_size]; omega, fun k hk _ => Lib.bytesWorld_at_old w e s k hk⟩

theorem extract_list (s : ByteArray) (a b : Nat) : (s.extract a b).data.toList = (s.data.toList.drop a).take (b - a) := Lib.extract_data s a b

/-- What a conversion of a text's bytes lays. -/
theorem bytes_new (w : World) (s : ByteArray) : ∀ i (h : i < s.data.toList.length), (Lib.bytesWorld w 5 s).cell? ⟨w.heap.size, i, none⟩ = some (.int .u8 (s.data.toList[i]).toNat) := by
  intro i h
  have hi : i < s.size := by simpa using h
  rw [Lib.bytesWorld_cell w _ s i hi]
  simp [List.getD, hi]

theorem runes_any (w : World) (g cap : Nat) (l : List UInt8) (hb : ∀ i (h : i < l.length), w.cell? ⟨g, i, none⟩ = some (.int .u8 l[i].toNat)) :
    Calls Tryz.prog 46 #[.slice (some ⟨g, 0, none⟩) l.length cap] w fun e w' => e = .returned (.func (.func 63) #[] #[.pointer (some ⟨w.heap.size, 0, none⟩)]) ∧ w.alloc (.cells #[.string ⟨l.toArray⟩] 9) = w' := by
  have hmf : ∀ (fn : Fn) (first cap : Array Value) (w : World), (Instr.makeFunc fn first cap).run Tryz.prog w = .ok (.func fn first cap) w := fun _ _ _ _ => rfl
  have hcv := run_convert_bytes_back (P := Tryz.prog) w 70 9 5 ⟨g, 0, none⟩ cap l Tryz.underlying70 Tryz.underlying5 Tryz.underlying9 (fun j hj => by
    have e : (⟨g, 0, none⟩ : Addr).add j = ⟨g, j, none⟩ := by unfold Addr.add; split <;> simp_all
    rw [e]; exact hb j hj)
  clear hb
  go_enter Tryz.func46, Tryz.ntmps46
  go_wp2
  go_ret
  exact ⟨rfl, rfl⟩

/-- What the iterator needs to find in each round. -/
def RF (B : Nat) (s : ByteArray) (G : Nat → Prop) (wr : World) : Prop := wr.heap[B]? = some (.cells #[.string s] 9 (0, 0)) ∧ ¬ G B
theorem RF.step {B : Nat} {s : ByteArray} {G G' : Nat → Prop} {wr w' : World} (h : RF B s G wr) (hf : Fr G wr w') (hG : ∀ b, G' b → G b ∨ wr.heap.size ≤ b) : RF B s G' w' :=
  ⟨hf.at h.1 h.2, fun g => by rcases hG B g with h' | h'; exact h.2 h'; have := ltOf h.1; omega⟩

/-- k runes of l have been gone through; the next begins at p. -/
def Gone (l : List UInt8) (k p : Nat) : Prop := p ≤ l.length ∧ k ≤ (rowsP 0 l).length ∧ (rowsP 0 l).drop k = rowsP p (l.drop p)
theorem Gone.start (l : List UInt8) : Gone l 0 0 := ⟨Nat.zero_le _, Nat.zero_le _, rfl⟩
theorem Gone.at {l : List UInt8} {k p : Nat} (h : Gone l k p) (hp : p < l.length) : ∃ hk : k < (rowsP 0 l).length, (rowsP 0 l)[k] = (p, decP (l.drop p)) ∧ Gone l (k + 1) (p + (decP (l.drop p)).2.1) := by
  obtain ⟨h1, h2, h3⟩ := h
  have hne : l.drop p ≠ [] := by simp; omega
  rw [rowsP_cons _ _ hne] at h3
  have hk : k < (rowsP 0 l).length := by
    rcases Nat.lt_or_ge k (rowsP 0 l).length with h | h
    · exact h
    · rw [List.drop_of_length_le h] at h3; cases h3
  have hd := List.drop_eq_getElem_cons hk
  rw [h3] at hd
  simp only [List.cons.injEq] at hd
  have hs := decP_size _ hne
  rw [List.length_drop] at hs
  refine ⟨hk, hd.1.symm, by omega, hk, ?_⟩
  rw [← hd.2, List.drop_drop]
theorem Gone.end {l : List UInt8} {k p : Nat} (h : Gone l k p) (hp : ¬ p < l.length) : k = (rowsP 0 l).length := by
  obtain ⟨h1, h2, h3⟩ := h
  have : l.drop p = [] := List.drop_of_length_le (by omega)
  rw [this, rowsP_nil] at h3
  have := List.drop_eq_nil_iff.1 h3
  omega

theorem runesV_length (l : List UInt8) : (runesV l).length = (rowsP 0 l).length := by simp [runesV]
theorem runesV_get (l : List UInt8) (k : Nat) (h : k < (rowsP 0 l).length) (h' : k < (runesV l).length) : (runesV l)[k] = #[.int .i64 (rowsP 0 l)[k].1, .int .i32 (rowsP 0 l)[k].2.1] := by simp [runesV]

theorem decode_conv (wr : World) (s : ByteArray) (p q len : Nat) (hq : q = min s.size (p + 4)) (hp : p < s.size) (hlen : len = q - p) :
    Calls Tryz.prog 64 #[.slice (some ⟨wr.heap.size, 0, none⟩) len (grownCap wr len 0 5), .int .i64 0] (Lib.bytesWorld wr 5 (s.extract p q)) fun e w' => e = .returned (decV (decP (s.data.toList.drop p))) ∧ Lib.bytesWorld wr 5 (s.extract p q) = w' := by
  have hsl : s.data.toList.length = s.size := by rw [Array.length_toList]; rfl
  have e1 : (s.extract p q).data.toList = (s.data.toList.drop p).take 4 := by
    rw [extract_list, hq]
    rcases Nat.le_total s.size (p + 4) with h | h
    · rw [Nat.min_eq_left h, List.take_of_length_le (by rw [List.length_drop]; omega), List.take_of_length_le (by rw [List.length_drop]; omega)]
    · rw [Nat.min_eq_right h]; congr 1; omega
  have hl : ((s.data.toList.drop p).take 4).length = len := by
    rw [List.length_take, List.length_drop, hlen, hq]
    rcases Nat.le_total s.size (p + 4) with h | h
    · rw [Nat.min_eq_left h]; omega
    · rw [Nat.min_eq_right h]; omega
  have hne : (s.data.toList.drop p).take 4 ≠ [] := by
    intro h; rw [h] at hl; simp at hl; omega
  have := decode_any wr.heap.size (grownCap wr len 0 5) ((s.data.toList.drop p).take 4) (Lib.bytesWorld wr 5 (s.extract p q)) (fun i h => by
    have h2 := bytes_new wr (s.extract p q) i (by rw [e1]; exact h)
    rw [h2]
    simp only [e1]) hne (by rw [List.length_take]; omega) (by rw [hl]; exact grownCap_ge _ _ _ _)
  rw [hl, decP_take] at this
  exact this

set_option maxRecDepth 100000 in
set_option maxHeartbeats 2000000 in
/-- Runes of a text: its runes, in their order. -/
theorem runes_iter (w : World) (B : Nat) (s : ByteArray) (hs : s.size ≤ 140737488355328) (hB : w.heap[B]? = some (.cells #[.string s] 9 (0, 0))) :
    Iter Tryz.prog 63 #[.pointer (some ⟨B, 0, none⟩)] (runesV s.data.toList) (fun b => b = B) w := by
  intro n l J Jx W G hW hSG hlt hst hstx hY h0
  have hB1 := hW.at hB (by simp)
  have HRF : Hid (RF B s G W) := Lib.hid ⟨hB1, hSG B rfl⟩
  have HY := Lib.hid hY; clear hY
  have Hst := Lib.hid hst; clear hst
  have kc := fun (w : World) (s : ByteArray) => Lib.run_convert_string_bytes (P := Tryz.prog) w 9 70 5 s Tryz.underlying9 Tryz.underlying70 Tryz.underlying5
  clear hW hSG hlt hstx hB hB1
  refine callsIn_of_wp Tryz.func63 rfl trivial ?_ rfl
  simp only [Tryz.ntmps63, List.size_toArray, List.length_cons, List.length_nil, Nat.reduceAdd, Nat.reduceSub, Array.replicate_succ, Array.replicate_zero, List.push_toArray, List.append_toArray, List.nil_append, List.cons_append]
  gi_wp2
  gi_loopw [3] (fun t wr => ∃ (k p : Nat) (G : Nat → Prop), Hid (Gone s.data.toList k p) ∧ t = .int .i64 p ∧ J k G wr ∧ Hid (RF B s G wr) ∧ W.heap.size ≤ wr.heap.size) (fun t _ => s.size - (intOf t).toNat)
  case atStart => exact ⟨0, 0, G, Lib.hid (Gone.start _), rfl, h0, HRF, Nat.le_refl _⟩
  case round =>
    obtain ⟨k, p, G', hg, rfl, hJk, hP, hsz⟩ := hrel
    clear h0 HRF
    have hll : s.data.toList.length = s.size := by rw [Array.length_toList]; rfl
    have cB := cellOf hP.out.1 0 _ rfl
    by_cases hlt' : p < s.size
    · obtain ⟨hk, hrow, hg'⟩ := hg.out.at (by omega : p < s.data.toList.length)
      have hsz2 := (decP_size (s.data.toList.drop p) (by simp; omega))
      rw [List.length_drop, hll] at hsz2
      have hyk := HY.out k G' _ (by rw [runesV_length]; exact hk) (Hst.out k G' _ _ hJk ((Old.bytesWorld wr 5 (s.extract p (min s.size (p + 4)))).mono (fun _ _ f => f.elim)))
      rw [runesV_get _ k hk, hrow] at hyk
      have HK := Lib.hid hk; clear hk hrow
      have HG := Lib.hid hg'; clear hg'
      have hdc := decode_conv wr s p _ _ rfl hlt' rfl
      have hdc2 := decode_conv wr s p _ (min (p + 4) s.size - p) rfl hlt' (by rw [Nat.min_comm])
      generalize hdec : decP (s.data.toList.drop p) = dd at *
      have HD := Lib.hid hdec; clear hdec
      obtain ⟨r, m, ok⟩ := dd
      dsimp only at hsz2 hyk hdc HG
      unfold decV at hdc hdc2
      dsimp only at hdc hdc2
      obtain ⟨fn, tmps, assign, body, hy, hR⟩ := hyk
      by_cases h4 : s.size ≤ p + 4
      · rw [Nat.min_eq_left h4] at hdc hy hR
        have HDC := Lib.hid hdc; clear hdc hdc2
        gi_wp2
        refine ⟨trivial, fun h => by simp [Fence.wide] at h, ?_⟩
        ((with_reducible refine (callsIn_wide.2 HDC.out).mono ?_))
        rintro e w' ⟨rfl, rfl⟩
        gi_wp2
        refine ⟨fun h => by simp [Fence.wide] at h, (roundIn_any hR).mono ?_⟩
        rintro e W' (⟨rfl, G1, hJ1, hF1, hG1⟩ | ⟨rfl, G1, hJ1, hF1, hG1⟩)
        · clear hR hy cB
          have hbs := (Old.bytesWorld wr 5 (s.extract p s.size)).size
          gi_wp2
          go_roundw
          case rel => exact ⟨k + 1, p + m, G1, HG, by go_num, hJ1, Lib.hid (RF.step (RF.step hP.out ((Old.bytesWorld wr 5 (s.extract p s.size)).mono (fun _ _ f => f.elim)) (fun b hb => Or.inl hb)) hF1 hG1), by have := hF1.size; omega⟩
          case measure => simp [intOf]; omega
        · clear hR hy cB
          gi_wp2
          refine bodyPost_ret (results_none rfl _ _ _) rfl ?_
          exact ⟨⟨_, rfl⟩, .inr ⟨G1, hJ1⟩⟩
      · have h4' : p + 4 < s.size := by omega
        rw [show min s.size (p + 4) = p + 4 by omega] at hdc2 hy hR
        have HDC := Lib.hid hdc2; clear hdc hdc2
        gi_wp2
        refine ⟨trivial, fun h => by simp [Fence.wide] at h, ?_⟩
        ((with_reducible refine (callsIn_wide.2 HDC.out).mono ?_))
        rintro e w' ⟨rfl, rfl⟩
        gi_wp2
        refine ⟨fun h => by simp [Fence.wide] at h, (roundIn_any hR).mono ?_⟩
        rintro e W' (⟨rfl, G1, hJ1, hF1, hG1⟩ | ⟨rfl, G1, hJ1, hF1, hG1⟩)
        · clear hR hy cB
          have hbs := (Old.bytesWorld wr 5 (s.extract p (p + 4))).size
          gi_wp2
          go_roundw
          case rel => exact ⟨k + 1, p + m, G1, HG, by go_num, hJ1, Lib.hid (RF.step (RF.step hP.out ((Old.bytesWorld wr 5 (s.extract p (p + 4))).mono (fun _ _ f => f.elim)) (fun b hb => Or.inl hb)) hF1 hG1), by have := hF1.size; omega⟩
          case measure => simp [intOf]; omega
        · clear hR hy cB
          gi_wp2
          refine bodyPost_ret (results_none rfl _ _ _) rfl ?_
          exact ⟨⟨_, rfl⟩, .inr ⟨G1, hJ1⟩⟩
    · have hke := hg.out.end (by omega)
      have HKE := Lib.hid hke; clear hke
      clear hP
      gi_wp2
      refine bodyPost_end (results_none rfl _ _ _) rfl ?_
      exact ⟨⟨_, rfl⟩, .inl ⟨G', by rw [runesV_length, ← HKE.out]; exact hJk⟩⟩
end Go.Proofs.YtlimgecmolhdhaaGreatDoor
