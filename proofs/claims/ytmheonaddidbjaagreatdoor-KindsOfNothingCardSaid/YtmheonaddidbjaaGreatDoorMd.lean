/- made, basic. -/
import Derived.Test.YtmheonaddidbjaaGreatDoorTe
import Derived.RegionTactic
set_option linter.unusedVariables false
set_option linter.unusedSimpArgs false
namespace Go.Proofs.YtmheonaddidbjaaGreatDoor
open Go.RowKit

theorem TYs.len {w : World} {N : Nat → Prop} : ∀ {l : List Ty} {bs : List Nat}, TYs w N l bs → bs.length = l.length
  | [], _, h => by cases h; rfl
  | t :: r, bs, h => by obtain ⟨b, bs', rfl, _, h2⟩ := h; simp [TYs.len h2]
theorem TYs.get {w : World} {N : Nat → Prop} : ∀ {l : List Ty} {bs : List Nat}, TYs w N l bs → ∀ (i : Nat) (h : i < l.length), ∃ b, bs[i]? = some b ∧ TY w N l[i] b
  | t :: r, bs, h, 0, _ => by obtain ⟨b, bs', rfl, h1, h2⟩ := h; exact ⟨b, rfl, h1⟩
  | t :: r, bs, h, i + 1, hi => by
    obtain ⟨b, bs', rfl, h1, h2⟩ := h
    obtain ⟨b2, e, h3⟩ := TYs.get h2 i (by simpa using hi)
    exact ⟨b2, by simpa using e, by simpa using h3⟩
theorem tszs_le : ∀ (l : List Ty) (n : Nat), n ≤ 1099511627776 → tszs n l ≤ 1099511627776
  | [], n, h => by simpa [tszs] using h
  | t :: r, n, h => by rw [tszs]; exact tszs_le r _ (Nat.min_le_right _ _)
theorem tszs_snoc : ∀ (l : List Ty) (n : Nat) (t : Ty), tszs n (l ++ [t]) = min (tszs n l + tsz t) 1099511627776
  | [], n, t => by simp [tszs]
  | t' :: r, n, t => by simp only [List.cons_append, tszs]; exact tszs_snoc r _ t
theorem tsz_le (t : Ty) : tsz t ≤ 1099511627776 := by cases t; rw [tsz]; exact tszs_le _ _ (by decide)
theorem tszs_ge : ∀ (l : List Ty) (n : Nat), n ≤ 1099511627776 → n ≤ tszs n l
  | [], n, h => by simp [tszs]
  | t :: r, n, h => by
    rw [tszs]
    refine Nat.le_trans ?_ (tszs_ge r _ (Nat.min_le_right _ _))
    omega

theorem TY.size {w : World} {N : Nat → Prop} {t : Ty} {b : Nat} (h : TY w N t b) : w.cell? ⟨b, 6, none⟩ = some (.int .i64 (tsz t : Nat)) ∧ b < w.heap.size := by
  cases t with
  | mk k n nm ps ns ms =>
    obtain ⟨pv, nv, mv, said, bs, h1, _⟩ := h
    exact ⟨cellOf h1 6 _ rfl, ltOf h1⟩

abbrev typObj (k n : Int) (nm : Bs) (pv nv mv : Value) (sz : Nat) (said : ByteArray) : Obj := .cells #[.int .i64 k, .int .i64 n, strV nm, pv, nv, mv, .int .i64 (sz : Nat), .string said] 84 (0, 0)

theorem take_snoc {α : Type} (l : List α) (i : Nat) (h : i < l.length) : l.take (i + 1) = l.take i ++ [l[i]] := by
  rw [List.take_succ_eq_append_getElem h]

set_option maxRecDepth 100000 in
set_option maxHeartbeats 1000000 in
theorem made_any (w : World) (N : Nat → Prop) (k n : Int) (nm : Bs) (ps : List Ty) (ns : List Bs) (ms : List Bool) (pv nv mv : Value) (bs : List Nat) (sz : Int)
    (hp : Rd w N 74 pv ps.length (bs.map ptr)) (hn : Rd w N 9 nv ns.length (ns.map strV)) (hm : Rd w N 4 mv ms.length (ms.map .bool)) (hs : TYs w N ps bs) (hN : ∀ i, N i → i < w.heap.size) (hl : ps.length ≤ 9223372036854775807) :
    Calls Tryz.prog 35 #[.agg #[.int .i64 k, .int .i64 n, strV nm, pv, nv, mv, .int .i64 sz, .string ⟨#[]⟩]] w fun e w' => e = .returned (ptr w.heap.size) ∧ TY w' N (.mk k n nm ps ns ms) w.heap.size ∧ Old w w' := by
  obtain ⟨pa, pc, rfl⟩ := hp.slice
  obtain ⟨na, nc, rfl⟩ := hn.slice
  obtain ⟨ma, mc, rfl⟩ := hm.slice
  have HP := Lib.hid hp; clear hp
  have HS := Lib.hid hs; clear hs
  go_enter Tryz.func35, Tryz.ntmps35
  go_wp2
  go_loopw [9] (fun s9 wr => ∃ i : Nat, s9 = .int .i64 (i : Int) ∧ i ≤ ps.length ∧ wr.heap[w.heap.size]? = some (typObj k n nm (.slice pa ps.length pc) (.slice na ns.length nc) (.slice ma ms.length mc) (tszs 1 (ps.take i)) ⟨#[]⟩) ∧ Old w wr) (fun s9 _ => ps.length - (intOf s9).toNat)
  case atStart => exact ⟨0, rfl, Nat.zero_le _, heapNew w _, (Fr.refl _ _).alloc _⟩
  case round =>
    obtain ⟨i, rfl, hi, hB, hO⟩ := hrel
    rcases Nat.lt_or_ge i ps.length with hlt | hge
    · obtain ⟨g, cap, x, e1, e2, hx, _, hgl⟩ := (HP.out.same (B := 0) hO.up (by decide)).cell i hlt
      obtain ⟨b, e3, hT⟩ := (HS.out.same (B := 0) hO.up).get i hlt
      cases e1
      rw [List.getElem?_map, e3] at e2
      cases e2
      obtain ⟨hsz, hbl⟩ := hT.size
      have hbw : b < w.heap.size := by
        obtain ⟨b', e4, hT'⟩ := HS.out.get i hlt
        rw [e3] at e4; cases e4
        exact hT'.size.2
      have c6 := cellOf hB 6 _ rfl
      have f6 := freeOf hB 6
      have t1 := tszs_le (ps.take i) 1 (by decide)
      have t2 := tsz_le ps[i]
      have hne : ¬ b = w.heap.size := by omega
      have hne2 : ¬ w.heap.size = b := by omega
      have i0 : (0 : Int) ≤ (i : Int) := by omega
      have i1 : (i : Int) < (ps.length : Int) := by omega
      have HB := Lib.hid hB; clear hB
      go_wp2
      go_region
      all_goals (
        have hv : (if (1099511627776 : Int) < (tszs 1 (ps.take i) : Int) + (tsz ps[i] : Int) then 1099511627776 else (tszs 1 (ps.take i) : Int) + (tsz ps[i] : Int)) = ((tszs 1 (ps.take (i + 1)) : Nat) : Int) := by
          rw [take_snoc ps i hlt, tszs_snoc]
          split <;> omega
        rw [hv]
        clear hv)
      all_goals go_wp2
      all_goals exact ⟨⟨i + 1, by push_cast; rfl, by omega, heapDrew (by simpa using setOf HB.out 6 (.int .i64 ((tszs 1 (ps.take (i + 1)) : Nat) : Int))), (hO.setCell (Or.inl (Nat.le_refl _)) _).drew⟩, by simp [intOf]; omega⟩
    · have e : i = ps.length := by omega
      subst e
      rw [List.take_length] at hB
      go_wp2
      go_ret
      refine ⟨rfl, ?_, hO⟩
      have hU := hO.up (B := 0)
      exact ⟨_, _, _, _, bs, hB, fun f => by have := hN _ f; omega, Or.inl rfl, HP.out.same hU (by decide), hn.same hU (by decide), hm.same hU (by decide), HS.out.same hU⟩

theorem basic_any (k : Int) (w : World) (N : Nat → Prop) (hN : ∀ i, N i → i < w.heap.size) :
    Calls Tryz.prog 31 #[.int .i64 k] w fun e w' => e = .returned (ptr w.heap.size) ∧ TY w' N (bas k) w.heap.size ∧ Old w w' := by
  have nil : ∀ E, Rd w N E (.slice none 0 0) 0 [] := fun E => ⟨rfl, Or.inl ⟨rfl, _, _, rfl⟩⟩
  have HM := Lib.hid (made_any w N k 0 [] [] [] [] (.slice none 0 0) (.slice none 0 0) (.slice none 0 0) [] 0 (nil _) (nil _) (nil _) rfl hN (by decide))
  clear nil
  go_enter Tryz.func31, Tryz.ntmps31
  go_wp2_with (go_at_call 35; refine Calls.mono HM.out ?_; rintro e w1 ⟨rfl, hT, hO⟩)
  go_ret
  exact ⟨rfl, hT, hO⟩
end Go.Proofs.YtmheonaddidbjaaGreatDoor
