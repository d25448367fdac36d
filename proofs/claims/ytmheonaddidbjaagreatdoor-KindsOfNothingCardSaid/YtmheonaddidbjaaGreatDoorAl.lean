/- all: the types of numbers. -/
import Derived.Test.YtmheonaddidbjaaGreatDoorUn
import Derived.Test.YtmheonaddidbjaaGreatDoorNw
set_option linter.unusedVariables false
set_option linter.unusedSimpArgs false
namespace Go.Proofs.YtmheonaddidbjaaGreatDoor
open Go.RowKit

variable {B : Nat}

/-- The types of these numbers. -/
def pick (ts : List Ty) (ids : List Int) : List Ty := ids.map fun i => ts.getD i.toNat (bas 0)

def AllPost (w : World) (N : Nat → Prop) (n : Nat) (tl : List Ty) (e : Ending) (w' : World) : Prop :=
  ∃ sv pbs, e = .returned (.tuple #[sv, .bool true]) ∧ w'.ownsRow w.heap.size 74 1 sv n (pbs.map ptr) ∧ TYs w' N tl pbs ∧ Old w w'

theorem TYs.snoc {w : World} {N : Nat → Prop} {t : Ty} {b : Nat} : ∀ {l : List Ty} {bs : List Nat}, TYs w N l bs → TY w N t b → TYs w N (l ++ [t]) (bs ++ [b])
  | [], bs, h, k => by cases h; exact ⟨b, [], rfl, k, rfl⟩
  | u :: r, bs, h, k => by
    obtain ⟨b1, bs', rfl, h1, h2⟩ := h
    exact ⟨b1, bs' ++ [b], rfl, h1, TYs.snoc h2 k⟩

set_option maxRecDepth 100000 in
set_option maxHeartbeats 1000000 in
theorem all_in {A : Nat} {N : Nat → Prop} {ts : List Ty} {tv mv : Value} {bs : List Nat} {kvs : List (ByteArray × Value)} (w : World) (h : AR B w A N ts tv mv bs kvs) (v : Value) (n : Nat) (ids : List Int)
    (hr : Rd w (fun _ => False) 3 v n (ids.map (Value.int .i64))) (hin : ∀ i ∈ ids, 0 ≤ i ∧ i < ts.length) (hn : n ≤ 1099511627776) :
    Calls Tryz.prog 32 #[ptr A, v] w (AllPost w N n (pick ts ids)) := by
  obtain ⟨a, c, rfl⟩ := hr.slice
  have hnl : ids.length = n := by simpa using hr.1
  have HR := Lib.hid hr; clear hr
  have HA := Lib.hid h; clear h
  have HIN := Lib.hid hin; clear hin
  go_enter Tryz.func32, Tryz.ntmps32
  go_wp2
  go_loopw [6, 11] (fun s6 s11 wr => ∃ (j : Nat) (pbs : List Nat), s11 = .int .i64 (j : Int) ∧ j ≤ n ∧ Old w wr ∧ wr.ownsRow w.heap.size 74 1 s6 j (pbs.map ptr) ∧ TYs w N (pick ts (ids.take j)) pbs) (fun _ s11 _ => n - (intOf s11).toNat)
  case atStart => exact ⟨0, [], rfl, Nat.zero_le _, Fr.refl _ _, ⟨rfl, Or.inl ⟨rfl, rfl⟩⟩, by simp [pick, TYs]⟩
  case round =>
    obtain ⟨j, pbs, rfl, hj, hO, hrow, hT⟩ := hrel
    have HO := Lib.hid hO; clear hO
    have HROW := Lib.hid hrow; clear hrow
    have HT := Lib.hid hT; clear hT
    rcases Nat.lt_or_ge j n with hlt | hge
    · obtain ⟨g, cap, x, e1, e2, hx, _, hgl⟩ := (HR.out.same (B := B) HO.out.up (by decide)).cell j hlt
      cases e1
      have hjl : j < ids.length := by omega
      rw [List.getElem?_map, List.getElem?_eq_getElem hjl] at e2
      cases e2
      obtain ⟨q0, q1⟩ := HIN.out _ (List.getElem_mem hjl)
      obtain ⟨i, hi⟩ := Int.eq_ofNat_of_zero_le q0
      have hpk : Hid (pick ts (ids.take (j + 1)) = pick ts (ids.take j) ++ [ts.getD i (bas 0)]) := Lib.hid (by rw [take_snoc _ j hjl]; simp [pick, hi])
      rw [hi] at hx q1
      clear hi q0
      have hA2 := HA.out.same (B := B) HO.out.up
      have hit : i < ts.length := by omega
      obtain ⟨g2, c2, b, rfl, hc, hbs, _⟩ := hA2.get i hit
      have hTi : TY w N ts[i] b := by
        obtain ⟨b', e, hT'⟩ := HA.out.tys.get i hit
        rw [hbs] at e; cases e; exact hT'
      have hgd : Hid (ts.getD i (bas 0) = ts[i]) := Lib.hid (by simp [List.getD, hit])
      have c0 := cellOf hA2.own 0 _ rfl
      have HH := Lib.hid (has_in hA2 (i : Int) (by omega) (by omega))
      have HTI := Lib.hid hTi; clear hTi
      have HA2 := Lib.hid hA2; clear hA2
      have i0 : (0 : Int) ≤ (j : Int) := by omega
      have i1 : (j : Int) < (n : Int) := by omega
      have i2 : (0 : Int) ≤ (i : Int) := by omega
      have i3 : (i : Int) < (ts.length : Int) := by omega
      have hszo := HO.out.size
      obtain ⟨i0_, hi', hz0, hz1, hz2⟩ := info_parts infoPtr
      go_wp2_with (first | (go_at_call 38; refine Calls.mono HH.out ?_; rintro e w1 ⟨rfl, rfl⟩) | (at_builtin; refine wpList_append_own_at _ rfl (.tmp 19) (.tmp 27) 55 rfl w.heap.size 74 i0_ (.pointer none) 1 8 Tryz.underlying55 hi' hz0 hz1 hz2 rfl (by decide) _ _ _ rfl (HROW.out.alloc _) ⟨wr.heap.size, 0, none⟩ 1 1 [ptr b] rfl rfl ?c1 ?c2 ?c3 ?c4 ?c5 ?_))
      case c1 => simpa using cell_one_new wr (ptr b) 74
      case c2 => intro u hu; simp at hu; subst hu; rfl
      case c3 => unfold maxLen; omega
      case c4 => omega
      case c5 => simp; omega
      intro v' w2 hown2 hg2 hnil hat
      have hO2 : Old w w2 := (HO.out.alloc _).grown hg2 (fun k hk => Or.inl (HROW.out.lt k hk).1)
      have hO3 : Fr (fun i => w.heap.size ≤ i) wr w2 := ((Fr.refl _ _).alloc _).grown hg2 (fun k hk => Or.inr (HROW.out.lt k hk).1)
      have HO2 := Lib.hid hO2; clear hO2
      have HO3 := Lib.hid hO3; clear hO3
      have HOWN2 := Lib.hid hown2; clear hown2 hg2 hnil hat
      go_wp2
      go_roundw
      case rel =>
        exact ⟨j + 1, pbs ++ [b], by go_num, by omega, HO2.out, by simpa using HOWN2.out, by rw [hpk.out, hgd.out]; exact HT.out.snoc HTI.out⟩
      case measure => simp [intOf]; omega
    · have hje : j = n := by omega
      subst hje
      go_wp2
      go_ret2
      refine ⟨_, pbs, rfl, HROW.out, ?_, HO.out⟩
      have := HT.out.same (B := B) HO.out.up
      rwa [List.take_of_length_le (by omega)] at this
end Go.Proofs.YtmheonaddidbjaaGreatDoor
