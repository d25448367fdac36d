/- slices.IndexFunc, DeleteFunc of types that go. -/
import Derived.Test.YtmheonaddidbjaaGreatDoorGo
set_option linter.unusedVariables false
set_option linter.unusedSimpArgs false
namespace Go.Proofs.YtmheonaddidbjaaGreatDoor
open Go.RowKit

variable {B : Nat}

abbrev goesV (C1 C2 : Nat) : Value := .func (.func 65) #[] #[ptr C1, ptr C2]

/-- Where the first one stands that goes. -/
def posB {α : Type} (p : α → Bool) : List α → Nat → Int
  | [], _ => -1
  | x :: r, i => if p x = true then (i : Int) else posB p r (i + 1)
theorem posB_drop {α : Type} (p : α → Bool) (l : List α) (i : Nat) (h : i < l.length) : posB p (l.drop i) i = if p l[i] = true then (i : Int) else posB p (l.drop (i + 1)) (i + 1) := by
  rw [List.drop_eq_getElem_cons h, posB]

/-- A type that may be asked whether it goes. -/
def Ask (t : Ty) : Prop := t.kind = 20 → ∃ h : 0 < t.parts.length, TextOk t.parts[0]

set_option maxRecDepth 100000 in
set_option maxHeartbeats 1000000 in
theorem index_goes (w : World) (N : Nat → Prop) (v : Value) (n : Nat) (l : List Ty) (bs : List Nat) (C1 C2 m1 m2 : Nat) (fl : List Ty) (kv1 : List (Int × Value)) (kv2 : List (ByteArray × Value)) (hlow : ∀ i, i < B → N i)
    (hr : Rd w (fun _ => False) 74 v n (bs.map ptr)) (hT : TYs w N l bs) (hA : ∀ t ∈ l, Ask t) (hC : CapOk w C1 C2 fl m1 m2 kv1 kv2) (hn : n ≤ 1099511627776) :
    Calls Tryz.prog 100 #[v, goesV C1 C2] w fun e w' => e = .returned (.int .i64 (posB (goesT fl) l 0)) ∧ Same B w w' := by
  obtain ⟨a, c, rfl⟩ := hr.slice
  have hbl : bs.length = n := by simpa using hr.1
  have hll : l.length = n := by rw [← hbl]; exact hT.len.symm
  have HR := Lib.hid hr; clear hr
  have HT := Lib.hid hT; clear hT
  have HA := Lib.hid hA; clear hA
  have HC := Lib.hid hC; clear hC
  have HL := Lib.hid hlow; clear hlow
  have h0 : posB (goesT fl) (l.drop 0) 0 = posB (goesT fl) l 0 := by simp
  have H0 := Lib.hid h0; clear h0
  go_enter Tryz.func100, Tryz.ntmps100
  go_wp2
  go_loopw [8] (fun s8 wr => ∃ i : Nat, s8 = .int .i64 (i : Int) ∧ i ≤ n ∧ posB (goesT fl) (l.drop i) i = posB (goesT fl) l 0 ∧ Same B w wr) (fun s8 _ => n - (intOf s8).toNat)
  case atStart => exact ⟨0, rfl, Nat.zero_le _, H0.out, Up.refl _ _⟩
  case round =>
    obtain ⟨i, rfl, hi, hp, hS⟩ := hrel
    clear H0
    have HS := Lib.hid hS; clear hS
    rcases Nat.lt_or_ge i n with hlt | hge
    · obtain ⟨g, cap, x, e1, e2, hx, _, hgl⟩ := (HR.out.same HS.out (by decide)).cell i hlt
      cases e1
      have hil : i < l.length := by omega
      obtain ⟨b, e3, hTi⟩ := (HT.out.same HS.out).get i hil
      rw [List.getElem?_map, e3] at e2
      cases e2
      have HG := Lib.hid (goes_any (B := B) wr N l[i] b C1 C2 m1 m2 fl kv1 kv2 HL.out hTi (HA.out _ (List.getElem_mem hil)) (HC.out.up HS.out ⟨fun f => f, fun f => f, fun f => f, fun f => f⟩))
      rw [posB_drop _ l i hil] at hp
      clear hTi e3
      have i0 : (0 : Int) ≤ (i : Int) := by omega
      have i1 : (i : Int) < (n : Int) := by omega
      generalize l[i] = t at *
      by_cases he : goesT fl t = true
      · rw [if_pos he] at hp
        rw [he] at HG
        have HP := Lib.hid hp; clear hp he
        go_wp2_with (go_at_call 65; refine Calls.mono HG.out ?_; rintro e w1 ⟨rfl, hS1⟩)
        go_ret
        exact ⟨by rw [← HP.out]; rfl, HS.out.same hS1⟩
      · rw [if_neg he] at hp
        have he2 : goesT fl t = false := by simpa using he
        rw [he2] at HG
        have HP := Lib.hid hp; clear hp he he2
        go_wp2_with (go_at_call 65; refine Calls.mono HG.out ?_; rintro e w1 ⟨rfl, hS1⟩)
        exact ⟨⟨i + 1, by push_cast; rfl, by omega, HP.out, HS.out.same hS1⟩, by simp [intOf]; omega⟩
    · have e : i = n := by omega
      subst e
      rw [← hll, List.drop_length] at hp
      have HP := Lib.hid hp; clear hp
      go_wp2
      go_ret
      exact ⟨by rw [← HP.out]; rfl, HS.out⟩
end Go.Proofs.YtmheonaddidbjaaGreatDoor
