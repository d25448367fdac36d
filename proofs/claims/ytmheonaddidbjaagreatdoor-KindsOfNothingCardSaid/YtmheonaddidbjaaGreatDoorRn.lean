/- slices.Contains of ints; round. -/
import Derived.Test.YtmheonaddidbjaaGreatDoorNw
set_option linter.unusedVariables false
set_option linter.unusedSimpArgs false
namespace Go.Proofs.YtmheonaddidbjaaGreatDoor
open Go.RowKit

variable {B : Nat}

/-- Where a number stands first. -/
def posI (v : Int) : List Int → Nat → Int
  | [], _ => -1
  | x :: r, i => if v = x then (i : Int) else posI v r (i + 1)
theorem posI_drop (v : Int) : ∀ (l : List Int) (i : Nat) (h : i < l.length) (k : Nat), posI v (l.drop i) k = if v = l[i] then (k : Int) else posI v (l.drop (i + 1)) (k + 1) := fun l i h k => by
  rw [List.drop_eq_getElem_cons h, posI]
theorem posI_ge (v : Int) : ∀ (l : List Int) (i : Nat), decide (0 ≤ posI v l i) = decide (v ∈ l)
  | [], i => by simp [posI]
  | x :: r, i => by
    unfold posI
    by_cases e : v = x
    · simp [e]
    · rw [if_neg e, posI_ge v r (i + 1)]
      simp [e]

set_option maxHeartbeats 400000 in
theorem index_any (w : World) (N : Nat → Prop) (sv : Value) (n : Nat) (ks : List Int) (v : Int) (hr : Rd w N 3 sv n (ks.map (Value.int .i64))) (hn : n ≤ 1099511627776) :
    Calls Tryz.prog 136 #[sv, .int .i64 v] w fun e w' => e = .returned (.int .i64 (posI v ks 0)) ∧ w = w' := by
  obtain ⟨a, c, rfl⟩ := hr.slice
  have hkl : ks.length = n := by simpa using hr.1
  have HR := Lib.hid hr; clear hr
  go_enter Tryz.func136, Tryz.ntmps136
  go_wp2
  have h0 : posI v (ks.drop 0) 0 = posI v ks 0 := by simp
  have H0 := Lib.hid h0; clear h0
  go_loop [8] (fun s8 => ∃ i : Nat, s8 = .int .i64 (i : Int) ∧ i ≤ n ∧ posI v (ks.drop i) i = posI v ks 0) (fun s8 => n - (intOf s8).toNat)
  case atStart => exact ⟨0, rfl, Nat.zero_le _, H0.out⟩
  case round =>
    obtain ⟨i, rfl, hi, hp⟩ := hrel
    clear H0
    rcases Nat.lt_or_ge i n with hlt | hge
    · obtain ⟨g, cap, x, e1, e2, hx, _, hgl⟩ := HR.out.cell i hlt
      cases e1
      have hik : i < ks.length := by omega
      have e3 : x = .int .i64 ks[i] := by rw [List.getElem?_map, List.getElem?_eq_getElem hik] at e2; simpa using e2.symm
      subst e3
      rw [posI_drop v ks i hik] at hp
      have i0 : (0 : Int) ≤ (i : Int) := by omega
      have i1 : (i : Int) < (n : Int) := by omega
      generalize ks[i] = k at *
      by_cases he : v = k
      · rw [if_pos he] at hp
        have HP := Lib.hid hp; clear hp e2
        have hb : (v == k) = true := beq_iff_eq.2 he
        replace he := Lib.hid he
        go_wp2
        go_ret
        exact ⟨by rw [← HP.out]; rfl, rfl⟩
      · rw [if_neg he] at hp
        have HP := Lib.hid hp; clear hp e2
        have hb : (v == k) = false := beq_eq_false_iff_ne.2 he
        clear he
        go_wp2
        go_round
        case rel => exact ⟨i + 1, by push_cast; rfl, by omega, HP.out⟩
        case measure => simp [intOf]; omega
    · have e : i = n := by omega
      subst e
      rw [← hkl, List.drop_length] at hp
      have HP := Lib.hid hp; clear hp
      go_wp2
      go_ret
      exact ⟨by rw [← HP.out]; rfl, rfl⟩

set_option maxHeartbeats 400000 in
theorem contains_any (w : World) (N : Nat → Prop) (sv : Value) (n : Nat) (ks : List Int) (v : Int) (hr : Rd w N 3 sv n (ks.map (Value.int .i64))) (hn : n ≤ 1099511627776) :
    Calls Tryz.prog 101 #[sv, .int .i64 v] w fun e w' => e = .returned (.bool (decide (v ∈ ks))) ∧ w = w' := by
  have HC := Lib.hid (index_any w N sv n ks v hr hn); clear hr
  have hp := posI_ge v ks 0
  have HP := Lib.hid hp; clear hp
  go_enter Tryz.func101, Tryz.ntmps101
  go_wp2_with (go_at_call 136; refine Calls.mono HC.out ?_; rintro e w1 ⟨rfl, rfl⟩)
  go_ret
  exact ⟨congrArg (fun b => Ending.returned (.bool b)) HP.out, rfl⟩

/-- How two texts stand. -/
def cmpV (a b : Bs) : Int := if Op.bytesLess a b = true then -1 else if a = b then 0 else 1

theorem cmp_string (a b : ByteArray) (w : World) : Calls Tryz.prog 78 #[.string a, .string b] w fun e w' => e = .returned (.int .i64 (cmpV a.toList b.toList)) ∧ w = w' := by
  have hn : ∀ (s : ByteArray) (W : World), Calls Tryz.prog 111 #[.string s] W fun e w' => e = .returned (.bool false) ∧ W = w' := by
    intro s W
    go_enter Tryz.func111, Tryz.ntmps111
    go_wp2
    go_ret
    exact ⟨rfl, rfl⟩
  go_enter Tryz.func78, Tryz.ntmps78
  go_wp2_with (go_at_call 111; refine (hn _ _).mono ?_; rintro e w1 ⟨rfl, rfl⟩)
  · have h : Op.bytesLess a.toList b.toList = true := by assumption
    go_ret
    exact ⟨by unfold cmpV; rw [if_pos h]; rfl, rfl⟩
  · have h : Op.bytesLess a.toList b.toList = false := by assumption
    have h2 : (!a.toList == b.toList) = true := by assumption
    go_ret
    exact ⟨by unfold cmpV; rw [if_neg (by rw [h]; decide), if_neg (by simpa using h2)]; rfl, rfl⟩
  · have h : Op.bytesLess a.toList b.toList = false := by assumption
    have h2 : (!a.toList == b.toList) = false := by assumption
    go_ret
    exact ⟨by unfold cmpV; rw [if_neg (by rw [h]; decide), if_pos (by simpa using h2)]; rfl, rfl⟩

theorem S_size (l : Bs) : (S l).size = l.length := by simp [S, ByteArray.size]
theorem S_append (a b : Bs) : S a ++ S b = S (a ++ b) := by
  apply bytes_eq_iff.1
  simp [S, bytes_eq_iff]
  rfl

def rndT (ks : List Int) (t : Ty) : Bs := rnd ks (t.kind, tx t)

set_option maxHeartbeats 400000 in
theorem round_any (w : World) (N : Nat → Prop) (t : Ty) (b : Nat) (sv : Value) (n : Nat) (ks : List Int) (hx : TextOk t) (hlow : ∀ i, i < B → N i) (hT : TY w N t b) (hr : Rd w N 3 sv n (ks.map (Value.int .i64))) (hn : n ≤ 1099511627776) (hsz : (tx t).length ≤ 1099511627776) :
    Calls Tryz.prog 69 #[ptr b, sv] w fun e w' => e = .returned (strV (rndT ks t)) ∧ Same B w w' := by
  have hk := hT.kind_
  have HX := Lib.hid (hx B w N b hlow hT)
  have HC := Lib.hid (contains_any w N sv n ks t.kind hr hn)
  clear hT hr hx hlow
  by_cases hm : t.kind ∈ ks
  · have hres : rndT ks t = [40] ++ tx t ++ [41] := by unfold rndT rnd par; rw [if_pos hm]; rfl
    have hcat : (⟨#[40]⟩ : ByteArray) ++ S (tx t) ++ ⟨#[41]⟩ = S (rndT ks t) := by
      rw [hres, show (⟨#[40]⟩ : ByteArray) = S [40] from rfl, show (⟨#[41]⟩ : ByteArray) = S [41] from rfl, S_append, S_append]
    have HCAT := Lib.hid hcat
    have hd : decide (t.kind ∈ ks) = true := decide_eq_true hm
    have z0 := S_size (tx t)
    have z1 : ¬ 9223372036854775807 < 1 + (S (tx t)).size := by omega
    have z2 : ¬ 9223372036854775807 < 1 + (S (tx t)).size + 1 := by omega
    clear hres hm hcat z0
    generalize rndT ks t = res at *
    go_enter Tryz.func69, Tryz.ntmps69
    go_wp2_with (first | (go_at_call 101; refine Calls.mono HC.out ?_; rintro e w1 ⟨rfl, rfl⟩) | (go_at_call 43; refine Calls.mono HX.out ?_; rintro e w1 ⟨rfl, hS⟩))
    go_ret
    exact ⟨congrArg (fun x => Ending.returned (.string x)) HCAT.out, hS⟩
  · have hres : rndT ks t = tx t := by unfold rndT rnd; rw [if_neg hm]
    rw [hres]
    have hd : decide (t.kind ∈ ks) = false := decide_eq_false hm
    clear hres hm
    go_enter Tryz.func69, Tryz.ntmps69
    go_wp2_with (first | (go_at_call 101; refine Calls.mono HC.out ?_; rintro e w1 ⟨rfl, rfl⟩) | (go_at_call 43; refine Calls.mono HX.out ?_; rintro e w1 ⟨rfl, hS⟩))
    go_ret
    exact ⟨rfl, hS⟩
end Go.Proofs.YtmheonaddidbjaaGreatDoor
