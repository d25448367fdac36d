/- The closure of union that tells what goes. -/
import Derived.Test.YtmheonaddidbjaaGreatDoorCl
set_option linter.unusedVariables false
set_option linter.unusedSimpArgs false
namespace Go.Proofs.YtmheonaddidbjaaGreatDoor
open Go.RowKit

variable {B : Nat}

abbrev intKey (k : Int) : Value := .int .i64 k
theorem keyI : KeyT Tryz.prog 3 intKey := keyT_int Tryz.underlying3
theorem ty_mapi : Tryz.prog.underlying 139 = some (.map 3 3) := Tryz.underlying139

/-- How many parts are of a kind; enums of a text. -/
def cntK (l : List Ty) (k : Int) : Nat := (l.filter fun t => t.kind = k).length
def cntE (l : List Ty) (s : Bs) : Nat := (l.filter fun t => t.kind = 19 ∧ tx t = s).length
def ThereOk (kvs : List (Int × Value)) (l : List Ty) : Prop := ∀ k, (look k kvs).getD (.int .i64 0) = .int .i64 (cntK l k : Int)
def EnumOk (kvs : List (ByteArray × Value)) (l : List Ty) : Prop := ∀ s : Bs, (look (S s) kvs).getD (.int .i64 0) = .int .i64 (cntE l s : Int)

/-- Does a part go? -/
def goesT (l : List Ty) (t : Ty) : Bool :=
  if t.kind = 3 then true
  else if t.kind = 11 then decide (0 < cntK l 7)
  else if t.kind = 12 then decide (0 < cntK l 8)
  else if t.kind = 20 then decide (0 < cntE l ((t.parts.map tx).getD 0 []))
  else false

/-- What the closure has captured. -/
structure CapOk (W : World) (C1 C2 : Nat) (l : List Ty) (m1 m2 : Nat) (kv1 : List (Int × Value)) (kv2 : List (ByteArray × Value)) : Prop where
  c1 : W.heap[C1]? = some (.cells #[.map (some m1)] 139 (0, 0))
  c2 : W.heap[C2]? = some (.cells #[.map (some m2)] 56 (0, 0))
  h1 : MapIs intKey W m1 kv1
  h2 : MapIs strKey W m2 kv2
  k1 : ThereOk kv1 l
  k2 : EnumOk kv2 l

theorem CapOk.up {F : Nat → Prop} {W W' : World} {C1 C2 m1 m2 : Nat} {l : List Ty} {kv1 : List (Int × Value)} {kv2 : List (ByteArray × Value)} (h : CapOk W C1 C2 l m1 m2 kv1 kv2) (hU : Up B F W W') (hF : ¬ F C1 ∧ ¬ F C2 ∧ ¬ F m1 ∧ ¬ F m2) : CapOk W' C1 C2 l m1 m2 kv1 kv2 :=
  ⟨hU.at h.c1 hF.1 (fun c e => by cases e), hU.at h.c2 hF.2.1 (fun c e => by cases e), hU.map h.h1 hF.2.2.1, hU.map h.h2 hF.2.2.2, h.k1, h.k2⟩

theorem TY.part0 {w : World} {N : Nat → Prop} {t : Ty} {b : Nat} (h : TY w N t b) (hp : 0 < t.parts.length) : ∃ n g c p, w.cell? ⟨b, 3, none⟩ = some (.slice (some ⟨g, 0, none⟩) n c) ∧ (0 : Int) < n ∧ w.cell? ⟨g, 0, none⟩ = some (ptr p) ∧ TY w N t.parts[0] p := by
  obtain ⟨pv, bs, h1, h2, h3⟩ := h.parts_
  obtain ⟨g, c, x, rfl, hx, hc, _⟩ := h2.cell 0 hp
  obtain ⟨p, e, hT⟩ := h3.get 0 hp
  rw [List.getElem?_map, e] at hx
  cases hx
  exact ⟨_, g, c, p, h1, by omega, hc, hT⟩

theorem run_thr {W : World} {m : Nat} {kvs : List (Int × Value)} {l : List Ty} (h : MapIs intKey W m kvs) (hk : ThereOk kvs l) (k : Int) :
    (Instr.lookup 139 (.map (some m)) (.int .i64 k) false).run Tryz.prog W = .ok (.int .i64 (cntK l k : Int)) W := by
  have := run_look keyI ty_mapi h k (zeroI W) false
  rw [hk k] at this
  simpa using this
theorem run_enu {W : World} {m : Nat} {kvs : List (ByteArray × Value)} {l : List Ty} (h : MapIs strKey W m kvs) (hk : EnumOk kvs l) (s : Bs) :
    (Instr.lookup 56 (.map (some m)) (.string (S s)) false).run Tryz.prog W = .ok (.int .i64 (cntE l s : Int)) W := by
  have := run_look keyS ty_map h (S s) (zeroI W) false
  rw [hk s] at this
  simpa using this

set_option maxRecDepth 100000 in
set_option maxHeartbeats 1000000 in
theorem goes_any (w : World) (N : Nat → Prop) (t : Ty) (b C1 C2 m1 m2 : Nat) (l : List Ty) (kv1 : List (Int × Value)) (kv2 : List (ByteArray × Value)) (hlow : ∀ i, i < B → N i) (hT : TY w N t b)
    (h20 : t.kind = 20 → ∃ h : 0 < t.parts.length, TextOk t.parts[0]) (hC : CapOk w C1 C2 l m1 m2 kv1 kv2) :
    Calls Tryz.prog 65 #[ptr b, ptr C1, ptr C2] w fun e w' => e = .returned (.bool (goesT l t)) ∧ Same B w w' := by
  have hk := hT.kind_
  have HC := Lib.hid hC; clear hC
  have HT := Lib.hid hT; clear hT
  have HL := Lib.hid hlow; clear hlow
  have cc1 := cellOf HC.out.c1 0 _ rfl
  have cc2 := cellOf HC.out.c2 0 _ rfl
  by_cases e3 : t.kind = 3
  · have hg : goesT l t = true := by unfold goesT; rw [if_pos e3]
    rw [hg]; rw [e3] at hk
    clear hg h20
    replace e3 := Lib.hid e3
    go_enter Tryz.func65, Tryz.ntmps65
    go_wp2
    go_ret
    exact ⟨rfl, Up.refl _ _⟩
  · by_cases e11 : t.kind = 11
    · have hg : goesT l t = decide (0 < cntK l 7) := by unfold goesT; rw [if_neg e3, if_pos e11]
      rw [hg]; rw [e11] at hk
      clear hg h20
      replace e11 := Lib.hid e11
      have hl := run_thr HC.out.h1 HC.out.k1 7
      go_enter Tryz.func65, Tryz.ntmps65
      go_wp2
      go_ret
      exact ⟨by simp, Up.refl _ _⟩
    · by_cases e12 : t.kind = 12
      · have hg : goesT l t = decide (0 < cntK l 8) := by unfold goesT; rw [if_neg e3, if_neg e11, if_pos e12]
        rw [hg]; rw [e12] at hk
        clear hg h20
        replace e12 := Lib.hid e12
        have hl := run_thr HC.out.h1 HC.out.k1 8
        go_enter Tryz.func65, Tryz.ntmps65
        go_wp2
        go_ret
        exact ⟨by simp, Up.refl _ _⟩
      · by_cases e20 : t.kind = 20
        · obtain ⟨hp, hx⟩ := h20 e20
          have hg : goesT l t = decide (0 < cntE l (tx t.parts[0])) := by
            unfold goesT; rw [if_neg e3, if_neg e11, if_neg e12, if_pos e20]
            simp [List.getD, hp]
          rw [hg]; rw [e20] at hk
          obtain ⟨n, g, c, p, q1, q2, q3, q4⟩ := HT.out.part0 hp
          clear hg h20
          replace e20 := Lib.hid e20
          have hS0 := Lib.hid ((Fr.refl (fun _ => False) w).drew.up (B := B))
          have HX := Lib.hid (hx B _ N p HL.out (q4.same hS0.out))
          clear q4 hx
          generalize t.parts[0] = u at *
          go_enter Tryz.func65, Tryz.ntmps65
          go_wp2_with fail
          go_region_with (go_at_call 43; refine Calls.mono HX.out ?_; rintro e w1 ⟨rfl, hS1⟩; have hS01 := Lib.hid (hS0.out.same hS1); have HC1 := Lib.hid (HC.out.up hS01.out ⟨fun f => f, fun f => f, fun f => f, fun f => f⟩); have dd2 := cellOf HC1.out.c2 0 _ rfl; have hl := run_enu HC1.out.h2 HC1.out.k2 (tx u))
          all_goals (go_wp2_with fail; go_ret; exact ⟨by simp [Act.put], hS01.out⟩)
        · have hg : goesT l t = false := by unfold goesT; rw [if_neg e3, if_neg e11, if_neg e12, if_neg e20]
          rw [hg]
          have b3 : (t.kind == 3) = false := beq_eq_false_iff_ne.2 e3
          have b11 : (t.kind == 11) = false := beq_eq_false_iff_ne.2 e11
          have b12 : (t.kind == 12) = false := beq_eq_false_iff_ne.2 e12
          have b20 : (t.kind == 20) = false := beq_eq_false_iff_ne.2 e20
          clear hg h20 e3 e11 e12 e20
          go_enter Tryz.func65, Tryz.ntmps65
          go_wp2
          go_ret
          exact ⟨rfl, Up.refl _ _⟩
end Go.Proofs.YtmheonaddidbjaaGreatDoor
