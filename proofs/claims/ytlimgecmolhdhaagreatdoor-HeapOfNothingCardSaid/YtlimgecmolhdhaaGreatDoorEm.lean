/- A step, in both: Len and Kind, Typeof, Show. -/
import Derived.Test.YtlimgecmolhdhaaGreatDoorRp
import Derived.Test.YtlimgecmolhdhaaGreatDoorPr
import Derived.Test.YtlimgecmolhdhaaGreatDoorPb
import Derived.Test.YtlimgecmolhdhaaGreatDoorPh
import Derived.Test.YtlimgecmolhdhaaGreatDoorPs
import Derived.Test.YtlimgecmolhdhaaGreatDoorDp
import Derived.Test.YtlimgecmolhdhaaGreatDoorDq
import Derived.Test.YtlimgecmolhdhaaGreatDoorHm
import Derived.Deep.RegionHeld3
set_option linter.unusedVariables false
set_option linter.unusedSimpArgs false
namespace Go.Proofs.YtlimgecmolhdhaaGreatDoor
open Go.RowKit

set_option maxRecDepth 100000 in
set_option maxHeartbeats 4000000 in
theorem does_len (w : World) (h : Value) (R : Nat) (sn sm vk vn : Int) (vs : ByteArray) (uk un : Int) (us : ByteArray) (xk xn : Int) (xs key : ByteArray) (ll kk : Int)
    (hA : Says w nowhere anyW 16 #[h, .int .i64 sn] (.int .i64 ll))
    (hB : Says w nowhere anyW 17 #[rp R, .int .i64 sn] (.int .i64 ll))
    (hC : Says w nowhere anyW 14 #[h, .int .i64 sn] (.int .i64 kk))
    (hD : Says w nowhere anyW 15 #[rp R, .int .i64 sn] (.int .i64 kk)) :
    Says w nowhere anyW 10 #[h, rp R, .agg #[.int .i64 8, .int .i64 sn, .int .i64 sm, .int .i64 vk, .int .i64 vn, .string vs, .int .i64 uk, .int .i64 un, .string us, .int .i64 xk, .int .i64 xn, .string xs, .string key]] (.bool true) := by
  intro W hW _
  have HW := Lib.hid hW; clear hW
  have hA' : ∀ W', Old W W' → Calls Tryz.prog 16 #[h, .int .i64 sn] W' fun e w' => e = .returned (.int .i64 ll) ∧ Old W' w' := fun W' h' => hA W' (HW.out.old h') trivial
  have HA := Lib.hid hA'; clear hA hA'
  have hB' : ∀ W', Old W W' → Calls Tryz.prog 17 #[rp R, .int .i64 sn] W' fun e w' => e = .returned (.int .i64 ll) ∧ Old W' w' := fun W' h' => hB W' (HW.out.old h') trivial
  have HB := Lib.hid hB'; clear hB hB'
  have hC' : ∀ W', Old W W' → Calls Tryz.prog 14 #[h, .int .i64 sn] W' fun e w' => e = .returned (.int .i64 kk) ∧ Old W' w' := fun W' h' => hC W' (HW.out.old h') trivial
  have HC := Lib.hid hC'; clear hC hC'
  have hD' : ∀ W', Old W W' → Calls Tryz.prog 15 #[rp R, .int .i64 sn] W' fun e w' => e = .returned (.int .i64 kk) ∧ Old W' w' := fun W' h' => hD W' (HW.out.old h') trivial
  have HD := Lib.hid hD'; clear hD hD'
  go_enter Tryz.func10, Tryz.ntmps10
  go_upto_region 27 with fail
  have hs1 := heapNew W (.cells #[.int .i64 8, .int .i64 sn, .int .i64 sm, .int .i64 vk, .int .i64 vn, .string vs, .int .i64 uk, .int .i64 un, .string us, .int .i64 xk, .int .i64 xn, .string xs, .string key] 36)
  have hF1 : Old W (W.alloc (.cells #[.int .i64 8, .int .i64 sn, .int .i64 sm, .int .i64 vk, .int .i64 vn, .string vs, .int .i64 uk, .int .i64 un, .string us, .int .i64 xk, .int .i64 xn, .string xs, .string key] 36)) := (Fr.refl (fun _ => False) W).alloc _
  have hst : ∀ V V', V.heap[W.heap.size]? = some (.cells #[.int .i64 8, .int .i64 sn, .int .i64 sm, .int .i64 vk, .int .i64 vn, .string vs, .int .i64 uk, .int .i64 un, .string us, .int .i64 xk, .int .i64 xn, .string xs, .string key] 36 (0, 0)) → Old V V' → V'.heap[W.heap.size]? = some (.cells #[.int .i64 8, .int .i64 sn, .int .i64 sm, .int .i64 vk, .int .i64 vn, .string vs, .int .i64 uk, .int .i64 un, .string us, .int .i64 xk, .int .i64 xn, .string xs, .string key] 36 (0, 0)) ∧ V'.cell? ⟨W.heap.size, 1, none⟩ = some (.int .i64 sn) := fun V V' h hO => ⟨hO.at h (fun f => f), cellOf (hO.at h (fun f => f)) 1 _ rfl⟩
  have HST := Lib.hid hst; clear hst
  refine wp_gen (R := fun V => Old W V ∧ V.heap[W.heap.size]? = some (.cells #[.int .i64 8, .int .i64 sn, .int .i64 sm, .int .i64 vk, .int .i64 vn, .string vs, .int .i64 uk, .int .i64 un, .string us, .int .i64 xk, .int .i64 xn, .string xs, .string key] 36 (0, 0))) ⟨hF1, hs1⟩ ?_
  clear hF1 hs1
  rintro V ⟨hF1, hs1⟩
  obtain ⟨hs1', c1⟩ := HST.out V V.drew hs1 ((Fr.refl _ _).drew)
  have HF1 := Lib.hid hF1; clear hF1
  have HS1 := Lib.hid hs1'; clear hs1 hs1'
  have c1 : V.cell? ⟨W.heap.size, 1, none⟩ = some (.int .i64 sn) := c1
  go_region_held3 (fun w' => w'.cell? ⟨W.heap.size, 1, none⟩ = some (.int .i64 sn)) (go_keep) (first | (go_at_call 16; ((with_reducible refine (HA.out _ ?_).mono ?_)); (exact HF1.out.drew); rintro e w1 ⟨rfl, hO1⟩; obtain ⟨hs2, q1_⟩ := HST.out _ _ HS1.out hO1; have HF2 := Lib.hid (HF1.out.drew.old hO1); have HS2 := Lib.hid hs2; clear hs2 hO1) | (go_at_call 17; ((with_reducible refine (HB.out _ ?_).mono ?_)); (exact HF2.out); rintro e w2 ⟨rfl, hO2⟩; obtain ⟨hs3, q2_⟩ := HST.out _ _ HS2.out hO2; have HF3 := Lib.hid (HF2.out.old hO2); have HS3 := Lib.hid hs3; clear hs3 hO2) | (go_at_call 14; ((with_reducible refine (HC.out _ ?_).mono ?_)); (exact HF3.out); rintro e w3 ⟨rfl, hO3⟩; obtain ⟨hs4, q3_⟩ := HST.out _ _ HS3.out hO3; have HF4 := Lib.hid (HF3.out.old hO3); have HS4 := Lib.hid hs4; clear hs4 hO3) | (go_at_call 15; ((with_reducible refine (HD.out _ ?_).mono ?_)); (exact HF4.out); rintro e w4 ⟨rfl, hO4⟩; obtain ⟨hs5, q4_⟩ := HST.out _ _ HS4.out hO4; have HF5 := Lib.hid (HF4.out.old hO4)))
  all_goals (go_wp2; go_ret; exact ⟨by first | rfl | (simp; done), HF5.out⟩)
end Go.Proofs.YtlimgecmolhdhaaGreatDoor

/- A heap of nothing, in both: every step tells the same. -/
set_option linter.unusedVariables false
set_option linter.unusedSimpArgs false
namespace Go.Proofs.YtlimgecmolhdhaaGreatDoor
open Go.RowKit

/-- A program's heap that holds nothing and has room for nothing. -/
structure Bare (w : World) (h : Value) : Prop where
  thing : ∀ k n s, Says w nowhere anyW 40 #[h, .agg #[.int .i64 k, .int .i64 n, .string s]] .nilIface
  make : ∀ k p, Says w nowhere anyW 19 #[h, .int .i64 k, .int .i64 p] (.tuple #[.int .i64 (-1), .int .i64 3])
theorem bare_nil (w : World) : Bare w (.pointer none) :=
  ⟨fun k n s W _ _ => thing_nil k n s W, fun k p W _ _ => make_nil W k p⟩
theorem bare_zero (w : World) (H : Nat) (hH : w.heap[H]? = some (.cells #[.int .i64 0, .int .i64 0, .slice none 0 0] 46 (0, 0))) : Bare w (.pointer (some ⟨H, 0, none⟩)) :=
  ⟨fun k n s W hW _ => thing_none k n s W H _ _ none 0 0 (hW.at hH (fun f => f)) (by omega), fun k p W hW _ => make_full W H 0 0 k p _ (hW.at hH (fun f => f)) (by omega)⟩

/-- What a value counts as, in both. -/
structure Counts (w : World) (h : Value) (R : Nat) (x y : AV) : Prop where
  p : Says w nowhere anyW 35 #[h, x.v] y.v
  r : Says w nowhere anyW 38 #[rp R, x.v] y.v
  is : isPlain y
  no : y.k ≠ 5
  idem : ∀ b, plainV b y = y
  size : y.s.size ≤ x.s.size
theorem plainV_idem (b c : Bool) (x : AV) : plainV b (plainV false x) = plainV false x := by
  obtain ⟨k, n, s⟩ := x
  by_cases h1 : k = 1
  · subst h1; simp [plainV]
  by_cases h2 : k = 2
  · subst h2
    by_cases hn : n = 0 <;> simp [plainV, hn]
  by_cases h3 : k = 3
  · subst h3
    simp only [plainV]
    simp
    omega
  by_cases h4 : k = 4
  · subst h4; simp [plainV]
  · simp [plainV, h1, h2, h3, h4, AV.zero]
theorem plainV_size (b : Bool) (x : AV) : (plainV b x).s.size ≤ x.s.size := by
  have z : (⟨#[]⟩ : ByteArray).size = 0 := rfl
  unfold plainV AV.zero
  repeat' split
  all_goals first | exact Nat.zero_le _ | exact Nat.le_refl _
theorem plainV_no5 (x : AV) : (plainV false x).k ≠ 5 := by
  unfold plainV AV.zero
  repeat' split
  all_goals first | decide | (simp; done) | (simp_all; done)
theorem counts_of {w : World} {h : Value} {R : Nat} (B : Bare w h) (hR : RBlk w R 0 0 none 0 0) (x : AV) : Counts w h R x (plainV false x) where
  p := pplain_any w h x false .nilIface (fun _ => B.thing _ _ _) (Or.inr ⟨rfl, rfl⟩)
  r := rsane15_any w R x false (fun _ => rthere_any w R 0 0 none 0 0 hR x.n false (by
    have : (decide ((0 : Int) ≤ x.n) && decide (x.n < ((0 : Nat) : Int))) = false := by
      by_cases h0 : 0 ≤ x.n
      · simp; try omega
      · simp [h0]
    exact this.symm))
  is := plainV_is false x
  no := plainV_no5 x
  idem := fun b => plainV_idem b b x
  size := plainV_size false x
theorem kinds_of {y : AV} (h : isPlain y) (h5 : y.k ≠ 5) : y.k = 0 ∨ y.k = 1 ∨ y.k = 2 ∨ y.k = 3 ∨ y.k = 4 := by
  unfold isPlain at h; omega

theorem em_array {w : World} {h : Value} (B : Bare w h) (x : AV) : Says w nowhere anyW 42 #[h, x.v] (.pointer none) := parray_nil w h _ _ _ (B.thing _ _ _)

set_option maxRecDepth 100000 in
theorem em_get {w : World} {h : Value} {R : Nat} {x y : AV} (B : Bare w h) (C : Counts w h R x y) (hs : y.s.size ≤ 1000000) (key : ByteArray) : ∃ (r : AV) (t : ByteArray) (f : Int),
    Says w nowhere anyW 22 #[h, x.v, .string key] (.tuple #[r.v, .string t, .int .i64 f]) ∧ Says w nowhere anyW 24 #[rp R, x.v, .string key] (outV r t f) := by
  obtain ⟨yk, yn, ys⟩ := y
  obtain ⟨hp, hr, hi, h5, hid, _⟩ := C
  have hk := kinds_of hi h5
  dsimp only at hk hs
  rcases hk with rfl | rfl | rfl | rfl | rfl
  · exact ⟨AV.zero, _, _, pget_throw0 w h _ _ _ _ _ key hp, rget_throw w R _ _ _ _ _ _ key (Or.inl rfl) hr⟩
  · exact ⟨AV.zero, _, _, pget_throw1 w h _ _ _ _ _ key hp, rget_throw w R _ _ _ _ _ _ key (Or.inr rfl) hr⟩
  · exact ⟨AV.zero, _, _, pget_num w h _ _ _ _ _ _ key rfl rfl rfl hp (B.thing _ _ _), rget_none w R _ _ _ _ _ _ key rfl rfl rfl rfl hr⟩
  · exact ⟨AV.zero, _, _, pget_num w h _ _ _ _ _ _ key rfl rfl rfl hp (B.thing _ _ _), rget_none w R _ _ _ _ _ _ key rfl rfl rfl rfl hr⟩
  · by_cases hkey : key = lenKey
    · exact ⟨⟨3, ((rowsP 0 ys.data.toList).length : Nat), ⟨#[]⟩⟩, _, _, pget_len w h _ _ _ _ _ key hkey hs hp, rget_len w R _ _ _ _ _ _ key hkey rfl hs hr⟩
    · exact ⟨AV.zero, _, _, pget_str w h _ _ _ _ _ key hkey hp, rget_str w R _ _ _ _ _ _ key hkey rfl hr⟩

set_option maxRecDepth 100000 in
theorem em_at {w : World} {h : Value} {R : Nat} {x y i z : AV} (B : Bare w h) (C : Counts w h R x y) (Cy : Counts w h R y y) (D : Counts w h R i z) (hs : y.s.size ≤ 1000000) : ∃ (r : AV) (t : ByteArray) (f : Int),
    Says w nowhere anyW 28 #[h, x.v, i.v] (.tuple #[r.v, .string t, .int .i64 f]) ∧ Says w nowhere anyW 29 #[rp R, x.v, i.v] (outV r t f) := by
  obtain ⟨zk, zn, zs⟩ := z
  have G := em_get B Cy hs zs
  have A := em_array B y
  obtain ⟨yk, yn, ys⟩ := y
  obtain ⟨hp, hr, hi, h5, hid, _⟩ := C
  obtain ⟨dp, dr, di, d5, did, _⟩ := D
  have hk := kinds_of hi h5
  have dk := kinds_of di d5
  dsimp only at hk dk hs
  rcases hk with rfl | rfl | hk
  · exact ⟨AV.zero, _, _, pat_throw0 w h _ _ _ _ _ _ _ _ _ _ _ hp dp, rat_throw w R _ _ _ _ _ _ _ _ _ _ _ _ (Or.inl rfl) hr dr⟩
  · exact ⟨AV.zero, _, _, pat_throw1 w h _ _ _ _ _ _ _ _ _ _ _ hp dp, rat_throw w R _ _ _ _ _ _ _ _ _ _ _ _ (Or.inr rfl) hr dr⟩
  have k0 : (yk == 0) = false := by simp; omega
  have k1 : (yk == 1) = false := by simp; omega
  have k5 : (yk == 5) = false := by simp; omega
  rcases (show zk = 4 ∨ zk = 3 ∨ (zk ≠ 3 ∧ zk ≠ 4) by omega) with rfl | rfl | ⟨z3, z4⟩
  · obtain ⟨r, t, f, g1, g2⟩ := G
    exact ⟨r, t, f, pat_get w h _ _ _ _ _ _ _ _ _ _ _ _ _ _ _ _ k0 k1 hp dp g1, rat_get w R _ _ _ _ _ _ _ _ _ _ _ _ k0 k1 rfl r t f hr dr g2⟩
  · by_cases h4 : yk = 4
    · subst h4
      have P := pat_rune w h _ _ _ _ _ _ _ _ _ _ hs hp dp A
      unfold runeV at P
      by_cases hz : zn < 0
      · rw [runeAt_none ys zn (fun j _ => by omega)] at P
        exact ⟨AV.zero, _, _, P, rat_rune_lo w R _ _ _ _ _ _ _ _ _ _ hs hz hr dr⟩
      · by_cases hz2 : ((rowsP 0 ys.data.toList).length : Int) ≤ zn
        · rw [runeAt_none ys zn (fun j _ => by omega)] at P
          exact ⟨AV.zero, _, _, P, rat_rune_hi w R _ _ _ _ _ _ _ _ _ _ hs (by omega) hz2 hr dr⟩
        · obtain ⟨k, rfl⟩ : ∃ k : Nat, zn = (k : Int) := ⟨zn.toNat, by omega⟩
          have hlt : k < (rowsP 0 ys.data.toList).length := by omega
          rw [runeAt_at ys k hlt] at P
          obtain ⟨r, hr0⟩ : ∃ r : Int, (rowsP 0 ys.data.toList)[k].2.1 = r := ⟨_, rfl⟩
          rw [hr0] at P
          dsimp only at P
          exact ⟨⟨4, 0, Utf8.encode r⟩, ⟨#[]⟩, 0, P, rat_rune w R _ _ _ _ _ _ _ _ _ hs k r hlt hr0 hr dr⟩
    · have k4 : (yk == 4) = false := by simpa using h4
      exact ⟨AV.zero, _, _, pat_none w h _ _ _ _ _ _ _ _ _ _ _ k0 k1 k4 hp dp A, rat_none w R _ _ _ _ _ _ _ _ _ _ _ _ k0 k1 k4 k5 rfl hr dr⟩
  · exact ⟨AV.zero, _, _, pat_index w h _ _ _ _ _ _ _ _ _ _ _ _ k0 k1 (by simpa using z4) (by simpa using z3) hp dp, rat_index w R _ _ _ _ _ _ _ _ _ _ _ _ k0 k1 (by simpa using z4) (by simpa using z3) hr dr⟩

set_option maxRecDepth 100000 in
theorem em_set {w : World} {h : Value} {R : Nat} {x y : AV} (B : Bare w h) (C : Counts w h R x y) (key : ByteArray) (t : AV) : ∃ (e : ByteArray) (f : Int),
    (∀ x' : AV, Says w nowhere anyW 20 #[h, x'.v, .string key, t.v] (.tuple #[.string e, .int .i64 f])) ∧ Says w nowhere anyW 25 #[rp R, x.v, .string key, t.v] (outV AV.zero e f) := by
  have h5 : (y.k != 5) = true := by simpa using C.no
  exact ⟨_, _, fun x' => pset_throw w h _ _ _ _ _ _ key (B.thing _ _ _), rset_throw w R _ _ _ _ _ _ _ _ _ key h5 C.r⟩

set_option maxRecDepth 100000 in
theorem em_put {w : World} {h : Value} {R : Nat} {x y i z : AV} (B : Bare w h) (C : Counts w h R x y) (Cy : Counts w h R y y) (D : Counts w h R i z) (t : AV) : ∃ (e : ByteArray) (f : Int),
    Says w nowhere anyW 30 #[h, x.v, i.v, t.v] (.tuple #[.string e, .int .i64 f]) ∧ Says w nowhere anyW 31 #[rp R, x.v, i.v, t.v] (outV AV.zero e f) := by
  have y5 : (y.k == 5) = false := by simpa using C.no
  have S := em_set B Cy z.s t
  obtain ⟨zk, zn, zs⟩ := z
  obtain ⟨dp, dr, di, d5, did, _⟩ := D
  by_cases h4 : zk = 4
  · subst h4
    obtain ⟨e, f, s1, s2⟩ := S
    exact ⟨e, f, pput_set w h _ _ _ _ _ _ _ _ _ _ _ e f dp (em_array B x) (s1 x), rput_set w R _ _ _ _ _ _ _ _ _ _ _ _ _ _ y5 AV.zero e f C.r dr s2⟩
  · have k4 : (zk == 4) = false := by simpa using h4
    exact ⟨_, _, pput_throw w h _ _ _ _ _ _ _ _ _ _ _ _ k4 dp (em_array B x), rput_throw w R _ _ _ _ _ _ _ _ _ _ _ _ _ _ _ y5 k4 C.r dr⟩

set_option maxRecDepth 100000 in
theorem em_typeof {w : World} {h : Value} {R : Nat} {x y : AV} (C : Counts w h R x y) : ∃ t : ByteArray,
    Says w nowhere anyW 18 #[h, x.v] (.string t) ∧ Says w nowhere anyW 34 #[rp R, x.v] (.string t) := by
  obtain ⟨yk, yn, ys⟩ := y
  obtain ⟨hp, hr, hi, h5, hid, _⟩ := C
  have hk := kinds_of hi h5
  dsimp only at hk
  rcases hk with rfl | rfl | rfl | rfl | rfl
  · exact ⟨_, ptypeof_0 w h _ _ _ _ _ hp, rtypeof_0 w R _ _ _ _ _ hr⟩
  · exact ⟨_, ptypeof_1 w h _ _ _ _ _ hp, rtypeof_1 w R _ _ _ _ _ hr⟩
  · exact ⟨_, ptypeof_2 w h _ _ _ _ _ hp, rtypeof_2 w R _ _ _ _ _ hr⟩
  · exact ⟨_, ptypeof_3 w h _ _ _ _ _ hp, rtypeof_3 w R _ _ _ _ _ hr⟩
  · exact ⟨_, ptypeof_4 w h _ _ _ _ _ hp, rtypeof_4 w R _ _ _ _ _ hr⟩

set_option maxRecDepth 100000 in
theorem em_show {w : World} {a : Option Addr} {R : Nat} {x y : AV} (B : Bare w (.pointer a)) (C : Counts w (.pointer a) R x y) (hTab : Tab w) : ∃ t : ByteArray,
    Says w nowhere anyW 12 #[.pointer a, x.v] (.string t) ∧ Says w nowhere anyW 13 #[rp R, x.v] (.string t) := by
  obtain ⟨hp, hr, hi, h5, hid, _⟩ := C
  by_cases h4 : y.k = 4
  · obtain ⟨yk, yn, ys⟩ := y
    dsimp only at h4
    subst h4
    exact ⟨ys, pshow_str w _ _ _ _ _ _ hp, rshow_str w R _ _ _ _ _ hr⟩
  · have e : textP y = textB y := by unfold textP; rw [hid]
    have hw := rwithin_plain w R y.k y.n y.s 0 (by simpa using h4) (by simpa using h5)
    rw [show textP ⟨y.k, y.n, y.s⟩ = textB y from e] at hw
    have hsz : (textB y).size ≤ 65536 := by
      have := (textB_small y h4 h5 hi).2
      have e2 : (textB y).data.toList.length = (textB y).size := by rw [Array.length_toList]; rfl
      omega
    exact ⟨textB y, pshow_plain w a _ _ _ y h4 h5 hi (hid true) hTab hp (B.thing _ _ _), rshow_fits w R _ _ _ _ _ _ (textB y) (by simpa using h4) hsz hr hw⟩

set_option maxRecDepth 100000 in
theorem em_does {w : World} {a : Option Addr} {R : Nat} (B : Bare w (.pointer a)) (hR : RBlk w R 0 0 none 0 0) (hTab : Tab w) (sk sn sm vk vn : Int) (vs : ByteArray) (uk un : Int) (us : ByteArray) (xk xn : Int) (xs key : ByteArray)
    (hs : vs.size ≤ 1000000) :
    Says w nowhere anyW 10 #[.pointer a, rp R, .agg #[.int .i64 sk, .int .i64 sn, .int .i64 sm, .int .i64 vk, .int .i64 vn, .string vs, .int .i64 uk, .int .i64 un, .string us, .int .i64 xk, .int .i64 xn, .string xs, .string key]] (.bool true) := by
  have CV := counts_of B hR ⟨vk, vn, vs⟩
  have CU := counts_of B hR ⟨uk, un, us⟩
  have CY := counts_of B hR (plainV false ⟨vk, vn, vs⟩)
  rw [plainV_idem false false] at CY
  have hys : (plainV false ⟨vk, vn, vs⟩).s.size ≤ 1000000 := Nat.le_trans CV.size hs
  have noT : ∀ n : Int, Says w nowhere anyW 41 #[rp R, .int .i64 n] (.bool false) := fun n => rthere_any w R 0 0 none 0 0 hR n false (by
    have : (decide ((0 : Int) ≤ n) && decide (n < ((0 : Nat) : Int))) = false := by
      by_cases h0 : 0 ≤ n
      · simp; try omega
      · simp [h0]
    exact this.symm)
  have rk := fun n => rkind_no w R n (noT n)
  have arr := fun n => parray_nil w (.pointer a) 5 n ⟨#[]⟩ (B.thing _ _ _)
  by_cases e1 : sk = 1
  · subst e1
    exact does_make w _ R sn sm vk vn vs uk un us xk xn xs key _ _ (B.make _ _) (rmake_full w R 0 0 none 0 0 sn sm hR (by omega))
  by_cases e2 : sk = 2
  · subst e2
    obtain ⟨r, t, f, g1, g2⟩ := em_get B CV hys key
    exact does_get w _ R sn sm vk vn vs uk un us xk xn xs key _ _ _ _ _ g1 g2
  by_cases e3 : sk = 3
  · subst e3
    obtain ⟨t, f, g1, g2⟩ := em_set B CV key ⟨uk, un, us⟩
    exact does_set w _ R sn sm vk vn vs uk un us xk xn xs key _ _ (g1 ⟨vk, vn, vs⟩) g2
  by_cases e4 : sk = 4
  · subst e4
    exact does_has_false w _ R sn sm vk vn vs uk un us xk xn xs key _ _ (phas_throw w _ _ _ _ key (B.thing _ _ _)) (rhas_throw w R _ _ _ _ _ _ key (by simpa using CV.no) CV.r)
  by_cases e5 : sk = 5
  · subst e5
    obtain ⟨r, t, f, g1, g2⟩ := em_at B CV CY CU hys
    exact does_at w _ R sn sm vk vn vs uk un us xk xn xs key _ _ _ _ _ g1 g2
  by_cases e6 : sk = 6
  · subst e6
    obtain ⟨t, f, g1, g2⟩ := em_put B CV CY CU ⟨xk, xn, xs⟩
    exact does_put w _ R sn sm vk vn vs uk un us xk xn xs key _ _ g1 g2
  by_cases e7 : sk = 7
  · subst e7
    exact does_push w _ R sn sm vk vn vs uk un us xk xn xs key _ _ (ppush_no w _ sn _ _ _ (arr sn)) (rpush_no w R sn 0 _ _ _ rfl (rk sn))
  by_cases e8 : sk = 8
  · subst e8
    exact does_len w _ R sn sm vk vn vs uk un us xk xn xs key _ _ (plen_no w _ sn (arr sn)) (rlen_no w R sn 0 rfl (rk sn)) (pkind_no w _ sn (B.thing _ _ _)) (rk sn)
  by_cases e9 : sk = 9
  · subst e9
    obtain ⟨t, g1, g2⟩ := em_typeof CV
    exact does_typeof w _ R sn sm vk vn vs uk un us xk xn xs key _ g1 g2
  · obtain ⟨t, g1, g2⟩ := em_show B CV hTab
    exact does_show w _ R sn sm vk vn vs uk un us xk xn xs key _ sk (by simpa using e1) (by simpa using e2) (by simpa using e3) (by simpa using e4) (by simpa using e5) (by simpa using e6) (by simpa using e7) (by simpa using e8) (by simpa using e9) g1 g2
end Go.Proofs.YtlimgecmolhdhaaGreatDoor
