/- The program's heap at what is no thing: plain, array, Get, Set, Has, Push, Len, Kind, Typeof. -/
import Derived.Test.YtlimgecmolhdhaaGreatDoorGe
import Derived.Test.YtlimgecmolhdhaaGreatDoorAt
import Derived.Test.YtlimgecmolhdhaaGreatDoorTt
set_option linter.unusedVariables false
set_option linter.unusedSimpArgs false
namespace Go.Proofs.YtlimgecmolhdhaaGreatDoor
open Go.RowKit

/-- plain, whatever the value. -/
theorem pplain_any (w : World) (h : Value) (x : AV) (th : Bool) (tv : Value) (hT : x.k = 5 → Says w nowhere anyW 40 #[h, .agg #[.int .i64 x.k, .int .i64 x.n, .string x.s]] tv)
    (htv : (th = true ∧ ∃ ty y, tv = .iface ty y) ∨ (th = false ∧ tv = .nilIface)) :
    Says w nowhere anyW 35 #[h, .agg #[.int .i64 x.k, .int .i64 x.n, .string x.s]] (plainV th x).v := by
  intro W hW _
  obtain ⟨k, n, s⟩ := x
  dsimp only at hT ⊢
  unfold plainV
  dsimp only
  by_cases h1 : k = 1
  · subst h1; rw [if_pos rfl]; exact plain_null h n s W
  rw [if_neg h1]
  by_cases h2 : k = 2
  · subst h2; rw [if_pos rfl]
    by_cases hn : n = 0
    · subst hn; rw [if_pos rfl]; exact plain_bool0 h s W
    · rw [if_neg hn]; exact plain_bool1 h n s hn W
  rw [if_neg h2]
  by_cases h3 : k = 3
  · subst h3; rw [if_pos rfl]
    by_cases a : n ≤ -9007199254740991
    · rw [show max (-9007199254740991) (min 9007199254740991 n) = -9007199254740991 by omega]; exact plain_num_lo h n s W a
    · by_cases b : n < 9007199254740991
      · rw [show max (-9007199254740991) (min 9007199254740991 n) = n by omega]; exact plain_num_mid h n s W (by omega) b
      · rw [show max (-9007199254740991) (min 9007199254740991 n) = 9007199254740991 by omega]; exact plain_num_hi h n s W (by omega)
  rw [if_neg h3]
  by_cases h4 : k = 4
  · subst h4; rw [if_pos rfl]; exact plain_str h n s W
  rw [if_neg h4]
  by_cases h5 : k = 5
  · subst h5
    have hT := hT rfl
    rcases htv with ⟨rfl, ty, y, rfl⟩ | ⟨rfl, rfl⟩
    · rw [if_pos ⟨rfl, rfl⟩]; exact plain_ref_some h n s W ty y (fun W' h' => hT W' (hW.old h') trivial)
    · rw [if_neg (by simp)]; exact plain_ref_none h n s W (fun W' h' => hT W' (hW.old h') trivial)
  rw [if_neg (fun e => h5 e.1)]
  exact plain_none h k n s (by simpa using h1) (by simpa using h2) (by simpa using h3) (by simpa using h4) (by simpa using h5) W

/-- Variables in blocks of their own, laid when the call began. -/
structure Boxes (W V : World) (l : List Obj) : Prop where
  old : Old W V
  get : ∀ i o, l[i]? = some o → V.heap[W.heap.size + i]? = some o
theorem Boxes.later {W V V' : World} {l : List Obj} (h : Boxes W V l) (hO : Old V V') : Boxes W V' l := ⟨h.old.old hO, fun i o hi => hO.at (h.get i o hi) (fun f => f)⟩
theorem Boxes.three {W V : World} {l : List Obj} (h : Boxes W V l) (i : Nat) (x y z : Value) (t : TypeId) (hi : l[i]? = some (.cells #[x, y, z] t (0, 0))) (a b c : Value) :
    Boxes W (((V.setCell ⟨W.heap.size + i, 0, none⟩ a).setCell ⟨W.heap.size + i, 1, none⟩ b).setCell ⟨W.heap.size + i, 2, none⟩ c) (l.set i (.cells #[a, b, c] t (0, 0))) := by
  refine ⟨((h.old.setCell (Or.inl (by simp)) _).setCell (Or.inl (by simp)) _).setCell (Or.inl (by simp)) _, fun j o hj => ?_⟩
  by_cases e : i = j
  · subst e
    have hl := (List.getElem?_eq_some_iff.1 hi).1
    rw [List.getElem?_set_self hl] at hj
    simp only [Option.some.injEq] at hj
    subst hj
    have h1 := setOf (setOf (setOf (h.get i _ hi) 0 a) 1 b) 2 c
    simpa using h1
  · rw [List.getElem?_set_ne e] at hj
    have := h.get j o hj
    exact heapSet (heapSet (heapSet this _ (by simp; omega) _) _ (by simp; omega) _) _ (by simp; omega) _
theorem Boxes.g0 {W V : World} {o : Obj} {l : List Obj} (h : Boxes W V (o :: l)) : V.heap[W.heap.size]? = some o := h.get 0 o rfl
theorem Boxes.g1 {W V : World} {o p : Obj} {l : List Obj} (h : Boxes W V (o :: p :: l)) : V.heap[W.heap.size + 1]? = some p := h.get 1 p rfl
theorem Boxes.g2 {W V : World} {o p q : Obj} {l : List Obj} (h : Boxes W V (o :: p :: q :: l)) : V.heap[W.heap.size + 1 + 1]? = some q := h.get 2 q rfl
theorem Boxes.three0 {W V : World} {x y z : Value} {t : TypeId} {l : List Obj} (h : Boxes W V (.cells #[x, y, z] t (0, 0) :: l)) (a b c : Value) :
    Boxes W (((V.setCell ⟨W.heap.size, 0, none⟩ a).setCell ⟨W.heap.size, 1, none⟩ b).setCell ⟨W.heap.size, 2, none⟩ c) (.cells #[a, b, c] t (0, 0) :: l) := h.three 0 x y z t rfl a b c
theorem Boxes.three1 {W V : World} {o : Obj} {x y z : Value} {t : TypeId} {l : List Obj} (h : Boxes W V (o :: .cells #[x, y, z] t (0, 0) :: l)) (a b c : Value) :
    Boxes W (((V.setCell ⟨W.heap.size + 1, 0, none⟩ a).setCell ⟨W.heap.size + 1, 1, none⟩ b).setCell ⟨W.heap.size + 1, 2, none⟩ c) (o :: .cells #[a, b, c] t (0, 0) :: l) := h.three 1 x y z t rfl a b c
theorem Boxes.start1 (W : World) (o : Obj) : Boxes W (W.alloc o) [o] :=
  ⟨(Fr.refl _ _).alloc _, fun i x hi => by
    match i, hi with
    | 0, hi => simp at hi; subst hi; exact heapNew W _
    | i + 1, hi => simp at hi⟩
theorem Boxes.start2 (W : World) (o p : Obj) : Boxes W ((W.alloc o).alloc p) [o, p] :=
  ⟨((Fr.refl _ _).alloc _).alloc _, fun i x hi => by
    match i, hi with
    | 0, hi => simp at hi; subst hi; exact heapAlloc (heapNew W _) _
    | 1, hi => simp at hi; subst hi; exact heapNew1 W _ _
    | i + 2, hi => simp at hi⟩
theorem Boxes.start3 (W : World) (o p q : Obj) : Boxes W (((W.alloc o).alloc p).alloc q) [o, p, q] :=
  ⟨(((Fr.refl _ _).alloc _).alloc _).alloc _, fun i x hi => by
    match i, hi with
    | 0, hi => simp at hi; subst hi; exact heapAlloc (heapAlloc (heapNew W _) _) _
    | 1, hi => simp at hi; subst hi; exact heapAlloc (heapNew1 W _ _) _
    | 2, hi => simp at hi; subst hi; simpa using heapNew ((W.alloc o).alloc p) q
    | i + 3, hi => simp at hi⟩
theorem Boxes.lt {W V : World} {l : List Obj} (h : Boxes W V l) (i : Nat) (hi : i < l.length) : W.heap.size + i < V.heap.size := ltOf (h.get i _ (List.getElem?_eq_getElem hi))

set_option maxRecDepth 100000 in
set_option maxHeartbeats 400000 in
theorem parray_nil (w : World) (h : Value) (k n : Int) (s : ByteArray)
    (hT : Says w nowhere anyW 40 #[h, .agg #[.int .i64 k, .int .i64 n, .string s]] .nilIface) :
    Says w nowhere anyW 42 #[h, .agg #[.int .i64 k, .int .i64 n, .string s]] (.pointer none) := by
  intro W hO _
  have q1 := ta_nil_arr
  go_enter Tryz.func42, Tryz.ntmps42
  go_wp2_with (go_at_call 40; refine (hT _ (hO.alloc _) trivial).mono ?_; rintro e w1 ⟨rfl, hO1⟩)
  go_ret
  exact ⟨rfl, ((Fr.refl _ _).alloc _).old hO1⟩

set_option maxRecDepth 100000 in
set_option maxHeartbeats 2000000 in
theorem pset_throw (w : World) (h : Value) (xk xn : Int) (xs : ByteArray) (tk tn : Int) (ts key : ByteArray)
    (hT : Says w nowhere anyW 40 #[h, .agg #[.int .i64 xk, .int .i64 xn, .string xs]] (.nilIface)) :
    Says w nowhere anyW 20 #[h, .agg #[.int .i64 xk, .int .i64 xn, .string xs], .string key, .agg #[.int .i64 tk, .int .i64 tn, .string ts]] (.tuple #[.string ⟨#[84, 121, 112, 101, 69, 114, 114, 111, 114, 58, 32, 110, 111, 32, 109, 101, 109, 98, 101, 114, 115]⟩, .int .i64 1]) := by
  intro W hW _
  have HW := Lib.hid hW; clear hW
  have hT' : ∀ W', Old W W' → Calls Tryz.prog 40 #[h, .agg #[.int .i64 xk, .int .i64 xn, .string xs]] W' fun e w' => e = .returned (.nilIface) ∧ Old W' w' := fun W' h' => hT W' (HW.out.old h') trivial
  have HT := Lib.hid hT'; clear hT hT'
  have q1 := ta_nil_obj
  go_enter Tryz.func20, Tryz.ntmps20
  go_wp2_with (go_at_call 40; ((with_reducible refine (HT.out _ ?_).mono ?_)); (exact ((Fr.refl _ _).alloc _).alloc _); rintro e w1 ⟨rfl, hO1⟩)
  go_ret2
  refine ⟨rfl, ?_⟩
  have hFF := (((Fr.refl (fun _ => False) W).alloc (.cells #[.int .i64 xk, .int .i64 xn, .string xs] 34)).alloc (.cells #[.int .i64 tk, .int .i64 tn, .string ts] 34)).old hO1
  repeat (first | exact hFF | refine Fr.setCell ?_ (Or.inl (by first | (dsimp only; omega) | (simp; omega))) _ | refine Fr.alloc ?_ _)

set_option maxRecDepth 100000 in
set_option maxHeartbeats 2000000 in
theorem phas_throw (w : World) (h : Value) (xk xn : Int) (xs : ByteArray) (key : ByteArray)
    (hT : Says w nowhere anyW 40 #[h, .agg #[.int .i64 xk, .int .i64 xn, .string xs]] (.nilIface)) :
    Says w nowhere anyW 26 #[h, .agg #[.int .i64 xk, .int .i64 xn, .string xs], .string key] (.tuple #[.bool false, .string ⟨#[84, 121, 112, 101, 69, 114, 114, 111, 114, 58, 32, 105, 110]⟩, .int .i64 1]) := by
  intro W hW _
  have HW := Lib.hid hW; clear hW
  have hT' : ∀ W', Old W W' → Calls Tryz.prog 40 #[h, .agg #[.int .i64 xk, .int .i64 xn, .string xs]] W' fun e w' => e = .returned (.nilIface) ∧ Old W' w' := fun W' h' => hT W' (HW.out.old h') trivial
  have HT := Lib.hid hT'; clear hT hT'
  go_enter Tryz.func26, Tryz.ntmps26
  go_wp2_with (go_at_call 40; ((with_reducible refine (HT.out _ ?_).mono ?_)); (exact (Fr.refl _ _).alloc _); rintro e w1 ⟨rfl, hO1⟩)
  go_ret3
  exact ⟨rfl, ((Fr.refl _ _).alloc _).old hO1⟩

set_option maxRecDepth 100000 in
set_option maxHeartbeats 2000000 in
theorem ppush_no (w : World) (h : Value) (ref : Int) (tk tn : Int) (ts : ByteArray)
    (hA : Says w nowhere anyW 42 #[h, .agg #[.int .i64 5, .int .i64 ref, .string ⟨#[]⟩]] (.pointer none)) :
    Says w nowhere anyW 32 #[h, .int .i64 ref, .agg #[.int .i64 tk, .int .i64 tn, .string ts]] (.tuple #[.int .i64 (-1), .int .i64 1]) := by
  intro W hW _
  have HW := Lib.hid hW; clear hW
  have hA' : ∀ W', Old W W' → Calls Tryz.prog 42 #[h, .agg #[.int .i64 5, .int .i64 ref, .string ⟨#[]⟩]] W' fun e w' => e = .returned (.pointer none) ∧ Old W' w' := fun W' h' => hA W' (HW.out.old h') trivial
  have HA := Lib.hid hA'; clear hA hA'
  go_enter Tryz.func32, Tryz.ntmps32
  go_wp2_with (go_at_call 42; ((with_reducible refine (HA.out _ ?_).mono ?_)); (exact (Fr.refl _ _).alloc _); rintro e w1 ⟨rfl, hO1⟩)
  go_ret2
  exact ⟨rfl, ((Fr.refl _ _).alloc _).old hO1⟩

set_option maxRecDepth 100000 in
set_option maxHeartbeats 2000000 in
theorem plen_no (w : World) (h : Value) (ref : Int)
    (hA : Says w nowhere anyW 42 #[h, .agg #[.int .i64 5, .int .i64 ref, .string ⟨#[]⟩]] (.pointer none)) :
    Says w nowhere anyW 16 #[h, .int .i64 ref] (.int .i64 0) := by
  intro W hW _
  have HW := Lib.hid hW; clear hW
  have hA' : ∀ W', Old W W' → Calls Tryz.prog 42 #[h, .agg #[.int .i64 5, .int .i64 ref, .string ⟨#[]⟩]] W' fun e w' => e = .returned (.pointer none) ∧ Old W' w' := fun W' h' => hA W' (HW.out.old h') trivial
  have HA := Lib.hid hA'; clear hA hA'
  go_enter Tryz.func16, Tryz.ntmps16
  go_wp2_with (go_at_call 42; ((with_reducible refine (HA.out _ ?_).mono ?_)); (exact (Fr.refl _ _)); rintro e w1 ⟨rfl, hO1⟩)
  go_ret
  exact ⟨rfl, hO1⟩

set_option maxRecDepth 100000 in
set_option maxHeartbeats 2000000 in
theorem pkind_no (w : World) (h : Value) (ref : Int)
    (hT : Says w nowhere anyW 40 #[h, .agg #[.int .i64 5, .int .i64 ref, .string ⟨#[]⟩]] (.nilIface)) :
    Says w nowhere anyW 14 #[h, .int .i64 ref] (.int .i64 0) := by
  intro W hW _
  have HW := Lib.hid hW; clear hW
  have hT' : ∀ W', Old W W' → Calls Tryz.prog 40 #[h, .agg #[.int .i64 5, .int .i64 ref, .string ⟨#[]⟩]] W' fun e w' => e = .returned (.nilIface) ∧ Old W' w' := fun W' h' => hT W' (HW.out.old h') trivial
  have HT := Lib.hid hT'; clear hT hT'
  go_enter Tryz.func14, Tryz.ntmps14
  go_wp2_with (go_at_call 40; ((with_reducible refine (HT.out _ ?_).mono ?_)); (exact (Fr.refl _ _)); rintro e w1 ⟨rfl, hO1⟩)
  go_ret
  exact ⟨rfl, hO1⟩

set_option maxRecDepth 100000 in
set_option maxHeartbeats 2000000 in
theorem ptypeof_0 (w : World) (h : Value) (xk xn : Int) (xs : ByteArray) (yn : Int) (ys : ByteArray)
    (hP : Says w nowhere anyW 35 #[h, .agg #[.int .i64 xk, .int .i64 xn, .string xs]] (.agg #[.int .i64 0, .int .i64 yn, .string ys])) :
    Says w nowhere anyW 18 #[h, .agg #[.int .i64 xk, .int .i64 xn, .string xs]] (.string ⟨#[117, 110, 100, 101, 102, 105, 110, 101, 100]⟩) := by
  intro W hW _
  have HW := Lib.hid hW; clear hW
  have hP' : ∀ W', Old W W' → Calls Tryz.prog 35 #[h, .agg #[.int .i64 xk, .int .i64 xn, .string xs]] W' fun e w' => e = .returned (.agg #[.int .i64 0, .int .i64 yn, .string ys]) ∧ Old W' w' := fun W' h' => hP W' (HW.out.old h') trivial
  have HP := Lib.hid hP'; clear hP hP'
  go_enter Tryz.func18, Tryz.ntmps18
  go_upto_region 2 with ((go_at_call 35; ((with_reducible refine (HP.out _ ?_).mono ?_)); (exact (Fr.refl _ _).alloc _); rintro e w1 ⟨rfl, hO1⟩; have hB := (Boxes.start1 W (.cells #[.int .i64 xk, .int .i64 xn, .string xs] 34 (0, 0))).later hO1; obtain ⟨p0, p1, p2, e0, e1, e2⟩ := cells3 hB.g0; have hl := ltOf hB.g0; have HB := Lib.hid hB; clear hB))
  refine wp_gen (R := fun V => Boxes W V [(.cells #[.int .i64 0, .int .i64 yn, .string ys] 34 (0, 0))]) (HB.out.three0 _ _ _) ?_
  intro V hV
  clear p0 p1 p2 e0 e1 e2 hl HB
  obtain ⟨p0, p1, p2, -⟩ := cells3 hV.g0
  have HV := Lib.hid hV; clear hV
  go_wp2
  go_ret
  exact ⟨rfl, HV.out.old⟩

set_option maxRecDepth 100000 in
set_option maxHeartbeats 2000000 in
theorem ptypeof_1 (w : World) (h : Value) (xk xn : Int) (xs : ByteArray) (yn : Int) (ys : ByteArray)
    (hP : Says w nowhere anyW 35 #[h, .agg #[.int .i64 xk, .int .i64 xn, .string xs]] (.agg #[.int .i64 1, .int .i64 yn, .string ys])) :
    Says w nowhere anyW 18 #[h, .agg #[.int .i64 xk, .int .i64 xn, .string xs]] (.string ⟨#[111, 98, 106, 101, 99, 116]⟩) := by
  intro W hW _
  have HW := Lib.hid hW; clear hW
  have hP' : ∀ W', Old W W' → Calls Tryz.prog 35 #[h, .agg #[.int .i64 xk, .int .i64 xn, .string xs]] W' fun e w' => e = .returned (.agg #[.int .i64 1, .int .i64 yn, .string ys]) ∧ Old W' w' := fun W' h' => hP W' (HW.out.old h') trivial
  have HP := Lib.hid hP'; clear hP hP'
  go_enter Tryz.func18, Tryz.ntmps18
  go_upto_region 2 with ((go_at_call 35; ((with_reducible refine (HP.out _ ?_).mono ?_)); (exact (Fr.refl _ _).alloc _); rintro e w1 ⟨rfl, hO1⟩; have hB := (Boxes.start1 W (.cells #[.int .i64 xk, .int .i64 xn, .string xs] 34 (0, 0))).later hO1; obtain ⟨p0, p1, p2, e0, e1, e2⟩ := cells3 hB.g0; have hl := ltOf hB.g0; have HB := Lib.hid hB; clear hB))
  refine wp_gen (R := fun V => Boxes W V [(.cells #[.int .i64 1, .int .i64 yn, .string ys] 34 (0, 0))]) (HB.out.three0 _ _ _) ?_
  intro V hV
  clear p0 p1 p2 e0 e1 e2 hl HB
  obtain ⟨p0, p1, p2, -⟩ := cells3 hV.g0
  have HV := Lib.hid hV; clear hV
  go_wp2
  go_ret
  exact ⟨rfl, HV.out.old⟩

set_option maxRecDepth 100000 in
set_option maxHeartbeats 2000000 in
theorem ptypeof_2 (w : World) (h : Value) (xk xn : Int) (xs : ByteArray) (yn : Int) (ys : ByteArray)
    (hP : Says w nowhere anyW 35 #[h, .agg #[.int .i64 xk, .int .i64 xn, .string xs]] (.agg #[.int .i64 2, .int .i64 yn, .string ys])) :
    Says w nowhere anyW 18 #[h, .agg #[.int .i64 xk, .int .i64 xn, .string xs]] (.string ⟨#[98, 111, 111, 108, 101, 97, 110]⟩) := by
  intro W hW _
  have HW := Lib.hid hW; clear hW
  have hP' : ∀ W', Old W W' → Calls Tryz.prog 35 #[h, .agg #[.int .i64 xk, .int .i64 xn, .string xs]] W' fun e w' => e = .returned (.agg #[.int .i64 2, .int .i64 yn, .string ys]) ∧ Old W' w' := fun W' h' => hP W' (HW.out.old h') trivial
  have HP := Lib.hid hP'; clear hP hP'
  go_enter Tryz.func18, Tryz.ntmps18
  go_upto_region 2 with ((go_at_call 35; ((with_reducible refine (HP.out _ ?_).mono ?_)); (exact (Fr.refl _ _).alloc _); rintro e w1 ⟨rfl, hO1⟩; have hB := (Boxes.start1 W (.cells #[.int .i64 xk, .int .i64 xn, .string xs] 34 (0, 0))).later hO1; obtain ⟨p0, p1, p2, e0, e1, e2⟩ := cells3 hB.g0; have hl := ltOf hB.g0; have HB := Lib.hid hB; clear hB))
  refine wp_gen (R := fun V => Boxes W V [(.cells #[.int .i64 2, .int .i64 yn, .string ys] 34 (0, 0))]) (HB.out.three0 _ _ _) ?_
  intro V hV
  clear p0 p1 p2 e0 e1 e2 hl HB
  obtain ⟨p0, p1, p2, -⟩ := cells3 hV.g0
  have HV := Lib.hid hV; clear hV
  go_wp2
  go_ret
  exact ⟨rfl, HV.out.old⟩

set_option maxRecDepth 100000 in
set_option maxHeartbeats 2000000 in
theorem ptypeof_3 (w : World) (h : Value) (xk xn : Int) (xs : ByteArray) (yn : Int) (ys : ByteArray)
    (hP : Says w nowhere anyW 35 #[h, .agg #[.int .i64 xk, .int .i64 xn, .string xs]] (.agg #[.int .i64 3, .int .i64 yn, .string ys])) :
    Says w nowhere anyW 18 #[h, .agg #[.int .i64 xk, .int .i64 xn, .string xs]] (.string ⟨#[110, 117, 109, 98, 101, 114]⟩) := by
  intro W hW _
  have HW := Lib.hid hW; clear hW
  have hP' : ∀ W', Old W W' → Calls Tryz.prog 35 #[h, .agg #[.int .i64 xk, .int .i64 xn, .string xs]] W' fun e w' => e = .returned (.agg #[.int .i64 3, .int .i64 yn, .string ys]) ∧ Old W' w' := fun W' h' => hP W' (HW.out.old h') trivial
  have HP := Lib.hid hP'; clear hP hP'
  go_enter Tryz.func18, Tryz.ntmps18
  go_upto_region 2 with ((go_at_call 35; ((with_reducible refine (HP.out _ ?_).mono ?_)); (exact (Fr.refl _ _).alloc _); rintro e w1 ⟨rfl, hO1⟩; have hB := (Boxes.start1 W (.cells #[.int .i64 xk, .int .i64 xn, .string xs] 34 (0, 0))).later hO1; obtain ⟨p0, p1, p2, e0, e1, e2⟩ := cells3 hB.g0; have hl := ltOf hB.g0; have HB := Lib.hid hB; clear hB))
  refine wp_gen (R := fun V => Boxes W V [(.cells #[.int .i64 3, .int .i64 yn, .string ys] 34 (0, 0))]) (HB.out.three0 _ _ _) ?_
  intro V hV
  clear p0 p1 p2 e0 e1 e2 hl HB
  obtain ⟨p0, p1, p2, -⟩ := cells3 hV.g0
  have HV := Lib.hid hV; clear hV
  go_wp2
  go_ret
  exact ⟨rfl, HV.out.old⟩

set_option maxRecDepth 100000 in
set_option maxHeartbeats 2000000 in
theorem ptypeof_4 (w : World) (h : Value) (xk xn : Int) (xs : ByteArray) (yn : Int) (ys : ByteArray)
    (hP : Says w nowhere anyW 35 #[h, .agg #[.int .i64 xk, .int .i64 xn, .string xs]] (.agg #[.int .i64 4, .int .i64 yn, .string ys])) :
    Says w nowhere anyW 18 #[h, .agg #[.int .i64 xk, .int .i64 xn, .string xs]] (.string ⟨#[115, 116, 114, 105, 110, 103]⟩) := by
  intro W hW _
  have HW := Lib.hid hW; clear hW
  have hP' : ∀ W', Old W W' → Calls Tryz.prog 35 #[h, .agg #[.int .i64 xk, .int .i64 xn, .string xs]] W' fun e w' => e = .returned (.agg #[.int .i64 4, .int .i64 yn, .string ys]) ∧ Old W' w' := fun W' h' => hP W' (HW.out.old h') trivial
  have HP := Lib.hid hP'; clear hP hP'
  go_enter Tryz.func18, Tryz.ntmps18
  go_upto_region 2 with ((go_at_call 35; ((with_reducible refine (HP.out _ ?_).mono ?_)); (exact (Fr.refl _ _).alloc _); rintro e w1 ⟨rfl, hO1⟩; have hB := (Boxes.start1 W (.cells #[.int .i64 xk, .int .i64 xn, .string xs] 34 (0, 0))).later hO1; obtain ⟨p0, p1, p2, e0, e1, e2⟩ := cells3 hB.g0; have hl := ltOf hB.g0; have HB := Lib.hid hB; clear hB))
  refine wp_gen (R := fun V => Boxes W V [(.cells #[.int .i64 4, .int .i64 yn, .string ys] 34 (0, 0))]) (HB.out.three0 _ _ _) ?_
  intro V hV
  clear p0 p1 p2 e0 e1 e2 hl HB
  obtain ⟨p0, p1, p2, -⟩ := cells3 hV.g0
  have HV := Lib.hid hV; clear hV
  go_wp2
  go_ret
  exact ⟨rfl, HV.out.old⟩
end Go.Proofs.YtlimgecmolhdhaaGreatDoor
