/- Members: own, set; a value as it counts. -/
import Derived.Test.YtlimgecmolhdhaaGreatDoorHm
import Derived.Test.YtlimgecmolhdhaaGreatDoorMp
set_option linter.unusedVariables false
set_option linter.unusedSimpArgs false
namespace Go.Proofs.YtlimgecmolhdhaaGreatDoor
open Go.RowKit

abbrev strKey (s : ByteArray) : Value := .string s
theorem keyS : KeyT Tryz.prog 9 strKey := keyT_string Tryz.underlying9
theorem zeroV (w : World) : (zeroValue 34).run Tryz.prog w = .ok (.agg #[.int .i64 0, .int .i64 0, .string ⟨#[]⟩]) w := by kernel_rfl

/-- The members of block mb: a map (or none yet) and the keys. -/
def MapV (w : World) (mv : Value) (kvs : List (ByteArray × Value)) : Prop :=
  (mv = .map none ∧ kvs = []) ∨ ∃ bm, mv = .map (some bm) ∧ MapIs strKey w bm kvs

set_option maxHeartbeats 400000 in
theorem own_yes (w : World) (mb bm : Nat) (ks : Value) (kvs : List (ByteArray × Value)) (key : ByteArray) (k n : Int) (s : ByteArray)
    (hm : w.heap[mb]? = some (.cells #[.map (some bm), ks] 94 (0, 0))) (hM : MapIs strKey w bm kvs) (hl : look key kvs = some (.agg #[.int .i64 k, .int .i64 n, .string s])) :
    Calls Tryz.prog 44 #[.pointer (some ⟨mb, 0, none⟩), .string key] w fun e w' => e = .returned (.tuple #[.agg #[.int .i64 k, .int .i64 n, .string s], .bool true]) ∧ Old w w' := by
  have hlt := ltOf hm
  have c0 := cellOf hm 0 _ rfl
  have HM := Lib.hid hm; clear hm
  go_enter Tryz.func44, Tryz.ntmps44
  go_wp2_with (at_lookup; refine wpList_look rfl _ _ true rfl keyS Tryz.underlying91 key rfl rfl (zeroV _) (hM.alloc _) ?_; rw [hl]; dsimp only [Option.getD, Option.isSome, if_true])
  refine bodyPost_ret (v := .tuple #[.agg #[.int .i64 k, .int .i64 n, .string s], .bool true]) (by simp [results, Tryz.results44, go_sem]) rfl ⟨rfl, ?_⟩
  exact ((Fr.refl _ _).alloc _).alloc _

set_option maxHeartbeats 400000 in
theorem own_no (w : World) (mb bm : Nat) (ks : Value) (kvs : List (ByteArray × Value)) (key : ByteArray)
    (hm : w.heap[mb]? = some (.cells #[.map (some bm), ks] 94 (0, 0))) (hM : MapIs strKey w bm kvs) (hl : look key kvs = none) :
    Calls Tryz.prog 44 #[.pointer (some ⟨mb, 0, none⟩), .string key] w fun e w' => e = .returned (.tuple #[.agg #[.int .i64 0, .int .i64 0, .string ⟨#[]⟩], .bool false]) ∧ Old w w' := by
  have hlt := ltOf hm
  have c0 := cellOf hm 0 _ rfl
  have HM := Lib.hid hm; clear hm
  go_enter Tryz.func44, Tryz.ntmps44
  go_wp2_with (at_lookup; refine wpList_look rfl _ _ true rfl keyS Tryz.underlying91 key rfl rfl (zeroV _) (hM.alloc _) ?_; rw [hl]; dsimp only [Option.getD, Option.isSome, if_true])
  refine bodyPost_ret (v := .tuple #[.agg #[.int .i64 0, .int .i64 0, .string ⟨#[]⟩], .bool false]) (by simp [results, Tryz.results44, go_sem]) rfl ⟨rfl, ?_⟩
  exact ((Fr.refl _ _).alloc _).alloc _

set_option maxHeartbeats 400000 in
theorem own_nil (w : World) (mb : Nat) (ks : Value) (key : ByteArray) (hm : w.heap[mb]? = some (.cells #[.map none, ks] 94 (0, 0))) :
    Calls Tryz.prog 44 #[.pointer (some ⟨mb, 0, none⟩), .string key] w fun e w' => e = .returned (.tuple #[.agg #[.int .i64 0, .int .i64 0, .string ⟨#[]⟩], .bool false]) ∧ Old w w' := by
  have hlt := ltOf hm
  have c0 := cellOf hm 0 _ rfl
  have HM := Lib.hid hm; clear hm
  go_enter Tryz.func44, Tryz.ntmps44
  go_wp2_with (at_lookup; refine wpList_look_nil rfl _ _ true rfl keyS Tryz.underlying91 key rfl rfl (zeroV _) ?_; dsimp only [if_true])
  refine bodyPost_ret (v := .tuple #[.agg #[.int .i64 0, .int .i64 0, .string ⟨#[]⟩], .bool false]) (by simp [results, Tryz.results44, go_sem]) rfl ⟨rfl, ?_⟩
  exact ((Fr.refl _ _).alloc _).alloc _

/-- A value, by its parts. -/
structure AV where
  k : Int
  n : Int
  s : ByteArray
@[reducible] def AV.v (x : AV) : Value := .agg #[.int .i64 x.k, .int .i64 x.n, .string x.s]
def AV.zero : AV := ⟨0, 0, ⟨#[]⟩⟩

/-- What own answers of members whose map holds these. -/
def ownIs (key : ByteArray) (kvs : List (ByteArray × Value)) (r : Option AV) : Prop := look key kvs = r.map AV.v
def ownV (r : Option AV) : Value := .tuple #[(r.getD AV.zero).v, .bool r.isSome]

theorem own_any (w : World) (mb : Nat) (mv ks : Value) (kvs : List (ByteArray × Value)) (key : ByteArray) (r : Option AV)
    (hm : w.heap[mb]? = some (.cells #[mv, ks] 94 (0, 0))) (hM : MapV w mv kvs) (hl : ownIs key kvs r) :
    Calls Tryz.prog 44 #[.pointer (some ⟨mb, 0, none⟩), .string key] w fun e w' => e = .returned (ownV r) ∧ Old w w' := by
  rcases hM with ⟨rfl, rfl⟩ | ⟨bm, rfl, hM⟩
  · cases r with
    | none => exact own_nil w mb ks key hm
    | some x => simp [ownIs, look] at hl
  · cases r with
    | none => exact own_no w mb bm ks kvs key hm hM hl
    | some x => exact own_yes w mb bm ks kvs key x.k x.n x.s hm hM hl

/-- What a value counts as: 'there': whether there is a thing of its number. -/
def plainV (there : Bool) (x : AV) : AV :=
  if x.k = 1 then ⟨1, 0, ⟨#[]⟩⟩
  else if x.k = 2 then ⟨2, if x.n = 0 then 0 else 1, ⟨#[]⟩⟩
  else if x.k = 3 then ⟨3, max (-9007199254740991) (min 9007199254740991 x.n), ⟨#[]⟩⟩
  else if x.k = 4 then ⟨4, 0, x.s⟩
  else if x.k = 5 ∧ there = true then ⟨5, x.n, ⟨#[]⟩⟩
  else AV.zero

set_option maxRecDepth 100000 in
set_option maxHeartbeats 400000 in
theorem plain_num_lo (h : Value) (n : Int) (s : ByteArray) (w : World) (hm : n ≤ -9007199254740991) :
    Calls Tryz.prog 35 #[h, .agg #[.int .i64 3, .int .i64 n, .string s]] w fun e w' => e = .returned (.agg #[.int .i64 3, .int .i64 (-9007199254740991), .string ⟨#[]⟩]) ∧ Old w w' := by
  go_enter Tryz.func35, Tryz.ntmps35
  go_wp2_with (go_at_call 47; refine (number_any _ _).mono ?_; rintro e w1 ⟨rfl, hO⟩; have hb := hO.at (heapNew1 w (.cells #[.int .i64 3, .int .i64 n, .string s] 34) (.cells #[.int .i64 0, .int .i64 0, .string ⟨#[]⟩] 34)) (fun f => f); obtain ⟨c0, c1, c2, f0, f1, f2⟩ := cells3 hb; clear hb)
  refine bodyPost_ret (v := .agg #[.int .i64 3, .int .i64 (-9007199254740991), .string ⟨#[]⟩]) (by simp [results, Tryz.results35, go_sem, c0, c1, c2]) rfl ⟨rfl, ?_⟩
  exact Fr.setCell (Fr.setCell (Fr.setCell ((((Fr.refl _ _).alloc _).alloc _).old hO) (Or.inl (by simp)) _) (Or.inl (by simp)) _) (Or.inl (by simp)) _

set_option maxRecDepth 100000 in
set_option maxHeartbeats 400000 in
theorem plain_num_mid (h : Value) (n : Int) (s : ByteArray) (w : World) (hm : -9007199254740991 < n) (hm2 : n < 9007199254740991) :
    Calls Tryz.prog 35 #[h, .agg #[.int .i64 3, .int .i64 n, .string s]] w fun e w' => e = .returned (.agg #[.int .i64 3, .int .i64 n, .string ⟨#[]⟩]) ∧ Old w w' := by
  go_enter Tryz.func35, Tryz.ntmps35
  go_wp2_with (go_at_call 47; refine (number_any _ _).mono ?_; rintro e w1 ⟨rfl, hO⟩; have hb := hO.at (heapNew1 w (.cells #[.int .i64 3, .int .i64 n, .string s] 34) (.cells #[.int .i64 0, .int .i64 0, .string ⟨#[]⟩] 34)) (fun f => f); obtain ⟨c0, c1, c2, f0, f1, f2⟩ := cells3 hb; clear hb)
  refine bodyPost_ret (v := .agg #[.int .i64 3, .int .i64 n, .string ⟨#[]⟩]) (by simp [results, Tryz.results35, go_sem, c0, c1, c2]) rfl ⟨rfl, ?_⟩
  exact Fr.setCell (Fr.setCell (Fr.setCell ((((Fr.refl _ _).alloc _).alloc _).old hO) (Or.inl (by simp)) _) (Or.inl (by simp)) _) (Or.inl (by simp)) _

set_option maxRecDepth 100000 in
set_option maxHeartbeats 400000 in
theorem plain_num_hi (h : Value) (n : Int) (s : ByteArray) (w : World) (hm : 9007199254740991 ≤ n) :
    Calls Tryz.prog 35 #[h, .agg #[.int .i64 3, .int .i64 n, .string s]] w fun e w' => e = .returned (.agg #[.int .i64 3, .int .i64 9007199254740991, .string ⟨#[]⟩]) ∧ Old w w' := by
  go_enter Tryz.func35, Tryz.ntmps35
  go_wp2_with (go_at_call 47; refine (number_any _ _).mono ?_; rintro e w1 ⟨rfl, hO⟩; have hb := hO.at (heapNew1 w (.cells #[.int .i64 3, .int .i64 n, .string s] 34) (.cells #[.int .i64 0, .int .i64 0, .string ⟨#[]⟩] 34)) (fun f => f); obtain ⟨c0, c1, c2, f0, f1, f2⟩ := cells3 hb; clear hb)
  refine bodyPost_ret (v := .agg #[.int .i64 3, .int .i64 9007199254740991, .string ⟨#[]⟩]) (by simp [results, Tryz.results35, go_sem, c0, c1, c2]) rfl ⟨rfl, ?_⟩
  exact Fr.setCell (Fr.setCell (Fr.setCell ((((Fr.refl _ _).alloc _).alloc _).old hO) (Or.inl (by simp)) _) (Or.inl (by simp)) _) (Or.inl (by simp)) _

set_option maxRecDepth 100000 in
set_option maxHeartbeats 400000 in
theorem plain_null (h : Value) (n : Int) (s : ByteArray) (w : World) :
    Calls Tryz.prog 35 #[h, .agg #[.int .i64 1, .int .i64 n, .string s]] w fun e w' => e = .returned (.agg #[.int .i64 1, .int .i64 0, .string ⟨#[]⟩]) ∧ Old w w' := by
  go_enter Tryz.func35, Tryz.ntmps35
  go_wp2
  refine bodyPost_ret (v := .agg #[.int .i64 1, .int .i64 0, .string ⟨#[]⟩]) (by simp [results, Tryz.results35, go_sem]) rfl ⟨rfl, ?_⟩
  exact ((Fr.refl _ _).alloc _).alloc _

set_option maxRecDepth 100000 in
set_option maxHeartbeats 400000 in
theorem plain_str (h : Value) (n : Int) (s : ByteArray) (w : World) :
    Calls Tryz.prog 35 #[h, .agg #[.int .i64 4, .int .i64 n, .string s]] w fun e w' => e = .returned (.agg #[.int .i64 4, .int .i64 0, .string s]) ∧ Old w w' := by
  go_enter Tryz.func35, Tryz.ntmps35
  go_wp2
  refine bodyPost_ret (v := .agg #[.int .i64 4, .int .i64 0, .string s]) (by simp [results, Tryz.results35, go_sem]) rfl ⟨rfl, ?_⟩
  exact ((Fr.refl _ _).alloc _).alloc _

set_option maxRecDepth 100000 in
set_option maxHeartbeats 400000 in
theorem plain_none (h : Value) (k n : Int) (s : ByteArray) (h1 : (k == 1) = false) (h2 : (k == 2) = false) (h3 : (k == 3) = false) (h4 : (k == 4) = false) (h5 : (k == 5) = false) (w : World) :
    Calls Tryz.prog 35 #[h, .agg #[.int .i64 k, .int .i64 n, .string s]] w fun e w' => e = .returned (.agg #[.int .i64 0, .int .i64 0, .string ⟨#[]⟩]) ∧ Old w w' := by
  go_enter Tryz.func35, Tryz.ntmps35
  go_wp2
  refine bodyPost_ret (v := .agg #[.int .i64 0, .int .i64 0, .string ⟨#[]⟩]) (by simp [results, Tryz.results35, go_sem]) rfl ⟨rfl, ?_⟩
  exact ((Fr.refl _ _).alloc _).alloc _

set_option maxRecDepth 100000 in
set_option maxHeartbeats 400000 in
theorem plain_bool0 (h : Value) (s : ByteArray) (w : World) :
    Calls Tryz.prog 35 #[h, .agg #[.int .i64 2, .int .i64 0, .string s]] w fun e w' => e = .returned (.agg #[.int .i64 2, .int .i64 0, .string ⟨#[]⟩]) ∧ Old w w' := by
  go_enter Tryz.func35, Tryz.ntmps35
  go_wp2_with (go_at_call 55; refine (boolean_any _ _).mono ?_; rintro e w1 ⟨rfl, rfl⟩; rw [if_pos rfl])
  refine bodyPost_ret (v := .agg #[.int .i64 2, .int .i64 0, .string ⟨#[]⟩]) (by simp [results, Tryz.results35, go_sem]) rfl ⟨rfl, ?_⟩
  exact ((Fr.refl _ _).alloc _).alloc _

set_option maxRecDepth 100000 in
set_option maxHeartbeats 400000 in
theorem plain_bool1 (h : Value) (n : Int) (s : ByteArray) (hn : n ≠ 0) (w : World) :
    Calls Tryz.prog 35 #[h, .agg #[.int .i64 2, .int .i64 n, .string s]] w fun e w' => e = .returned (.agg #[.int .i64 2, .int .i64 1, .string ⟨#[]⟩]) ∧ Old w w' := by
  go_enter Tryz.func35, Tryz.ntmps35
  go_wp2_with (go_at_call 55; refine (boolean_any _ _).mono ?_; rintro e w1 ⟨rfl, rfl⟩; rw [if_neg hn])
  refine bodyPost_ret (v := .agg #[.int .i64 2, .int .i64 1, .string ⟨#[]⟩]) (by simp [results, Tryz.results35, go_sem]) rfl ⟨rfl, ?_⟩
  exact ((Fr.refl _ _).alloc _).alloc _

set_option maxRecDepth 100000 in
set_option maxHeartbeats 400000 in
theorem plain_ref_none (h : Value) (n : Int) (s : ByteArray) (w : World)
    (hT : ∀ W, Old w W → Calls Tryz.prog 40 #[h, .agg #[.int .i64 5, .int .i64 n, .string s]] W fun e w' => e = .returned .nilIface ∧ Old W w') :
    Calls Tryz.prog 35 #[h, .agg #[.int .i64 5, .int .i64 n, .string s]] w fun e w' => e = .returned (.agg #[.int .i64 0, .int .i64 0, .string ⟨#[]⟩]) ∧ Old w w' := by
  go_enter Tryz.func35, Tryz.ntmps35
  go_wp2_with (go_at_call 40; refine (hT _ (((Fr.refl _ _).alloc _).alloc _)).mono ?_; rintro e w1 ⟨rfl, hO⟩; have hb := hO.at (heapNew1 w (.cells #[.int .i64 5, .int .i64 n, .string s] 34) (.cells #[.int .i64 0, .int .i64 0, .string ⟨#[]⟩] 34)) (fun f => f); obtain ⟨c0, c1, c2, f0, f1, f2⟩ := cells3 hb; clear hb)
  refine bodyPost_ret (v := .agg #[.int .i64 0, .int .i64 0, .string ⟨#[]⟩]) (by simp [results, Tryz.results35, go_sem, c0, c1, c2]) rfl ⟨rfl, ?_⟩
  exact Fr.setCell (Fr.setCell (Fr.setCell ((((Fr.refl _ _).alloc _).alloc _).old hO) (Or.inl (by simp)) _) (Or.inl (by simp)) _) (Or.inl (by simp)) _

set_option maxRecDepth 100000 in
set_option maxHeartbeats 400000 in
theorem plain_ref_some (h : Value) (n : Int) (s : ByteArray) (w : World) (t : TypeId) (y : Value)
    (hT : ∀ W, Old w W → Calls Tryz.prog 40 #[h, .agg #[.int .i64 5, .int .i64 n, .string s]] W fun e w' => e = .returned (.iface t y) ∧ Old W w') :
    Calls Tryz.prog 35 #[h, .agg #[.int .i64 5, .int .i64 n, .string s]] w fun e w' => e = .returned (.agg #[.int .i64 5, .int .i64 n, .string ⟨#[]⟩]) ∧ Old w w' := by
  go_enter Tryz.func35, Tryz.ntmps35
  go_wp2_with (go_at_call 40; refine (hT _ (((Fr.refl _ _).alloc _).alloc _)).mono ?_; rintro e w1 ⟨rfl, hO⟩; have hb := hO.at (heapNew1 w (.cells #[.int .i64 5, .int .i64 n, .string s] 34) (.cells #[.int .i64 0, .int .i64 0, .string ⟨#[]⟩] 34)) (fun f => f); obtain ⟨c0, c1, c2, f0, f1, f2⟩ := cells3 hb; clear hb; have hb := hO.at (heapAlloc (heapNew w (.cells #[.int .i64 5, .int .i64 n, .string s] 34)) (.cells #[.int .i64 0, .int .i64 0, .string ⟨#[]⟩] 34)) (fun f => f); obtain ⟨d0, d1, d2, _, _, _⟩ := cells3 hb; clear hb)
  refine bodyPost_ret (v := .agg #[.int .i64 5, .int .i64 n, .string ⟨#[]⟩]) (by simp [results, Tryz.results35, go_sem, c0, c1, c2]) rfl ⟨rfl, ?_⟩
  exact Fr.setCell (Fr.setCell (Fr.setCell ((((Fr.refl _ _).alloc _).alloc _).old hO) (Or.inl (by simp)) _) (Or.inl (by simp)) _) (Or.inl (by simp)) _

end Go.Proofs.YtlimgecmolhdhaaGreatDoor
