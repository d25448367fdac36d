/- Types, plain: their texts and sizes. -/
import Derived.Test.YtmheonaddidbjaaGreatDoorRows
set_option linter.unusedVariables false
set_option linter.unusedSimpArgs false
namespace Go.Proofs.YtmheonaddidbjaaGreatDoor

abbrev Bs := List UInt8
def S (l : Bs) : ByteArray := ⟨l.toArray⟩
theorem S_inj {a b : Bs} (h : S a = S b) : a = b := by
  have : (S a).data.toList = (S b).data.toList := by rw [h]
  simpa [S] using this

inductive Ty where
  | mk (kind : Int) (num : Int) (name : Bs) (parts : List Ty) (names : List Bs) (marks : List Bool)

namespace Ty
def kind : Ty → Int | mk k _ _ _ _ _ => k
def num : Ty → Int | mk _ n _ _ _ _ => n
def name : Ty → Bs | mk _ _ s _ _ _ => s
def parts : Ty → List Ty | mk _ _ _ p _ _ => p
def names : Ty → List Bs | mk _ _ _ _ n _ => n
def marks : Ty → List Bool | mk _ _ _ _ _ m => m
end Ty

/-- Decimal digits of a number from 0 on. -/
def digits (n : Nat) : Bs := if n < 10 then [UInt8.ofNat (48 + n)] else digits (n / 10) ++ [UInt8.ofNat (48 + n % 10)]
def itoa (n : Int) : Bs := if n < 0 then 45 :: digits n.natAbs else digits n.natAbs
def hexd (n : Nat) : UInt8 := UInt8.ofNat (if n < 10 then 48 + n else 87 + n)
def quote1 (c : UInt8) : Bs :=
  if c = 92 ∨ c = 34 then [92, c]
  else if c = 10 then [92, 110]
  else if c = 13 then [92, 114]
  else if c = 9 then [92, 116]
  else if c < 16 then [92, 117, 123, hexd c.toNat, 125]
  else if c < 32 ∨ c = 127 then [92, 117, 123, hexd (c.toNat / 16), hexd (c.toNat % 16), 125]
  else [c]
def quote (s : Bs) : Bs := 34 :: s.flatMap quote1 ++ [34]

def joinB (sep : Bs) : List Bs → Bs
  | [] => []
  | [a] => a
  | a :: r => a ++ sep ++ joinB sep r

def par (s : Bs) : Bs := 40 :: (s ++ [41])
/-- round: in parentheses, if the kind is one of these. -/
def rnd (ks : List Int) (p : Int × Bs) : Bs := if p.1 ∈ ks then par p.2 else p.2

def wordB (k : Int) : Bs :=
  if k = 1 then [97, 110, 121]
  else if k = 2 then [117, 110, 107, 110, 111, 119, 110]
  else if k = 3 then [110, 101, 118, 101, 114]
  else if k = 4 then [118, 111, 105, 100]
  else if k = 5 then [117, 110, 100, 101, 102, 105, 110, 101, 100]
  else if k = 6 then [110, 117, 108, 108]
  else if k = 7 then [110, 117, 109, 98, 101, 114]
  else if k = 8 then [115, 116, 114, 105, 110, 103]
  else if k = 9 then [116, 114, 117, 101]
  else if k = 10 then [102, 97, 108, 115, 101]
  else []

def nmd (nm : Bs) (n : Int) : Bs := nm ++ 35 :: itoa n

def members : List (Int × Bs) → List Bs → List Bool → List Bs
  | p :: r, n :: ns, m :: ms => (n ++ (if m then [63] else []) ++ [58, 32] ++ p.2) :: members r ns ms
  | _, _, _ => []

def params : List (Int × Bs) → List Bool → List Bs
  | p :: r, m :: ms => (if m then rnd [15, 16] p ++ [63] else p.2) :: params r ms
  | _, _ => []

/-- A type's text, by the kinds and texts of its parts. -/
def body (k n : Int) (nm : Bs) (kt : List (Int × Bs)) (ns : List Bs) (ms : List Bool) : Bs :=
  if k = 11 then itoa n
  else if k = 12 then quote nm
  else if k = 13 then rnd [15, 16] (kt.getD 0 (0, [])) ++ [91, 93]
  else if k = 14 then 123 :: (joinB [59, 32] (members kt ns ms) ++ [125])
  else if k = 15 then 40 :: (joinB [44, 32] (params kt ms) ++ [41, 32, 61, 62, 32] ++ (kt.getD (kt.length - 1) (0, [])).2)
  else if k = 16 then joinB [32, 124, 32] (kt.map (rnd [15]))
  else if k = 17 then (if kt.length = 0 then nmd nm n else nmd nm n ++ [60] ++ joinB [44, 32] (kt.map (·.2)) ++ [62])
  else if k = 18 then nm ++ 39 :: itoa n
  else if k = 19 then nm ++ 64 :: itoa n
  else if k = 20 then (kt.getD 0 (0, [])).2 ++ 46 :: nm
  else if k = 21 then [99, 108, 97, 115, 115, 32] ++ nmd nm n
  else if k = 22 then [101, 110, 117, 109, 32] ++ nmd nm n
  else if k = 23 then [110, 97, 109, 101, 115, 112, 97, 99, 101, 32] ++ nmd nm n
  else wordB k

mutual
def tx : Ty → Bs
  | .mk k n nm ps ns ms => body k n nm (kts ps) ns ms
def kts : List Ty → List (Int × Bs)
  | [] => []
  | t :: r => (t.kind, tx t) :: kts r
end

theorem kts_map : ∀ l : List Ty, kts l = l.map fun t => (t.kind, tx t)
  | [] => by simp [kts]
  | t :: r => by simp [kts, kts_map r]

mutual
/-- How large a type is (a million millions at most). -/
def tsz : Ty → Nat
  | .mk _ _ _ ps _ _ => tszs 1 ps
def tszs : Nat → List Ty → Nat
  | n, [] => n
  | n, t :: r => tszs (min (n + tsz t) 1099511627776) r
end

/-- One of the ten. -/
def bas (k : Int) : Ty := .mk k 0 [] [] [] []
theorem tx_bas1 : tx (bas 1) = [97, 110, 121] := by simp [tx, bas, body, kts, wordB]
end Go.Proofs.YtmheonaddidbjaaGreatDoor
