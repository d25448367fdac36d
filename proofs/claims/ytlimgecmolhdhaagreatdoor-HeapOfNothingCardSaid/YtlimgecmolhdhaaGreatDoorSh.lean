/- What a shower says. -/
import Derived.Test.YtlimgecmolhdhaaGreatDoorB
import Derived.Test.YtlimgecmolhdhaaGreatDoorHt
set_option linter.unusedVariables false
set_option linter.unusedSimpArgs false
namespace Go.Proofs.YtlimgecmolhdhaaGreatDoor
open Go.RowKit

/-- A shower in block sb: of a heap, its buffer v; it has said l. -/
def Shw (w : World) (sb : Nat) (hp v : Value) (l : List UInt8) : Prop := ∃ addr, Bld w sb 1 74 #[hp, addr, v] l

/-- From w to w' the shower's buffer has gone from v to v'; nothing else has turned. -/
structure Go2 (sb : Nat) (v v' : Value) (w w' : World) : Prop where
  loc : ∀ g, v'.ownBlock = some g → w.heap.size ≤ g ∨ v.ownBlock = some g
  fr : Fr (fun k => k = sb ∨ v.ownBlock = some k) w w'

theorem Go2.refl (sb : Nat) (v : Value) (w : World) : Go2 sb v v w w := ⟨fun _ h => Or.inr h, Fr.refl _ _⟩
theorem Go2.trans {sb : Nat} {v v' v'' : Value} {a b c : World} (h : Go2 sb v v' a b) (k : Go2 sb v' v'' b c) : Go2 sb v v'' a c :=
  ⟨fun g hg => by
    rcases k.loc g hg with h1 | h1
    · left; have := h.fr.size; omega
    · exact h.loc g h1,
   h.fr.trans k.fr (fun i hi e => by
    rcases e with e | e
    · exact Or.inl e
    · rcases h.loc i e with h1 | h1
      · omega
      · exact Or.inr h1)⟩
theorem Go2.ofOld {sb : Nat} {v : Value} {a b : World} (k : Old a b) : Go2 sb v v a b := ⟨fun _ h => Or.inr h, k.mono (fun _ _ f => f.elim)⟩
theorem Go2.old {sb : Nat} {v v' : Value} {a b c : World} (h : Go2 sb v v' a b) (k : Old b c) : Go2 sb v v' a c := h.trans (.ofOld k)

theorem Shw.old {w w' : World} {sb : Nat} {hp v : Value} {l : List UInt8} (h : Shw w sb hp v l) (k : Old w w') : Shw w' sb hp v l := by
  obtain ⟨a, h⟩ := h
  exact ⟨a, h.kept k (fun f => f) (fun _ _ _ _ f => f)⟩
theorem Shw.lt {w : World} {sb : Nat} {hp v : Value} {l : List UInt8} (h : Shw w sb hp v l) : sb < w.heap.size := by
  obtain ⟨a, h⟩ := h
  exact ltOf h.1
theorem Shw.cell {w : World} {sb : Nat} {hp v : Value} {l : List UInt8} (h : Shw w sb hp v l) : w.cell? ⟨sb, 0, none⟩ = some hp := by
  obtain ⟨a, h⟩ := h
  exact cellOf h.1 0 _ rfl
theorem Shw.ne {w : World} {sb : Nat} {hp v : Value} {l : List UInt8} (h : Shw w sb hp v l) : v.ownBlock ≠ some sb := by
  obtain ⟨a, h1, h2, h3, h4, v', h5, h6, h7⟩ := h
  simp at h5; subst h5; exact h7
theorem Shw.ltv {w : World} {sb : Nat} {hp v : Value} {l : List UInt8} (h : Shw w sb hp v l) : ∀ g, v.ownBlock = some g → g < w.heap.size := by
  obtain ⟨a, h1, h2, h3, h4, v', h5, h6, h7⟩ := h
  simp at h5; subst h5; exact fun g hg => (h6.lt g hg).2

def SaidPost (w : World) (sb : Nat) (hp v : Value) (l : List UInt8) (w' : World) : Prop := ∃ v', Shw w' sb hp v' l ∧ Go2 sb v v' w w'

set_option maxHeartbeats 400000 in
theorem says_no (w : World) (sb : Nat) (hp v : Value) (l : List UInt8) (s : ByteArray) (h : Shw w sb hp v l) (hl : l.length ≤ 65536) (hn : 65536 < l.length + s.size) (hs : s.size ≤ 9223372036854775807) :
    Calls Tryz.prog 56 #[.pointer (some ⟨sb, 0, none⟩), .string s] w fun e w' => e = .returned (.bool false) ∧ w = w' := by
  obtain ⟨addr, hB⟩ := h
  go_enter Tryz.func56, Tryz.ntmps56
  go_wp2_with (go_at_call 66; refine (blen_any sb 1 74 _ l _ hB).mono ?_; rintro e w1 ⟨rfl, rfl⟩)
  go_ret
  exact ⟨rfl, rfl⟩

set_option maxHeartbeats 400000 in
theorem says_yes (w : World) (sb : Nat) (hp v : Value) (l : List UInt8) (s : ByteArray) (h : Shw w sb hp v l) (hn : l.length + s.size ≤ 65536) :
    Calls Tryz.prog 56 #[.pointer (some ⟨sb, 0, none⟩), .string s] w fun e w' => e = .returned (.bool true) ∧ SaidPost w sb hp v (l ++ s.data.toList) w' := by
  obtain ⟨addr, hB⟩ := h
  go_enter Tryz.func56, Tryz.ntmps56
  go_wp2_with (first | (go_at_call 66; refine (blen_any sb 1 74 _ l _ hB).mono ?_; rintro e w1 ⟨rfl, rfl⟩) | (go_at_call 67; refine (write_str sb 1 74 _ l s _ hB (by omega)).mono ?_; rintro e w1 ⟨rfl, hW⟩))
  go_ret
  refine ⟨rfl, ?_⟩
  obtain ⟨v', h1, h2, h3⟩ := hW
  refine ⟨v', ⟨_, h1⟩, fun g hg => ?_, h3.mono (fun i _ h => h.imp id (fun ⟨u, hu, hg⟩ => by simp at hu; subst hu; exact hg))⟩
  exact (h2 g hg).imp id (fun ⟨u, hu, hg⟩ => by simp at hu; subst hu; exact hg)
end Go.Proofs.YtlimgecmolhdhaaGreatDoor
