/-
  DERIVED. GIVEN WITH THE SEED: THE CARDS: each row of YtmheonaddidbjaaGreatDoorRows.lean that lists a variable, with what it lists TIED to the program's text (the seventh form; the later family's looks); each row that meets fmt, with fmt's text TOLD by the authors' own Lean function (tested against real Go, not proved from fmt's source: count such statements apart). THE CARD IS WHAT COUNTS. Prove the row's statement (the work); the ties are given (YtmheonaddidbjaaGreatDoorTie.lean); close each card by the builder's one call (the guide's Derived/Test/ToyasCard.lean, 'card_holds'). Laid BY PROGRAM, IN A SANDBOX (cutbox-door.mjs). By AI agents, Wed Nov 11 2026. No macro, syntax, notation, axiom, sorry.
-/
import Derived.Test.YtmheonaddidbjaaGreatDoorRows
import GoSem.ClaimSeven
namespace Go.Proofs.YtmheonaddidbjaaGreatDoor
namespace Rows

/-- THE TIED CARD OF 'shucklaw8.KindsSame'. -/
def kindsSameCard : Claim7 := { stood := { row := kindsSameRow, standIns := [], harness := (true, "e176aa9ed65504825d751b5f5ec593bfea1d4d9c4806f5ef8c2b7a661f2198c0"), looks := false }, kinds := [], alts := [], laidByText := true, laidKinds := [.data, .data, .data], laidTests := true, laidLooks := .later }
def KindsSameCardSaid : Prop := Claim7.holds Tryz.pinned (.plain (OpenSpec.ofChange kindsSameSpec)) kindsSameCard

/-- THE TIED CARD OF 'shucklaw8.KindsOfNothing'. -/
def kindsOfNothingCard : Claim7 := { stood := { row := kindsOfNothingRow, standIns := [], harness := (true, "e176aa9ed65504825d751b5f5ec593bfea1d4d9c4806f5ef8c2b7a661f2198c0"), looks := false }, kinds := [], alts := [], laidByText := true, laidKinds := [.data, .data, .data], laidTests := true, laidLooks := .later }
def KindsOfNothingCardSaid : Prop := Claim7.holds Tryz.pinned (.plain (OpenSpec.ofChange kindsOfNothingSpec)) kindsOfNothingCard

/-- THE TIED CARD OF 'shucklaw9.RelateOfNothing'. -/
def relateOfNothingCard : Claim7 := { stood := { row := relateOfNothingRow, standIns := [], harness := (true, "e176aa9ed65504825d751b5f5ec593bfea1d4d9c4806f5ef8c2b7a661f2198c0"), looks := false }, kinds := [], alts := [], laidByText := true, laidKinds := [.data, .data, .data], laidTests := true, laidLooks := .later }
def RelateOfNothingCardSaid : Prop := Claim7.holds Tryz.pinned (.plain (OpenSpec.ofChange relateOfNothingSpec)) relateOfNothingCard

/-- THE TIED CARD OF 'shucklaw10.NarrowOfNothing'. -/
def narrowOfNothingCard : Claim7 := { stood := { row := narrowOfNothingRow, standIns := [], harness := (true, "e176aa9ed65504825d751b5f5ec593bfea1d4d9c4806f5ef8c2b7a661f2198c0"), looks := false }, kinds := [], alts := [], laidByText := true, laidKinds := [.data, .data, .data], laidTests := true, laidLooks := .later }
def NarrowOfNothingCardSaid : Prop := Claim7.holds Tryz.pinned (.plain (OpenSpec.ofChange narrowOfNothingSpec)) narrowOfNothingCard

/-- THE SECOND FORM's CARD OF 'shucklaw8.KindsSame'. -/
def kindsSameUptoCard : Claim7 := { stood := { row := kindsSameUptoRow, standIns := [], harness := (true, "e176aa9ed65504825d751b5f5ec593bfea1d4d9c4806f5ef8c2b7a661f2198c0"), looks := false }, kinds := [], alts := [], laidByText := true, laidKinds := [.data, .data, .data], laidTests := true, laidLooks := .later }
def KindsSameUptoCardSaid : Prop := Claim7.holds Tryz.pinned (.plain (OpenSpec.upto kindsSameSpec)) kindsSameUptoCard

/-- THE SECOND FORM's CARD OF 'shucklaw8.KindsOfNothing'. -/
def kindsOfNothingUptoCard : Claim7 := { stood := { row := kindsOfNothingUptoRow, standIns := [], harness := (true, "e176aa9ed65504825d751b5f5ec593bfea1d4d9c4806f5ef8c2b7a661f2198c0"), looks := false }, kinds := [], alts := [], laidByText := true, laidKinds := [.data, .data, .data], laidTests := true, laidLooks := .later }
def KindsOfNothingUptoCardSaid : Prop := Claim7.holds Tryz.pinned (.plain (OpenSpec.upto kindsOfNothingSpec)) kindsOfNothingUptoCard

/-- THE SECOND FORM's CARD OF 'shucklaw9.RelateOfNothing'. -/
def relateOfNothingUptoCard : Claim7 := { stood := { row := relateOfNothingUptoRow, standIns := [], harness := (true, "e176aa9ed65504825d751b5f5ec593bfea1d4d9c4806f5ef8c2b7a661f2198c0"), looks := false }, kinds := [], alts := [], laidByText := true, laidKinds := [.data, .data, .data], laidTests := true, laidLooks := .later }
def RelateOfNothingUptoCardSaid : Prop := Claim7.holds Tryz.pinned (.plain (OpenSpec.upto relateOfNothingSpec)) relateOfNothingUptoCard

/-- THE SECOND FORM's CARD OF 'shucklaw10.NarrowOfNothing'. -/
def narrowOfNothingUptoCard : Claim7 := { stood := { row := narrowOfNothingUptoRow, standIns := [], harness := (true, "e176aa9ed65504825d751b5f5ec593bfea1d4d9c4806f5ef8c2b7a661f2198c0"), looks := false }, kinds := [], alts := [], laidByText := true, laidKinds := [.data, .data, .data], laidTests := true, laidLooks := .later }
def NarrowOfNothingUptoCardSaid : Prop := Claim7.holds Tryz.pinned (.plain (OpenSpec.upto narrowOfNothingSpec)) narrowOfNothingUptoCard
end Rows
end Go.Proofs.YtmheonaddidbjaaGreatDoor
