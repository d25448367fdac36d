/-
  DERIVED. GIVEN WITH THE SEED: THE CARDS: each row of YtlimgecmolhdhaaGreatDoorRows.lean that lists a variable, with what it lists TIED to the program's text (the seventh form; the later family's looks); each row that meets fmt, with fmt's text TOLD by the authors' own Lean function (tested against real Go, not proved from fmt's source: count such statements apart). THE CARD IS WHAT COUNTS. Prove the row's statement (the work); the ties are given (YtlimgecmolhdhaaGreatDoorTie.lean); close each card by the builder's one call (the guide's Derived/Test/ToyasCard.lean, 'card_holds'). Laid BY PROGRAM, IN A SANDBOX (cutbox-door.mjs). By AI agents, Wed Nov 11 2026. No macro, syntax, notation, axiom, sorry.
-/
import Derived.Test.YtlimgecmolhdhaaGreatDoorRows
import GoSem.ClaimSeven
namespace Go.Proofs.YtlimgecmolhdhaaGreatDoor
namespace Rows

/-- THE TIED CARD OF 'shucklaw15.HeapPlays'. -/
def heapPlaysCard : Claim7 := { stood := { row := heapPlaysRow, standIns := [], harness := (true, "b3de7284c379108fbc2ff92f1a9a93cfa255d3d4e602850cf83b5fe360f3de28"), looks := true }, kinds := [], alts := [], laidByText := true, laidKinds := [.data, .data, .data], laidTests := true, laidLooks := .later }
def HeapPlaysCardSaid : Prop := Claim7.holds Tryz.pinned (.plain (OpenSpec.ofChange heapPlaysSpec)) heapPlaysCard

/-- THE TIED CARD OF 'shucklaw15.HeapOfNothing'. -/
def heapOfNothingCard : Claim7 := { stood := { row := heapOfNothingRow, standIns := [], harness := (true, "b3de7284c379108fbc2ff92f1a9a93cfa255d3d4e602850cf83b5fe360f3de28"), looks := true }, kinds := [], alts := [], laidByText := true, laidKinds := [.data, .data, .data], laidTests := true, laidLooks := .later }
def HeapOfNothingCardSaid : Prop := Claim7.holds Tryz.pinned (.plain (OpenSpec.ofChange heapOfNothingSpec)) heapOfNothingCard

/-- THE TIED CARD OF 'shucklaw15.HeapTwins'. -/
def heapTwinsCard : Claim7 := { stood := { row := heapTwinsRow, standIns := [], harness := (true, "b3de7284c379108fbc2ff92f1a9a93cfa255d3d4e602850cf83b5fe360f3de28"), looks := true }, kinds := [], alts := [], laidByText := true, laidKinds := [.data, .data, .data], laidTests := true, laidLooks := .later }
def HeapTwinsCardSaid : Prop := Claim7.holds Tryz.pinned (.plain (OpenSpec.ofChange heapTwinsSpec)) heapTwinsCard

/-- THE SECOND FORM's CARD OF 'shucklaw15.HeapPlays'. -/
def heapPlaysUptoCard : Claim7 := { stood := { row := heapPlaysUptoRow, standIns := [], harness := (true, "b3de7284c379108fbc2ff92f1a9a93cfa255d3d4e602850cf83b5fe360f3de28"), looks := true }, kinds := [], alts := [], laidByText := true, laidKinds := [.data, .data, .data], laidTests := true, laidLooks := .later }
def HeapPlaysUptoCardSaid : Prop := Claim7.holds Tryz.pinned (.plain (OpenSpec.upto heapPlaysSpec)) heapPlaysUptoCard

/-- THE SECOND FORM's CARD OF 'shucklaw15.HeapOfNothing'. -/
def heapOfNothingUptoCard : Claim7 := { stood := { row := heapOfNothingUptoRow, standIns := [], harness := (true, "b3de7284c379108fbc2ff92f1a9a93cfa255d3d4e602850cf83b5fe360f3de28"), looks := true }, kinds := [], alts := [], laidByText := true, laidKinds := [.data, .data, .data], laidTests := true, laidLooks := .later }
def HeapOfNothingUptoCardSaid : Prop := Claim7.holds Tryz.pinned (.plain (OpenSpec.upto heapOfNothingSpec)) heapOfNothingUptoCard

/-- THE SECOND FORM's CARD OF 'shucklaw15.HeapTwins'. -/
def heapTwinsUptoCard : Claim7 := { stood := { row := heapTwinsUptoRow, standIns := [], harness := (true, "b3de7284c379108fbc2ff92f1a9a93cfa255d3d4e602850cf83b5fe360f3de28"), looks := true }, kinds := [], alts := [], laidByText := true, laidKinds := [.data, .data, .data], laidTests := true, laidLooks := .later }
def HeapTwinsUptoCardSaid : Prop := Claim7.holds Tryz.pinned (.plain (OpenSpec.upto heapTwinsSpec)) heapTwinsUptoCard
end Rows
end Go.Proofs.YtlimgecmolhdhaaGreatDoor
