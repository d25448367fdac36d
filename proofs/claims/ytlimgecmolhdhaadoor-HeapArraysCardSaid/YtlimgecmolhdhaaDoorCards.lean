/-
  DERIVED. GIVEN WITH THE SEED: THE CARDS: each row of YtlimgecmolhdhaaDoorRows.lean that lists a variable, with what it lists TIED to the program's text (the seventh form; the later family's looks); each row that meets fmt, with fmt's text TOLD by the authors' own Lean function (tested against real Go, not proved from fmt's source: count such statements apart). THE CARD IS WHAT COUNTS. Prove the row's statement (the work); the ties are given (YtlimgecmolhdhaaDoorTie.lean); close each card by the builder's one call (the guide's Derived/Test/ToyasCard.lean, 'card_holds'). Laid BY PROGRAM, IN A SANDBOX (cutbox-door.mjs). By AI agents, Wed Nov 11 2026. No macro, syntax, notation, axiom, sorry.
-/
import Derived.Test.YtlimgecmolhdhaaDoorRows
import GoSem.ClaimSeven
namespace Go.Proofs.YtlimgecmolhdhaaDoor
namespace Rows

/-- THE TIED CARD OF 'shucklaw15.HeapRoom'. -/
def heapRoomCard : Claim7 := { stood := { row := heapRoomRow, standIns := [], harness := (true, "33a49f54f4fcb41303dbd29792195bfff6e1716f9fcc6d8cdc2605f24e090203"), looks := true }, kinds := [], alts := [], laidByText := true, laidKinds := [.data, .data, .data], laidTests := true, laidLooks := .later }
def HeapRoomCardSaid : Prop := Claim7.holds Tryd.pinned (.plain (OpenSpec.ofChange heapRoomSpec)) heapRoomCard

/-- THE TIED CARD OF 'shucklaw15.HeapBehind'. -/
def heapBehindCard : Claim7 := { stood := { row := heapBehindRow, standIns := [], harness := (true, "33a49f54f4fcb41303dbd29792195bfff6e1716f9fcc6d8cdc2605f24e090203"), looks := true }, kinds := [], alts := [], laidByText := true, laidKinds := [.data, .data, .data], laidTests := true, laidLooks := .later }
def HeapBehindCardSaid : Prop := Claim7.holds Tryd.pinned (.plain (OpenSpec.ofChange heapBehindSpec)) heapBehindCard

/-- THE TIED CARD OF 'shucklaw15.HeapKeeps'. -/
def heapKeepsCard : Claim7 := { stood := { row := heapKeepsRow, standIns := [], harness := (true, "33a49f54f4fcb41303dbd29792195bfff6e1716f9fcc6d8cdc2605f24e090203"), looks := true }, kinds := [], alts := [], laidByText := true, laidKinds := [.data, .data, .data], laidTests := true, laidLooks := .later }
def HeapKeepsCardSaid : Prop := Claim7.holds Tryd.pinned (.plain (OpenSpec.ofChange heapKeepsSpec)) heapKeepsCard

/-- THE TIED CARD OF 'shucklaw15.HeapArrays'. -/
def heapArraysCard : Claim7 := { stood := { row := heapArraysRow, standIns := [], harness := (true, "33a49f54f4fcb41303dbd29792195bfff6e1716f9fcc6d8cdc2605f24e090203"), looks := true }, kinds := [], alts := [], laidByText := true, laidKinds := [.data, .data, .data], laidTests := true, laidLooks := .later }
def HeapArraysCardSaid : Prop := Claim7.holds Tryd.pinned (.plain (OpenSpec.ofChange heapArraysSpec)) heapArraysCard

/-- THE SECOND FORM's CARD OF 'shucklaw15.HeapRoom'. -/
def heapRoomUptoCard : Claim7 := { stood := { row := heapRoomUptoRow, standIns := [], harness := (true, "33a49f54f4fcb41303dbd29792195bfff6e1716f9fcc6d8cdc2605f24e090203"), looks := true }, kinds := [], alts := [], laidByText := true, laidKinds := [.data, .data, .data], laidTests := true, laidLooks := .later }
def HeapRoomUptoCardSaid : Prop := Claim7.holds Tryd.pinned (.plain (OpenSpec.upto heapRoomSpec)) heapRoomUptoCard

/-- THE SECOND FORM's CARD OF 'shucklaw15.HeapBehind'. -/
def heapBehindUptoCard : Claim7 := { stood := { row := heapBehindUptoRow, standIns := [], harness := (true, "33a49f54f4fcb41303dbd29792195bfff6e1716f9fcc6d8cdc2605f24e090203"), looks := true }, kinds := [], alts := [], laidByText := true, laidKinds := [.data, .data, .data], laidTests := true, laidLooks := .later }
def HeapBehindUptoCardSaid : Prop := Claim7.holds Tryd.pinned (.plain (OpenSpec.upto heapBehindSpec)) heapBehindUptoCard

/-- THE SECOND FORM's CARD OF 'shucklaw15.HeapKeeps'. -/
def heapKeepsUptoCard : Claim7 := { stood := { row := heapKeepsUptoRow, standIns := [], harness := (true, "33a49f54f4fcb41303dbd29792195bfff6e1716f9fcc6d8cdc2605f24e090203"), looks := true }, kinds := [], alts := [], laidByText := true, laidKinds := [.data, .data, .data], laidTests := true, laidLooks := .later }
def HeapKeepsUptoCardSaid : Prop := Claim7.holds Tryd.pinned (.plain (OpenSpec.upto heapKeepsSpec)) heapKeepsUptoCard

/-- THE SECOND FORM's CARD OF 'shucklaw15.HeapArrays'. -/
def heapArraysUptoCard : Claim7 := { stood := { row := heapArraysUptoRow, standIns := [], harness := (true, "33a49f54f4fcb41303dbd29792195bfff6e1716f9fcc6d8cdc2605f24e090203"), looks := true }, kinds := [], alts := [], laidByText := true, laidKinds := [.data, .data, .data], laidTests := true, laidLooks := .later }
def HeapArraysUptoCardSaid : Prop := Claim7.holds Tryd.pinned (.plain (OpenSpec.upto heapArraysSpec)) heapArraysUptoCard
end Rows
end Go.Proofs.YtlimgecmolhdhaaDoor
