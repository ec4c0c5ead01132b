/-
  DERIVED. GIVEN WITH THE SEED: THE CARDS: each row of YtpkggjobdmchlaaGreatDoorRows.lean that lists a variable, with what it lists TIED to the program's text (the seventh form; the later family's looks); each row that meets fmt, with fmt's text TOLD by the authors' own Lean function (tested against real Go, not proved from fmt's source: count such statements apart). THE CARD IS WHAT COUNTS. Prove the row's statement (the work); the ties are given (YtpkggjobdmchlaaGreatDoorTie.lean); close each card by the builder's one call (the guide's Derived/Test/ToyasCard.lean, 'card_holds'). Laid BY PROGRAM, IN A SANDBOX (cutbox-door.mjs). By AI agents, Wed Nov 11 2026. No macro, syntax, notation, axiom, sorry.
-/
import Derived.Test.YtpkggjobdmchlaaGreatDoorRows
import GoSem.ClaimSeven
namespace Go.Proofs.YtpkggjobdmchlaaGreatDoor
namespace Rows

/-- THE TIED CARD OF 'stearintop.TopDipped'. -/
def topDippedCard : Claim7 := { stood := { row := topDippedRow, standIns := [], harness := (true, "b848b2ec16d8f768d89e92036de2e871fc95958d551cc89d9f5db7ecf5c41fb7"), looks := true }, kinds := [], alts := [], laidByText := true, laidKinds := [.data, .data, .data, .data, .sentinel, .sentinel, .pinned], laidTests := true, laidLooks := .later }
def TopDippedCardSaid : Prop := Claim7.holds Tryz.pinned (.plain (OpenSpec.ofChange topDippedSpec)) topDippedCard

/-- THE SECOND FORM's CARD OF 'stearintop.TopDipped'. -/
def topDippedUptoCard : Claim7 := { stood := { row := topDippedUptoRow, standIns := [], harness := (true, "b848b2ec16d8f768d89e92036de2e871fc95958d551cc89d9f5db7ecf5c41fb7"), looks := true }, kinds := [], alts := [], laidByText := true, laidKinds := [.data, .data, .data, .data, .sentinel, .sentinel, .pinned], laidTests := true, laidLooks := .later }
def TopDippedUptoCardSaid : Prop := Claim7.holds Tryz.pinned (.plain (OpenSpec.upto topDippedSpec)) topDippedUptoCard
end Rows
end Go.Proofs.YtpkggjobdmchlaaGreatDoor
