/-
  DERIVED. GIVEN WITH THE SEED: THE CARDS: each row of YtpbjpochjagicaaGreatDoorRRRows.lean that lists a variable, with what it lists TIED to the program's text (the seventh form; the later family's looks); each row that meets fmt, with fmt's text TOLD by the authors' own Lean function (tested against real Go, not proved from fmt's source: count such statements apart). THE CARD IS WHAT COUNTS. Prove the row's statement (the work); the ties are given (YtpbjpochjagicaaGreatDoorRRTie.lean); close each card by the builder's one call (the guide's Derived/Test/ToyasCard.lean, 'card_holds'). Laid BY PROGRAM, IN A SANDBOX (cutbox-door.mjs). By AI agents, Wed Nov 11 2026. No macro, syntax, notation, axiom, sorry.
-/
import Derived.Test.YtpbjpochjagicaaGreatDoorRRRows
import GoSem.ClaimSeven
namespace Go.Proofs.YtpbjpochjagicaaGreatDoorRR
namespace Rows

/-- THE TIED CARD OF 'couchettelaw02.LineKnown'. -/
def lineKnownCard : Claim7 := { stood := { row := lineKnownRow, standIns := [], harness := (true, "bd06380968974efa240e7af1ff1b6b606219f7cf10d038e494c7e00dd1bd5b1a"), looks := false }, kinds := [], alts := [], laidByText := true, laidKinds := [.data, .data, .data], laidTests := true, laidLooks := .later }
def LineKnownCardSaid : Prop := Claim7.holds Tryz.pinned (.plain (OpenSpec.ofChange lineKnownSpec)) lineKnownCard

/-- THE SECOND FORM's CARD OF 'couchettelaw02.LineKnown'. -/
def lineKnownUptoCard : Claim7 := { stood := { row := lineKnownUptoRow, standIns := [], harness := (true, "bd06380968974efa240e7af1ff1b6b606219f7cf10d038e494c7e00dd1bd5b1a"), looks := false }, kinds := [], alts := [], laidByText := true, laidKinds := [.data, .data, .data], laidTests := true, laidLooks := .later }
def LineKnownUptoCardSaid : Prop := Claim7.holds Tryz.pinned (.plain (OpenSpec.upto lineKnownSpec)) lineKnownUptoCard
end Rows
end Go.Proofs.YtpbjpochjagicaaGreatDoorRR
