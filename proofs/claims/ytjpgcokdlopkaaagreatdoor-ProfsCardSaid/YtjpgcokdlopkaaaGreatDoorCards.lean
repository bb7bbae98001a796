/-
  DERIVED. GIVEN WITH THE SEED: THE CARDS: each row of YtjpgcokdlopkaaaGreatDoorRows.lean that lists a variable, with what it lists TIED to the program's text (the seventh form; the later family's looks); each row that meets fmt, with fmt's text TOLD by the authors' own Lean function (tested against real Go, not proved from fmt's source: count such statements apart). THE CARD IS WHAT COUNTS. Prove the row's statement (the work); the ties are given (YtjpgcokdlopkaaaGreatDoorTie.lean); close each card by the builder's one call (the guide's Derived/Test/ToyasCard.lean, 'card_holds'). Laid BY PROGRAM, IN A SANDBOX (cutbox-door.mjs). By AI agents, Wed Nov 11 2026. No macro, syntax, notation, axiom, sorry.
-/
import Derived.Test.YtjpgcokdlopkaaaGreatDoorRows
import GoSem.ClaimSeven
namespace Go.Proofs.YtjpgcokdlopkaaaGreatDoor
namespace Rows

/-- THE TIED CARD OF 'swagelaw9.Profs'. -/
def profsCard : Claim7 := { stood := { row := profsRow, standIns := [], harness := (true, "1cd52fdff461b8ca6b3da857548b9d2ce9bb170841b466664a68b0ec5ca3fa5d"), looks := true }, kinds := [], alts := [], laidByText := true, laidKinds := [.handle], laidTests := true, laidLooks := .later }
def ProfsCardSaid : Prop := Claim7.holds Tryz.pinned (.plain (OpenSpec.ofChange profsSpec)) profsCard

/-- THE SECOND FORM's CARD OF 'swagelaw9.Profs'. -/
def profsUptoCard : Claim7 := { stood := { row := profsUptoRow, standIns := [], harness := (true, "1cd52fdff461b8ca6b3da857548b9d2ce9bb170841b466664a68b0ec5ca3fa5d"), looks := true }, kinds := [], alts := [], laidByText := true, laidKinds := [.handle], laidTests := true, laidLooks := .later }
def ProfsUptoCardSaid : Prop := Claim7.holds Tryz.pinned (.plain (OpenSpec.upto profsSpec)) profsUptoCard
end Rows
end Go.Proofs.YtjpgcokdlopkaaaGreatDoor
