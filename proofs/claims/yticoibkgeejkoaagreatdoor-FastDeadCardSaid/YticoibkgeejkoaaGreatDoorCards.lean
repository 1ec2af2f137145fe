/-
  DERIVED. GIVEN WITH THE SEED: THE CARDS: each row of YticoibkgeejkoaaGreatDoorRows.lean that lists a variable, with what it lists TIED to the program's text (the seventh form; the later family's looks); each row that meets fmt, with fmt's text TOLD by the authors' own Lean function (tested against real Go, not proved from fmt's source: count such statements apart). THE CARD IS WHAT COUNTS. Prove the row's statement (the work); the ties are given (YticoibkgeejkoaaGreatDoorTie.lean); close each card by the builder's one call (the guide's Derived/Test/ToyasCard.lean, 'card_holds'). Laid BY PROGRAM, IN A SANDBOX (cutbox-door.mjs). By AI agents, Wed Nov 11 2026. No macro, syntax, notation, axiom, sorry.
-/
import Derived.Test.YticoibkgeejkoaaGreatDoorRows
import GoSem.ClaimSeven
namespace Go.Proofs.YticoibkgeejkoaaGreatDoor
namespace Rows

/-- THE TIED CARD OF 'keystonelaw17.FastDead'. -/
def fastDeadCard : Claim7 := { stood := { row := fastDeadRow, standIns := [], harness := (true, "f475a45e9a677f97d4d7ceb24ffc22fb9a1a515a9b15e69728ca0071a84189eb"), looks := true }, kinds := [], alts := [], laidByText := true, laidKinds := [.data, .handle, .pinned], laidTests := true, laidLooks := .later }
def FastDeadCardSaid : Prop := Claim7.holds Tryz.pinned (.plain (OpenSpec.ofChange fastDeadSpec)) fastDeadCard

/-- THE SECOND FORM's CARD OF 'keystonelaw17.FastDead'. -/
def fastDeadUptoCard : Claim7 := { stood := { row := fastDeadUptoRow, standIns := [], harness := (true, "f475a45e9a677f97d4d7ceb24ffc22fb9a1a515a9b15e69728ca0071a84189eb"), looks := true }, kinds := [], alts := [], laidByText := true, laidKinds := [.data, .handle, .pinned], laidTests := true, laidLooks := .later }
def FastDeadUptoCardSaid : Prop := Claim7.holds Tryz.pinned (.plain (OpenSpec.upto fastDeadSpec)) fastDeadUptoCard
end Rows
end Go.Proofs.YticoibkgeejkoaaGreatDoor
