/-
  DERIVED. GIVEN WITH THE SEED: THE CARDS: each row of YtdhmmnmpdiekpaaGreatDoorRows.lean that lists a variable, with what it lists TIED to the program's text (the seventh form; the later family's looks); each row that meets fmt, with fmt's text TOLD by the authors' own Lean function (tested against real Go, not proved from fmt's source: count such statements apart). THE CARD IS WHAT COUNTS. Prove the row's statement (the work); the ties are given (YtdhmmnmpdiekpaaGreatDoorTie.lean); close each card by the builder's one call (the guide's Derived/Test/ToyasCard.lean, 'card_holds'). Laid BY PROGRAM, IN A SANDBOX (cutbox-door.mjs). By AI agents, Wed Nov 11 2026. No macro, syntax, notation, axiom, sorry.
-/
import Derived.Test.YtdhmmnmpdiekpaaGreatDoorRows
import GoSem.ClaimSeven
namespace Go.Proofs.YtdhmmnmpdiekpaaGreatDoor
namespace Rows

/-- THE TIED CARD OF 'keystonelaw17.FastKeeps'. -/
def fastKeepsCard : Claim7 := { stood := { row := fastKeepsRow, standIns := [], harness := (true, "3b25e6ad39406cce1bd91abae12b4cb0bd28879dcdcb5778b2ed20efc3c94afc"), looks := true }, kinds := [], alts := [], laidByText := true, laidKinds := [.data, .handle, .pinned], laidTests := true, laidLooks := .later }
def FastKeepsCardSaid : Prop := Claim7.holds Tryz.pinned (.plain (OpenSpec.ofChange fastKeepsSpec)) fastKeepsCard

/-- THE SECOND FORM's CARD OF 'keystonelaw17.FastKeeps'. -/
def fastKeepsUptoCard : Claim7 := { stood := { row := fastKeepsUptoRow, standIns := [], harness := (true, "3b25e6ad39406cce1bd91abae12b4cb0bd28879dcdcb5778b2ed20efc3c94afc"), looks := true }, kinds := [], alts := [], laidByText := true, laidKinds := [.data, .handle, .pinned], laidTests := true, laidLooks := .later }
def FastKeepsUptoCardSaid : Prop := Claim7.holds Tryz.pinned (.plain (OpenSpec.upto fastKeepsSpec)) fastKeepsUptoCard
end Rows
end Go.Proofs.YtdhmmnmpdiekpaaGreatDoor
