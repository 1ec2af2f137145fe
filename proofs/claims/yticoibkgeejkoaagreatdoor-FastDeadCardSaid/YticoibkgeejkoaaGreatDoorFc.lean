/- Closed facts of the row. -/
import Derived.Test.YticoibkgeejkoaaGreatDoorRows
import Derived.JoinedOf
import Derived.SevenTiedAt
set_option linter.unusedVariables false
set_option linter.unusedSimpArgs false
namespace Go.Proofs.YticoibkgeejkoaaGreatDoor
theorem x_recurses : (Rows.fastDeadRow.recurses == Tryz.prog.recurses 3) = true := by kernel_rfl
theorem x_named : (Rows.fastDeadRow.named == Tryz.prog.varsNamed 3) = true := by kernel_rfl
end Go.Proofs.YticoibkgeejkoaaGreatDoor
