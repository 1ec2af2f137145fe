/- Closed facts of the row. -/
import Derived.Test.YticoibkgeejkoaaGreatDoorRows
import Derived.JoinedOf
import Derived.SevenTiedAt
set_option linter.unusedVariables false
set_option linter.unusedSimpArgs false
namespace Go.Proofs.YticoibkgeejkoaaGreatDoor
theorem x_inPlace : (Rows.fastDeadRow.inPlace == Tryz.prog.inPlace 3) = true := by kernel_rfl
theorem x_unfollowed : (Rows.fastDeadRow.unfollowed == Tryz.prog.unfollowed 3) = true := by kernel_rfl
end Go.Proofs.YticoibkgeejkoaaGreatDoor
