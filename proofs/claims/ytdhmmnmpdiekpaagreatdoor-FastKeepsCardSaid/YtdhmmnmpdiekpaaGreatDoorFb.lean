/- Closed facts of the row. -/
import Derived.Test.YtdhmmnmpdiekpaaGreatDoorRows
import Derived.JoinedOf
import Derived.SevenTiedAt
set_option linter.unusedVariables false
set_option linter.unusedSimpArgs false
namespace Go.Proofs.YtdhmmnmpdiekpaaGreatDoor
theorem x_inPlace : (Rows.fastKeepsRow.inPlace == Tryz.prog.inPlace 3) = true := by kernel_rfl
theorem x_unfollowed : (Rows.fastKeepsRow.unfollowed == Tryz.prog.unfollowed 3) = true := by kernel_rfl
end Go.Proofs.YtdhmmnmpdiekpaaGreatDoor
