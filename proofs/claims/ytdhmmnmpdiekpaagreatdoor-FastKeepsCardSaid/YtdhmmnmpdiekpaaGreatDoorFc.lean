/- Closed facts of the row. -/
import Derived.Test.YtdhmmnmpdiekpaaGreatDoorRows
import Derived.JoinedOf
import Derived.SevenTiedAt
set_option linter.unusedVariables false
set_option linter.unusedSimpArgs false
namespace Go.Proofs.YtdhmmnmpdiekpaaGreatDoor
theorem x_recurses : (Rows.fastKeepsRow.recurses == Tryz.prog.recurses 3) = true := by kernel_rfl
theorem x_named : (Rows.fastKeepsRow.named == Tryz.prog.varsNamed 3) = true := by kernel_rfl
end Go.Proofs.YtdhmmnmpdiekpaaGreatDoor
