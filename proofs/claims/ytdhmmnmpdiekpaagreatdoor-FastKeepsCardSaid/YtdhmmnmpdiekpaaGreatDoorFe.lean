/- Closed facts of the row. -/
import Derived.Test.YtdhmmnmpdiekpaaGreatDoorRows
import Derived.JoinedOf
import Derived.SevenTiedAt
set_option linter.unusedVariables false
set_option linter.unusedSimpArgs false
namespace Go.Proofs.YtdhmmnmpdiekpaaGreatDoor
theorem x_stopsHeard : Tryz.prog.stopsHeard = true := by kernel_rfl
theorem x_mayEnter : Tryz.prog.mayEnter = true := by kernel_rfl
theorem x_lifted : (Rows.fastKeepsRow.lifted == Tryz.prog.liftsFinal) = true := by kernel_rfl
theorem x_make : (Tryz.prog.make == some Rows.fastKeepsRow.make) = true := by kernel_rfl
theorem x_plainKeys : (Rows.fastKeepsRow.plainKeys == Tryz.prog.plainKeys) = true := by kernel_rfl
theorem x_namedTie : namedTie Tryz.prog Rows.fastKeepsRow.named Rows.fastKeepsSpec.vars = true := by kernel_rfl
theorem x_wf : Rows.fastKeepsRow.wf (OpenSpec.ofChange Rows.fastKeepsSpec) = true := by kernel_rfl
theorem x_wfByText : Rows.fastKeepsRow.wfByText (OpenSpec.ofChange Rows.fastKeepsSpec) = true := by kernel_rfl
theorem x_looks : true = Tryz.pinned.checked.prog.looks [] := by kernel_rfl
end Go.Proofs.YtdhmmnmpdiekpaaGreatDoor
