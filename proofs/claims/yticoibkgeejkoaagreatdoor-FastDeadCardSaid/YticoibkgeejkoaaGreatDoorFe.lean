/- Closed facts of the row. -/
import Derived.Test.YticoibkgeejkoaaGreatDoorRows
import Derived.JoinedOf
import Derived.SevenTiedAt
set_option linter.unusedVariables false
set_option linter.unusedSimpArgs false
namespace Go.Proofs.YticoibkgeejkoaaGreatDoor
theorem x_stopsHeard : Tryz.prog.stopsHeard = true := by kernel_rfl
theorem x_mayEnter : Tryz.prog.mayEnter = true := by kernel_rfl
theorem x_lifted : (Rows.fastDeadRow.lifted == Tryz.prog.liftsFinal) = true := by kernel_rfl
theorem x_make : (Tryz.prog.make == some Rows.fastDeadRow.make) = true := by kernel_rfl
theorem x_plainKeys : (Rows.fastDeadRow.plainKeys == Tryz.prog.plainKeys) = true := by kernel_rfl
theorem x_namedTie : namedTie Tryz.prog Rows.fastDeadRow.named Rows.fastDeadSpec.vars = true := by kernel_rfl
theorem x_wf : Rows.fastDeadRow.wf (OpenSpec.ofChange Rows.fastDeadSpec) = true := by kernel_rfl
theorem x_wfByText : Rows.fastDeadRow.wfByText (OpenSpec.ofChange Rows.fastDeadSpec) = true := by kernel_rfl
theorem x_looks : true = Tryz.pinned.checked.prog.looks [] := by kernel_rfl
end Go.Proofs.YticoibkgeejkoaaGreatDoor
