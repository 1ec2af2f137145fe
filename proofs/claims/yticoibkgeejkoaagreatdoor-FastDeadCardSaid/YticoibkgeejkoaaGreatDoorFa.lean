/- Closed facts of the row. -/
import Derived.Test.YticoibkgeejkoaaGreatDoorRows
import Derived.JoinedOf
import Derived.SevenTiedAt
set_option linter.unusedVariables false
set_option linter.unusedSimpArgs false
namespace Go.Proofs.YticoibkgeejkoaaGreatDoor
theorem x_laidOutB : laidOutB Tryz.prog = true := by kernel_rfl
theorem x_mapsRowed : mapsRowed Tryz.prog = true := by kernel_rfl
end Go.Proofs.YticoibkgeejkoaaGreatDoor
