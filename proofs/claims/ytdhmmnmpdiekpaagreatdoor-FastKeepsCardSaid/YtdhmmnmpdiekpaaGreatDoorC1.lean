/- FastKeeps: cases, part 1. -/
import Derived.Test.YtdhmmnmpdiekpaaGreatDoorOD
set_option linter.unusedVariables false
set_option linter.unusedSimpArgs false
namespace Go.Proofs.YtdhmmnmpdiekpaaGreatDoor
namespace Ev
theorem fk_1 : fkV (nat_lit 1) = true := by kernel_rfl
theorem fk_7 : fkV (nat_lit 7) = true := by kernel_rfl
theorem fk_13 : fkV (nat_lit 13) = true := by kernel_rfl
theorem fk_19 : fkV (nat_lit 19) = true := by kernel_rfl
theorem fk_25 : fkV (nat_lit 25) = true := by kernel_rfl
end Ev
end Go.Proofs.YtdhmmnmpdiekpaaGreatDoor
