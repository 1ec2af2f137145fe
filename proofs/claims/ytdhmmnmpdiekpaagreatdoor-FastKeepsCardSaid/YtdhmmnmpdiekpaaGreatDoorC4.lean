/- FastKeeps: cases, part 4. -/
import Derived.Test.YtdhmmnmpdiekpaaGreatDoorOD
set_option linter.unusedVariables false
set_option linter.unusedSimpArgs false
namespace Go.Proofs.YtdhmmnmpdiekpaaGreatDoor
namespace Ev
theorem fk_4 : fkV (nat_lit 4) = true := by kernel_rfl
theorem fk_10 : fkV (nat_lit 10) = true := by kernel_rfl
theorem fk_16 : fkV (nat_lit 16) = true := by kernel_rfl
theorem fk_22 : fkV (nat_lit 22) = true := by kernel_rfl
theorem fk_28 : fkV (nat_lit 28) = true := by kernel_rfl
end Ev
end Go.Proofs.YtdhmmnmpdiekpaaGreatDoor
