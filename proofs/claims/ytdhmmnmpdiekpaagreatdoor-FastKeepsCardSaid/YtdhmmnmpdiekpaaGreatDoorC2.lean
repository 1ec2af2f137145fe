/- FastKeeps: cases, part 2. -/
import Derived.Test.YtdhmmnmpdiekpaaGreatDoorOD
set_option linter.unusedVariables false
set_option linter.unusedSimpArgs false
namespace Go.Proofs.YtdhmmnmpdiekpaaGreatDoor
namespace Ev
theorem fk_2 : fkV (nat_lit 2) = true := by kernel_rfl
theorem fk_8 : fkV (nat_lit 8) = true := by kernel_rfl
theorem fk_14 : fkV (nat_lit 14) = true := by kernel_rfl
theorem fk_20 : fkV (nat_lit 20) = true := by kernel_rfl
theorem fk_26 : fkV (nat_lit 26) = true := by kernel_rfl
end Ev
end Go.Proofs.YtdhmmnmpdiekpaaGreatDoor
