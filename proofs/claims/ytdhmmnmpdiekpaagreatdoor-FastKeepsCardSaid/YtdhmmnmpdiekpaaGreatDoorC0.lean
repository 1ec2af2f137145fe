/- FastKeeps: cases, part 0. -/
import Derived.Test.YtdhmmnmpdiekpaaGreatDoorOD
set_option linter.unusedVariables false
set_option linter.unusedSimpArgs false
namespace Go.Proofs.YtdhmmnmpdiekpaaGreatDoor
namespace Ev
theorem fk_0 : fkV (nat_lit 0) = true := by kernel_rfl
theorem fk_6 : fkV (nat_lit 6) = true := by kernel_rfl
theorem fk_12 : fkV (nat_lit 12) = true := by kernel_rfl
theorem fk_18 : fkV (nat_lit 18) = true := by kernel_rfl
theorem fk_24 : fkV (nat_lit 24) = true := by kernel_rfl
end Ev
end Go.Proofs.YtdhmmnmpdiekpaaGreatDoor
