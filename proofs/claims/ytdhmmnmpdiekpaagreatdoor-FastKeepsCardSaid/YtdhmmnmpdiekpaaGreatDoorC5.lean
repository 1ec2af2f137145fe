/- FastKeeps: cases, part 5. -/
import Derived.Test.YtdhmmnmpdiekpaaGreatDoorOD
set_option linter.unusedVariables false
set_option linter.unusedSimpArgs false
namespace Go.Proofs.YtdhmmnmpdiekpaaGreatDoor
namespace Ev
theorem fk_5 : fkV (nat_lit 5) = true := by kernel_rfl
theorem fk_11 : fkV (nat_lit 11) = true := by kernel_rfl
theorem fk_17 : fkV (nat_lit 17) = true := by kernel_rfl
theorem fk_23 : fkV (nat_lit 23) = true := by kernel_rfl
theorem fk_29 : fkV (nat_lit 29) = true := by kernel_rfl
end Ev
end Go.Proofs.YtdhmmnmpdiekpaaGreatDoor
