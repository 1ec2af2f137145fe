/- FastKeeps: cases, part 3. -/
import Derived.Test.YtdhmmnmpdiekpaaGreatDoorOD
set_option linter.unusedVariables false
set_option linter.unusedSimpArgs false
namespace Go.Proofs.YtdhmmnmpdiekpaaGreatDoor
namespace Ev
theorem fk_3 : fkV (nat_lit 3) = true := by kernel_rfl
theorem fk_9 : fkV (nat_lit 9) = true := by kernel_rfl
theorem fk_15 : fkV (nat_lit 15) = true := by kernel_rfl
theorem fk_21 : fkV (nat_lit 21) = true := by kernel_rfl
theorem fk_27 : fkV (nat_lit 27) = true := by kernel_rfl
end Ev
end Go.Proofs.YtdhmmnmpdiekpaaGreatDoor
