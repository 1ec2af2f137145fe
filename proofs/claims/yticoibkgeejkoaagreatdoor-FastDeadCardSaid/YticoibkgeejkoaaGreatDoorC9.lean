/- FastDead: cases, part 9. -/
import Derived.Test.YticoibkgeejkoaaGreatDoorOD
set_option linter.unusedVariables false
set_option linter.unusedSimpArgs false
namespace Go.Proofs.YticoibkgeejkoaaGreatDoor
namespace Ev
theorem fd_f_4 : fdV false (nat_lit 4) = true := by kernel_rfl
theorem fd_f_12 : fdV false (nat_lit 12) = true := by kernel_rfl
theorem fd_f_20 : fdV false (nat_lit 20) = true := by kernel_rfl
theorem fd_f_28 : fdV false (nat_lit 28) = true := by kernel_rfl
theorem fd_f_36 : fdV false (nat_lit 36) = true := by kernel_rfl
end Ev
end Go.Proofs.YticoibkgeejkoaaGreatDoor
