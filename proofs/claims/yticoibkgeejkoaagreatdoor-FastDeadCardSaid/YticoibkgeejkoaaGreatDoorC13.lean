/- FastDead: cases, part 13. -/
import Derived.Test.YticoibkgeejkoaaGreatDoorOD
set_option linter.unusedVariables false
set_option linter.unusedSimpArgs false
namespace Go.Proofs.YticoibkgeejkoaaGreatDoor
namespace Ev
theorem fd_f_6 : fdV false (nat_lit 6) = true := by kernel_rfl
theorem fd_f_14 : fdV false (nat_lit 14) = true := by kernel_rfl
theorem fd_f_22 : fdV false (nat_lit 22) = true := by kernel_rfl
theorem fd_f_30 : fdV false (nat_lit 30) = true := by kernel_rfl
theorem fd_f_38 : fdV false (nat_lit 38) = true := by kernel_rfl
end Ev
end Go.Proofs.YticoibkgeejkoaaGreatDoor
