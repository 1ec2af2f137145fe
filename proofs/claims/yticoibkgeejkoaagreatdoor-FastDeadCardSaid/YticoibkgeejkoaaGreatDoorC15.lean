/- FastDead: cases, part 15. -/
import Derived.Test.YticoibkgeejkoaaGreatDoorOD
set_option linter.unusedVariables false
set_option linter.unusedSimpArgs false
namespace Go.Proofs.YticoibkgeejkoaaGreatDoor
namespace Ev
theorem fd_f_7 : fdV false (nat_lit 7) = true := by kernel_rfl
theorem fd_f_15 : fdV false (nat_lit 15) = true := by kernel_rfl
theorem fd_f_23 : fdV false (nat_lit 23) = true := by kernel_rfl
theorem fd_f_31 : fdV false (nat_lit 31) = true := by kernel_rfl
theorem fd_f_39 : fdV false (nat_lit 39) = true := by kernel_rfl
end Ev
end Go.Proofs.YticoibkgeejkoaaGreatDoor
