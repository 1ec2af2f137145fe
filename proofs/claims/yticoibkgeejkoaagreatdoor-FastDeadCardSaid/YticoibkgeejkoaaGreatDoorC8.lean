/- FastDead: cases, part 8. -/
import Derived.Test.YticoibkgeejkoaaGreatDoorOD
set_option linter.unusedVariables false
set_option linter.unusedSimpArgs false
namespace Go.Proofs.YticoibkgeejkoaaGreatDoor
namespace Ev
theorem fd_t_4 : fdV true (nat_lit 4) = true := by kernel_rfl
theorem fd_t_12 : fdV true (nat_lit 12) = true := by kernel_rfl
theorem fd_t_20 : fdV true (nat_lit 20) = true := by kernel_rfl
theorem fd_t_28 : fdV true (nat_lit 28) = true := by kernel_rfl
theorem fd_t_36 : fdV true (nat_lit 36) = true := by kernel_rfl
end Ev
end Go.Proofs.YticoibkgeejkoaaGreatDoor
