/- FastDead: cases, part 12. -/
import Derived.Test.YticoibkgeejkoaaGreatDoorOD
set_option linter.unusedVariables false
set_option linter.unusedSimpArgs false
namespace Go.Proofs.YticoibkgeejkoaaGreatDoor
namespace Ev
theorem fd_t_6 : fdV true (nat_lit 6) = true := by kernel_rfl
theorem fd_t_14 : fdV true (nat_lit 14) = true := by kernel_rfl
theorem fd_t_22 : fdV true (nat_lit 22) = true := by kernel_rfl
theorem fd_t_30 : fdV true (nat_lit 30) = true := by kernel_rfl
theorem fd_t_38 : fdV true (nat_lit 38) = true := by kernel_rfl
end Ev
end Go.Proofs.YticoibkgeejkoaaGreatDoor
