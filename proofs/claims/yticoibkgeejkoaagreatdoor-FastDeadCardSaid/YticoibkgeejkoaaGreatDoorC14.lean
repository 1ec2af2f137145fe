/- FastDead: cases, part 14. -/
import Derived.Test.YticoibkgeejkoaaGreatDoorOD
set_option linter.unusedVariables false
set_option linter.unusedSimpArgs false
namespace Go.Proofs.YticoibkgeejkoaaGreatDoor
namespace Ev
theorem fd_t_7 : fdV true (nat_lit 7) = true := by kernel_rfl
theorem fd_t_15 : fdV true (nat_lit 15) = true := by kernel_rfl
theorem fd_t_23 : fdV true (nat_lit 23) = true := by kernel_rfl
theorem fd_t_31 : fdV true (nat_lit 31) = true := by kernel_rfl
theorem fd_t_39 : fdV true (nat_lit 39) = true := by kernel_rfl
end Ev
end Go.Proofs.YticoibkgeejkoaaGreatDoor
