/- FastDead: cases, part 2. -/
import Derived.Test.YticoibkgeejkoaaGreatDoorOD
set_option linter.unusedVariables false
set_option linter.unusedSimpArgs false
namespace Go.Proofs.YticoibkgeejkoaaGreatDoor
namespace Ev
theorem fd_t_1 : fdV true (nat_lit 1) = true := by kernel_rfl
theorem fd_t_9 : fdV true (nat_lit 9) = true := by kernel_rfl
theorem fd_t_17 : fdV true (nat_lit 17) = true := by kernel_rfl
theorem fd_t_25 : fdV true (nat_lit 25) = true := by kernel_rfl
theorem fd_t_33 : fdV true (nat_lit 33) = true := by kernel_rfl
end Ev
end Go.Proofs.YticoibkgeejkoaaGreatDoor
