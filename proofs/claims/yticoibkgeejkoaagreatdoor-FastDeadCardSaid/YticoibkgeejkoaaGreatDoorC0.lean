/- FastDead: cases, part 0. -/
import Derived.Test.YticoibkgeejkoaaGreatDoorOD
set_option linter.unusedVariables false
set_option linter.unusedSimpArgs false
namespace Go.Proofs.YticoibkgeejkoaaGreatDoor
namespace Ev
theorem fd_t_0 : fdV true (nat_lit 0) = true := by kernel_rfl
theorem fd_t_8 : fdV true (nat_lit 8) = true := by kernel_rfl
theorem fd_t_16 : fdV true (nat_lit 16) = true := by kernel_rfl
theorem fd_t_24 : fdV true (nat_lit 24) = true := by kernel_rfl
theorem fd_t_32 : fdV true (nat_lit 32) = true := by kernel_rfl
end Ev
end Go.Proofs.YticoibkgeejkoaaGreatDoor
