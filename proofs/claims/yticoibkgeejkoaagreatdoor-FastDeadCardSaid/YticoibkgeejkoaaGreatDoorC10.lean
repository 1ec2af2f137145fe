/- FastDead: cases, part 10. -/
import Derived.Test.YticoibkgeejkoaaGreatDoorOD
set_option linter.unusedVariables false
set_option linter.unusedSimpArgs false
namespace Go.Proofs.YticoibkgeejkoaaGreatDoor
namespace Ev
theorem fd_t_5 : fdV true (nat_lit 5) = true := by kernel_rfl
theorem fd_t_13 : fdV true (nat_lit 13) = true := by kernel_rfl
theorem fd_t_21 : fdV true (nat_lit 21) = true := by kernel_rfl
theorem fd_t_29 : fdV true (nat_lit 29) = true := by kernel_rfl
theorem fd_t_37 : fdV true (nat_lit 37) = true := by kernel_rfl
end Ev
end Go.Proofs.YticoibkgeejkoaaGreatDoor
