/- FastDead: cases, part 4. -/
import Derived.Test.YticoibkgeejkoaaGreatDoorOD
set_option linter.unusedVariables false
set_option linter.unusedSimpArgs false
namespace Go.Proofs.YticoibkgeejkoaaGreatDoor
namespace Ev
theorem fd_t_2 : fdV true (nat_lit 2) = true := by kernel_rfl
theorem fd_t_10 : fdV true (nat_lit 10) = true := by kernel_rfl
theorem fd_t_18 : fdV true (nat_lit 18) = true := by kernel_rfl
theorem fd_t_26 : fdV true (nat_lit 26) = true := by kernel_rfl
theorem fd_t_34 : fdV true (nat_lit 34) = true := by kernel_rfl
end Ev
end Go.Proofs.YticoibkgeejkoaaGreatDoor
