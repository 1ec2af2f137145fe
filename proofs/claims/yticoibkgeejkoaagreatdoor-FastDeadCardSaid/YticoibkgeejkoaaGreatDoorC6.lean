/- FastDead: cases, part 6. -/
import Derived.Test.YticoibkgeejkoaaGreatDoorOD
set_option linter.unusedVariables false
set_option linter.unusedSimpArgs false
namespace Go.Proofs.YticoibkgeejkoaaGreatDoor
namespace Ev
theorem fd_t_3 : fdV true (nat_lit 3) = true := by kernel_rfl
theorem fd_t_11 : fdV true (nat_lit 11) = true := by kernel_rfl
theorem fd_t_19 : fdV true (nat_lit 19) = true := by kernel_rfl
theorem fd_t_27 : fdV true (nat_lit 27) = true := by kernel_rfl
theorem fd_t_35 : fdV true (nat_lit 35) = true := by kernel_rfl
end Ev
end Go.Proofs.YticoibkgeejkoaaGreatDoor
