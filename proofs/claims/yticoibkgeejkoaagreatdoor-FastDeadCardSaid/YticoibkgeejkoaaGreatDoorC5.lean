/- FastDead: cases, part 5. -/
import Derived.Test.YticoibkgeejkoaaGreatDoorOD
set_option linter.unusedVariables false
set_option linter.unusedSimpArgs false
namespace Go.Proofs.YticoibkgeejkoaaGreatDoor
namespace Ev
theorem fd_f_2 : fdV false (nat_lit 2) = true := by kernel_rfl
theorem fd_f_10 : fdV false (nat_lit 10) = true := by kernel_rfl
theorem fd_f_18 : fdV false (nat_lit 18) = true := by kernel_rfl
theorem fd_f_26 : fdV false (nat_lit 26) = true := by kernel_rfl
theorem fd_f_34 : fdV false (nat_lit 34) = true := by kernel_rfl
end Ev
end Go.Proofs.YticoibkgeejkoaaGreatDoor
