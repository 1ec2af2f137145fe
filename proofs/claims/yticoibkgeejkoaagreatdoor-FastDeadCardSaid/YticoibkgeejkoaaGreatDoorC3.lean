/- FastDead: cases, part 3. -/
import Derived.Test.YticoibkgeejkoaaGreatDoorOD
set_option linter.unusedVariables false
set_option linter.unusedSimpArgs false
namespace Go.Proofs.YticoibkgeejkoaaGreatDoor
namespace Ev
theorem fd_f_1 : fdV false (nat_lit 1) = true := by kernel_rfl
theorem fd_f_9 : fdV false (nat_lit 9) = true := by kernel_rfl
theorem fd_f_17 : fdV false (nat_lit 17) = true := by kernel_rfl
theorem fd_f_25 : fdV false (nat_lit 25) = true := by kernel_rfl
theorem fd_f_33 : fdV false (nat_lit 33) = true := by kernel_rfl
end Ev
end Go.Proofs.YticoibkgeejkoaaGreatDoor
