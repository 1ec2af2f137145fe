/- FastDead: cases, part 7. -/
import Derived.Test.YticoibkgeejkoaaGreatDoorOD
set_option linter.unusedVariables false
set_option linter.unusedSimpArgs false
namespace Go.Proofs.YticoibkgeejkoaaGreatDoor
namespace Ev
theorem fd_f_3 : fdV false (nat_lit 3) = true := by kernel_rfl
theorem fd_f_11 : fdV false (nat_lit 11) = true := by kernel_rfl
theorem fd_f_19 : fdV false (nat_lit 19) = true := by kernel_rfl
theorem fd_f_27 : fdV false (nat_lit 27) = true := by kernel_rfl
theorem fd_f_35 : fdV false (nat_lit 35) = true := by kernel_rfl
end Ev
end Go.Proofs.YticoibkgeejkoaaGreatDoor
