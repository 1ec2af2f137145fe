/- FastDead: cases, part 11. -/
import Derived.Test.YticoibkgeejkoaaGreatDoorOD
set_option linter.unusedVariables false
set_option linter.unusedSimpArgs false
namespace Go.Proofs.YticoibkgeejkoaaGreatDoor
namespace Ev
theorem fd_f_5 : fdV false (nat_lit 5) = true := by kernel_rfl
theorem fd_f_13 : fdV false (nat_lit 13) = true := by kernel_rfl
theorem fd_f_21 : fdV false (nat_lit 21) = true := by kernel_rfl
theorem fd_f_29 : fdV false (nat_lit 29) = true := by kernel_rfl
theorem fd_f_37 : fdV false (nat_lit 37) = true := by kernel_rfl
end Ev
end Go.Proofs.YticoibkgeejkoaaGreatDoor
