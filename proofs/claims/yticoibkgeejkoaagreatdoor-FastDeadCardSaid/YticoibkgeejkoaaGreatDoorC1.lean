/- FastDead: cases, part 1. -/
import Derived.Test.YticoibkgeejkoaaGreatDoorOD
set_option linter.unusedVariables false
set_option linter.unusedSimpArgs false
namespace Go.Proofs.YticoibkgeejkoaaGreatDoor
namespace Ev
theorem fd_f_0 : fdV false (nat_lit 0) = true := by kernel_rfl
theorem fd_f_8 : fdV false (nat_lit 8) = true := by kernel_rfl
theorem fd_f_16 : fdV false (nat_lit 16) = true := by kernel_rfl
theorem fd_f_24 : fdV false (nat_lit 24) = true := by kernel_rfl
theorem fd_f_32 : fdV false (nat_lit 32) = true := by kernel_rfl
end Ev
end Go.Proofs.YticoibkgeejkoaaGreatDoor
