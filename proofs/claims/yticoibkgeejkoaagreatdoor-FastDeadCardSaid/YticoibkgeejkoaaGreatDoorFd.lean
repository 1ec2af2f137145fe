/- Closed facts of the row: no function starts a goroutine. -/
import Derived.Test.YticoibkgeejkoaaGreatDoorRows
import Derived.JoinedOf
import Derived.SevenTiedAt
set_option linter.unusedVariables false
set_option linter.unusedSimpArgs false
namespace Go.Proofs.YticoibkgeejkoaaGreatDoor
theorem goes_none {P : Program} {c : OpenClaim} (h : P.funcs.any Func.goes = false) (hs : c.start = .entering) : false = c.goesBy P := by
  have hg : ∀ g : Nat, ((P.funcs[g]?).any Func.goes) = false := fun g => by
    cases hf : P.funcs[g]? with
    | none => rfl
    | some fn =>
      rw [Array.any_eq_false] at h
      obtain ⟨hlt, rfl⟩ := Array.getElem?_eq_some_iff.1 hf
      have := h g hlt
      simpa using this
  have h1 : ∀ f, P.goes f = false := fun f => by
    unfold Program.goes
    rw [h, Bool.and_false, Bool.or_false, List.any_eq_false]
    intro g _
    rw [hg g]
    simp
  unfold OpenClaim.goesBy Program.goesAt Program.goesFrom
  rw [hs]
  cases P.funcNamed c.func with
  | none => rfl
  | some f => simp [h1]
theorem no_goes : Tryz.pinned.checked.prog.funcs.any Func.goes = false := by kernel_rfl
theorem x_goes : false = Rows.fastDeadRow.goesBy Tryz.pinned.checked.prog := goes_none no_goes rfl
end Go.Proofs.YticoibkgeejkoaaGreatDoor
