/- Trees of objects, built level by level, in plain words; all that the law asks of them, by evaluation. No program in sight. -/
import Derived.Test.YtniifefmjdjebaaQ0
namespace Go.Proofs.Ytniifefmjdjebaa
open Go.RowKit
set_option linter.unusedVariables false
set_option linter.unusedSimpArgs false
/-- The objects made, and the addresses of the level. -/
abbrev TS := List Ob × List Int
/-- The lowest level, k of it: one leaf again and again, or k of their own. -/
def tlow (sh : Bool) : Nat → TS
  | 0 => ([⟨-1, []⟩], [])
  | k + 1 => if sh = true then ((tlow sh k).1, (tlow sh k).2 ++ [8]) else ((tlow sh k).1 ++ [⟨-2, [0, 0]⟩], (tlow sh k).2 ++ [(tot (tlow sh k).1 : Int) + 8])
/-- k objects above a level. -/
def tup (U : List Ob) (lev : List Int) : Nat → TS
  | 0 => (U, [])
  | k + 1 => ((tup U lev k).1 ++ [⟨-2, [lev[2 * k]?.getD 0, lev[2 * k + 1]?.getD 0]⟩], (tup U lev k).2 ++ [(tot (tup U lev k).1 : Int) + 8])
/-- r levels above the lowest one. -/
def tbuild (sh : Bool) (d : Nat) : Nat → TS
  | 0 => tlow sh (2 ^ d)
  | r + 1 => tup (tbuild sh d r).1 (tbuild sh d r).2 (2 ^ (d - r - 1))
theorem tup_len (U : List Ob) (lev : List Int) : ∀ k, (tup U lev k).2.length = k
  | 0 => rfl
  | k + 1 => by
    show ((tup U lev k).2 ++ [_]).length = k + 1
    rw [List.length_append, tup_len U lev k]; rfl
theorem tlow_len (sh : Bool) : ∀ k, (tlow sh k).2.length = k
  | 0 => rfl
  | k + 1 => by
    have ih := tlow_len sh k
    unfold tlow
    split
    · show ((tlow sh k).2 ++ [_]).length = k + 1
      rw [List.length_append, ih]; rfl
    · show ((tlow sh k).2 ++ [_]).length = k + 1
      rw [List.length_append, ih]; rfl
def tstate (U : List Ob) : AS := ⟨U, [], fun _ => none, 16384⟩
/-- Does what is left stand as the law says? -/
def tslotsOk (sh : Bool) (d : Nat) (used : List Ob) : Bool :=
  (List.range (2 ^ d - 1)).all fun i =>
    let p := if sh = true ∧ 2 * i + 1 ≥ 2 ^ d - 1 then 2 ^ d - 1 else 2 * i + 1
    let q := if sh = true ∧ 2 * i + 1 ≥ 2 ^ d - 1 then 2 ^ d - 1 else 2 * i + 2
    decide (p < used.length ∧ q < used.length) &&
    match used[i]? with
    | none => false
    | some x => decide (x.vs.length = 2 ∧ x.vs[0]?.getD 0 = adr used p ∧ x.vs[1]?.getD 0 = adr used q)
/-- All that the law asks, in one word. -/
def treeOk (sh : Bool) (d : Nat) : Bool :=
  let U := (tbuild sh d d).1
  let root := (tbuild sh d d).2[0]?.getD 0
  let c := collectS (tstate U) [] [root]
  decide ((tbuild sh d d).2.length = 1) && isOb (tstate U) root && decide (collectR (tstate U) [] [root] = [8]) && decide (c.used.length = if sh = true then 2 ^ d - 1 + 1 else 2 ^ (d + 1) - 1) && tslotsOk sh d c.used
theorem trees_ok : ∀ sh : Bool, ∀ d : Fin 6, treeOk sh d.val = true := by decide +kernel
end Go.Proofs.Ytniifefmjdjebaa
