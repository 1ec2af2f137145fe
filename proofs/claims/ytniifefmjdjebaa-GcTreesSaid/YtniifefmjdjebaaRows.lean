/-
  No cell of these rows narrows 'for every input' (looked for: loops, veiled, ifaces, maps, wideKeys, modest, calm, conditions, laid).
  DERIVED. THE GIVEN ROWS OF THIS SEAT. 16 by the template 'for every input the law returns true; each argument reads behind the call as it read before'; 0 by the template 'total and deterministic' (their statements: YtniifefmjdjebaaTotals.lean).
  GIVEN WITH THE SEED: the statements are not yours to turn. If you find one false, say at which input.
  Laid BY PROGRAM, IN A SANDBOX (cutbox-rows.mjs): the forced cells as the released guide's own fill.sh prints them over the translation 315ee2ffbbf41ae6… (all of the seat's roots in one cut). By AI agents, Wed Nov 11 2026. No macro, syntax, notation, axiom, sorry.
-/
import Derived.Test.YtniifefmjdjebaaChecked
import GoSem.Claim
import GoSem.ClaimJoined
import GoSem.ClaimMapViews
import Derived.JoinedTies
import Derived.KernelRfl
namespace Go.Proofs.Ytniifefmjdjebaa
/- THE CELL 'sum', in the pinned program and in every row, IS THE sha256 OF THE DUMP (.gsa) THAT YtniifefmjdjebaaProg.lean LOADS. Nothing in Lean hashes anything: it is a label: what it is worth is what the hold of that sum in a sandbox is worth. -/
noncomputable def Try.pinned : Pinned := { name := "ytniifefmjdjebaa", sum := "315ee2ffbbf41ae66c91192f8767b82c3a9b7c886f5772bf7312e1bb3b3961fb", checked := Try.checked }
namespace Rows
def none {H : Type} : Left H := { results := [], args := [] }

/-- 'keystonelaw15.ArenaFull': WHATEVER THE INPUT: true; the input reads as it did. -/
def arenaFullSpec : ChangeSpec := { name := "arenaFull", fn := fun _ => fun
  | [d1, d2] => { results := [.lit (.bool true)], args := [d1, d2] }
  | _ => none }
def arenaFullRow : OpenClaim := { program := "ytniifefmjdjebaa", sum := "315ee2ffbbf41ae66c91192f8767b82c3a9b7c886f5772bf7312e1bb3b3961fb", func := "keystone/keystonelaw15.ArenaFull", spec := "arenaFull", apart := false }
def ArenaFullSaid : Prop := arenaFullRow.holds Try.pinned (OpenSpec.ofChange arenaFullSpec)

/-- ITS FALSE NEIGHBOUR: 'it returns false'. Refute it at one input. -/
def arenaFullWrong : ChangeSpec := { name := "arenaFull", fn := fun _ => fun
  | [d1, d2] => { results := [.lit (.bool false)], args := [d1, d2] }
  | _ => none }
def ArenaFullWrongFalsely : Prop := arenaFullRow.holds Try.pinned (OpenSpec.ofChange arenaFullWrong)

/-- 'keystonelaw15.ArenaOwn': WHATEVER THE INPUT: true; the input reads as it did. -/
def arenaOwnSpec : ChangeSpec := { name := "arenaOwn", fn := fun _ => fun
  | [d1, d2] => { results := [.lit (.bool true)], args := [d1, d2] }
  | _ => none }
def arenaOwnRow : OpenClaim := { program := "ytniifefmjdjebaa", sum := "315ee2ffbbf41ae66c91192f8767b82c3a9b7c886f5772bf7312e1bb3b3961fb", func := "keystone/keystonelaw15.ArenaOwn", spec := "arenaOwn", apart := false }
def ArenaOwnSaid : Prop := arenaOwnRow.holds Try.pinned (OpenSpec.ofChange arenaOwnSpec)

/-- ITS FALSE NEIGHBOUR: 'it returns false'. Refute it at one input. -/
def arenaOwnWrong : ChangeSpec := { name := "arenaOwn", fn := fun _ => fun
  | [d1, d2] => { results := [.lit (.bool false)], args := [d1, d2] }
  | _ => none }
def ArenaOwnWrongFalsely : Prop := arenaOwnRow.holds Try.pinned (OpenSpec.ofChange arenaOwnWrong)

/-- 'keystonelaw15.ArenaPuts': WHATEVER THE INPUT: true; the input reads as it did. -/
def arenaPutsSpec : ChangeSpec := { name := "arenaPuts", fn := fun _ => fun
  | [d1, d2, d3, d4, d5] => { results := [.lit (.bool true)], args := [d1, d2, d3, d4, d5] }
  | _ => none }
def arenaPutsRow : OpenClaim := { program := "ytniifefmjdjebaa", sum := "315ee2ffbbf41ae66c91192f8767b82c3a9b7c886f5772bf7312e1bb3b3961fb", func := "keystone/keystonelaw15.ArenaPuts", spec := "arenaPuts", apart := false }
def ArenaPutsSaid : Prop := arenaPutsRow.holds Try.pinned (OpenSpec.ofChange arenaPutsSpec)

/-- ITS FALSE NEIGHBOUR: 'it returns false'. Refute it at one input. -/
def arenaPutsWrong : ChangeSpec := { name := "arenaPuts", fn := fun _ => fun
  | [d1, d2, d3, d4, d5] => { results := [.lit (.bool false)], args := [d1, d2, d3, d4, d5] }
  | _ => none }
def ArenaPutsWrongFalsely : Prop := arenaPutsRow.holds Try.pinned (OpenSpec.ofChange arenaPutsWrong)

/-- 'keystonelaw15.ArenaFresh': WHATEVER THE INPUT: true; the input reads as it did. -/
def arenaFreshSpec : ChangeSpec := { name := "arenaFresh", fn := fun _ => fun
  | [d1, d2, d3] => { results := [.lit (.bool true)], args := [d1, d2, d3] }
  | _ => none }
def arenaFreshRow : OpenClaim := { program := "ytniifefmjdjebaa", sum := "315ee2ffbbf41ae66c91192f8767b82c3a9b7c886f5772bf7312e1bb3b3961fb", func := "keystone/keystonelaw15.ArenaFresh", spec := "arenaFresh", apart := false }
def ArenaFreshSaid : Prop := arenaFreshRow.holds Try.pinned (OpenSpec.ofChange arenaFreshSpec)

/-- ITS FALSE NEIGHBOUR: 'it returns false'. Refute it at one input. -/
def arenaFreshWrong : ChangeSpec := { name := "arenaFresh", fn := fun _ => fun
  | [d1, d2, d3] => { results := [.lit (.bool false)], args := [d1, d2, d3] }
  | _ => none }
def ArenaFreshWrongFalsely : Prop := arenaFreshRow.holds Try.pinned (OpenSpec.ofChange arenaFreshWrong)

/-- 'keystonelaw15.ArenaCopies': WHATEVER THE INPUT: true; the input reads as it did. -/
def arenaCopiesSpec : ChangeSpec := { name := "arenaCopies", fn := fun _ => fun
  | [d1, d2, d3] => { results := [.lit (.bool true)], args := [d1, d2, d3] }
  | _ => none }
def arenaCopiesRow : OpenClaim := { program := "ytniifefmjdjebaa", sum := "315ee2ffbbf41ae66c91192f8767b82c3a9b7c886f5772bf7312e1bb3b3961fb", func := "keystone/keystonelaw15.ArenaCopies", spec := "arenaCopies", apart := false }
def ArenaCopiesSaid : Prop := arenaCopiesRow.holds Try.pinned (OpenSpec.ofChange arenaCopiesSpec)

/-- ITS FALSE NEIGHBOUR: 'it returns false'. Refute it at one input. -/
def arenaCopiesWrong : ChangeSpec := { name := "arenaCopies", fn := fun _ => fun
  | [d1, d2, d3] => { results := [.lit (.bool false)], args := [d1, d2, d3] }
  | _ => none }
def ArenaCopiesWrongFalsely : Prop := arenaCopiesRow.holds Try.pinned (OpenSpec.ofChange arenaCopiesWrong)

/-- 'keystonelaw15.ArenaPlays': WHATEVER THE INPUT: true; the input reads as it did. -/
def arenaPlaysSpec : ChangeSpec := { name := "arenaPlays", fn := fun _ => fun
  | [d1, d2] => { results := [.lit (.bool true)], args := [d1, d2] }
  | _ => none }
def arenaPlaysRow : OpenClaim := { program := "ytniifefmjdjebaa", sum := "315ee2ffbbf41ae66c91192f8767b82c3a9b7c886f5772bf7312e1bb3b3961fb", func := "keystone/keystonelaw15.ArenaPlays", spec := "arenaPlays", apart := false }
def ArenaPlaysSaid : Prop := arenaPlaysRow.holds Try.pinned (OpenSpec.ofChange arenaPlaysSpec)

/-- ITS FALSE NEIGHBOUR: 'it returns false'. Refute it at one input. -/
def arenaPlaysWrong : ChangeSpec := { name := "arenaPlays", fn := fun _ => fun
  | [d1, d2] => { results := [.lit (.bool false)], args := [d1, d2] }
  | _ => none }
def ArenaPlaysWrongFalsely : Prop := arenaPlaysRow.holds Try.pinned (OpenSpec.ofChange arenaPlaysWrong)

/-- 'keystonelaw15.ArenaStrange': WHATEVER THE INPUT: true; the input reads as it did. -/
def arenaStrangeSpec : ChangeSpec := { name := "arenaStrange", fn := fun _ => fun
  | [d1, d2, d3] => { results := [.lit (.bool true)], args := [d1, d2, d3] }
  | _ => none }
def arenaStrangeRow : OpenClaim := { program := "ytniifefmjdjebaa", sum := "315ee2ffbbf41ae66c91192f8767b82c3a9b7c886f5772bf7312e1bb3b3961fb", func := "keystone/keystonelaw15.ArenaStrange", spec := "arenaStrange", apart := false }
def ArenaStrangeSaid : Prop := arenaStrangeRow.holds Try.pinned (OpenSpec.ofChange arenaStrangeSpec)

/-- ITS FALSE NEIGHBOUR: 'it returns false'. Refute it at one input. -/
def arenaStrangeWrong : ChangeSpec := { name := "arenaStrange", fn := fun _ => fun
  | [d1, d2, d3] => { results := [.lit (.bool false)], args := [d1, d2, d3] }
  | _ => none }
def ArenaStrangeWrongFalsely : Prop := arenaStrangeRow.holds Try.pinned (OpenSpec.ofChange arenaStrangeWrong)

/-- 'keystonelaw15.ArenaBytes': WHATEVER THE INPUT: true; the input reads as it did. -/
def arenaBytesSpec : ChangeSpec := { name := "arenaBytes", fn := fun _ => fun
  | [d1, d2] => { results := [.lit (.bool true)], args := [d1, d2] }
  | _ => none }
def arenaBytesRow : OpenClaim := { program := "ytniifefmjdjebaa", sum := "315ee2ffbbf41ae66c91192f8767b82c3a9b7c886f5772bf7312e1bb3b3961fb", func := "keystone/keystonelaw15.ArenaBytes", spec := "arenaBytes", apart := false }
def ArenaBytesSaid : Prop := arenaBytesRow.holds Try.pinned (OpenSpec.ofChange arenaBytesSpec)

/-- ITS FALSE NEIGHBOUR: 'it returns false'. Refute it at one input. -/
def arenaBytesWrong : ChangeSpec := { name := "arenaBytes", fn := fun _ => fun
  | [d1, d2] => { results := [.lit (.bool false)], args := [d1, d2] }
  | _ => none }
def ArenaBytesWrongFalsely : Prop := arenaBytesRow.holds Try.pinned (OpenSpec.ofChange arenaBytesWrong)

/-- 'keystonelaw16.GcTables': WHATEVER THE INPUT: true; the input reads as it did. -/
def gcTablesSpec : ChangeSpec := { name := "gcTables", fn := fun _ => fun
  | [d1, d2, d3] => { results := [.lit (.bool true)], args := [d1, d2, d3] }
  | _ => none }
def gcTablesRow : OpenClaim := { program := "ytniifefmjdjebaa", sum := "315ee2ffbbf41ae66c91192f8767b82c3a9b7c886f5772bf7312e1bb3b3961fb", func := "keystone/keystonelaw16.GcTables", spec := "gcTables", unfollowed := true, recurses := true, apart := false }
def GcTablesSaid : Prop := gcTablesRow.holds Try.pinned (OpenSpec.ofChange gcTablesSpec)

/-- ITS FALSE NEIGHBOUR: 'it returns false'. Refute it at one input. -/
def gcTablesWrong : ChangeSpec := { name := "gcTables", fn := fun _ => fun
  | [d1, d2, d3] => { results := [.lit (.bool false)], args := [d1, d2, d3] }
  | _ => none }
def GcTablesWrongFalsely : Prop := gcTablesRow.holds Try.pinned (OpenSpec.ofChange gcTablesWrong)

/-- 'keystonelaw16.GcChains': WHATEVER THE INPUT: true; the input reads as it did. -/
def gcChainsSpec : ChangeSpec := { name := "gcChains", fn := fun _ => fun
  | [d1, d2, d3] => { results := [.lit (.bool true)], args := [d1, d2, d3] }
  | _ => none }
def gcChainsRow : OpenClaim := { program := "ytniifefmjdjebaa", sum := "315ee2ffbbf41ae66c91192f8767b82c3a9b7c886f5772bf7312e1bb3b3961fb", func := "keystone/keystonelaw16.GcChains", spec := "gcChains", unfollowed := true, recurses := true, apart := false }
def GcChainsSaid : Prop := gcChainsRow.holds Try.pinned (OpenSpec.ofChange gcChainsSpec)

/-- ITS FALSE NEIGHBOUR: 'it returns false'. Refute it at one input. -/
def gcChainsWrong : ChangeSpec := { name := "gcChains", fn := fun _ => fun
  | [d1, d2, d3] => { results := [.lit (.bool false)], args := [d1, d2, d3] }
  | _ => none }
def GcChainsWrongFalsely : Prop := gcChainsRow.holds Try.pinned (OpenSpec.ofChange gcChainsWrong)

/-- 'keystonelaw16.GcRounds': WHATEVER THE INPUT: true; the input reads as it did. -/
def gcRoundsSpec : ChangeSpec := { name := "gcRounds", fn := fun _ => fun
  | [d1, d2, d3] => { results := [.lit (.bool true)], args := [d1, d2, d3] }
  | _ => none }
def gcRoundsRow : OpenClaim := { program := "ytniifefmjdjebaa", sum := "315ee2ffbbf41ae66c91192f8767b82c3a9b7c886f5772bf7312e1bb3b3961fb", func := "keystone/keystonelaw16.GcRounds", spec := "gcRounds", unfollowed := true, recurses := true, apart := false }
def GcRoundsSaid : Prop := gcRoundsRow.holds Try.pinned (OpenSpec.ofChange gcRoundsSpec)

/-- ITS FALSE NEIGHBOUR: 'it returns false'. Refute it at one input. -/
def gcRoundsWrong : ChangeSpec := { name := "gcRounds", fn := fun _ => fun
  | [d1, d2, d3] => { results := [.lit (.bool false)], args := [d1, d2, d3] }
  | _ => none }
def GcRoundsWrongFalsely : Prop := gcRoundsRow.holds Try.pinned (OpenSpec.ofChange gcRoundsWrong)

/-- 'keystonelaw16.GcReach': WHATEVER THE INPUT: true; the input reads as it did. -/
def gcReachSpec : ChangeSpec := { name := "gcReach", fn := fun _ => fun
  | [d1, d2, d3, d4] => { results := [.lit (.bool true)], args := [d1, d2, d3, d4] }
  | _ => none }
def gcReachRow : OpenClaim := { program := "ytniifefmjdjebaa", sum := "315ee2ffbbf41ae66c91192f8767b82c3a9b7c886f5772bf7312e1bb3b3961fb", func := "keystone/keystonelaw16.GcReach", spec := "gcReach", unfollowed := true, recurses := true, apart := false }
def GcReachSaid : Prop := gcReachRow.holds Try.pinned (OpenSpec.ofChange gcReachSpec)

/-- ITS FALSE NEIGHBOUR: 'it returns false'. Refute it at one input. -/
def gcReachWrong : ChangeSpec := { name := "gcReach", fn := fun _ => fun
  | [d1, d2, d3, d4] => { results := [.lit (.bool false)], args := [d1, d2, d3, d4] }
  | _ => none }
def GcReachWrongFalsely : Prop := gcReachRow.holds Try.pinned (OpenSpec.ofChange gcReachWrong)

/-- 'keystonelaw16.GcTrees': WHATEVER THE INPUT: true; the input reads as it did. -/
def gcTreesSpec : ChangeSpec := { name := "gcTrees", fn := fun _ => fun
  | [d1, d2] => { results := [.lit (.bool true)], args := [d1, d2] }
  | _ => none }
def gcTreesRow : OpenClaim := { program := "ytniifefmjdjebaa", sum := "315ee2ffbbf41ae66c91192f8767b82c3a9b7c886f5772bf7312e1bb3b3961fb", func := "keystone/keystonelaw16.GcTrees", spec := "gcTrees", unfollowed := true, recurses := true, apart := false }
def GcTreesSaid : Prop := gcTreesRow.holds Try.pinned (OpenSpec.ofChange gcTreesSpec)

/-- ITS FALSE NEIGHBOUR: 'it returns false'. Refute it at one input. -/
def gcTreesWrong : ChangeSpec := { name := "gcTrees", fn := fun _ => fun
  | [d1, d2] => { results := [.lit (.bool false)], args := [d1, d2] }
  | _ => none }
def GcTreesWrongFalsely : Prop := gcTreesRow.holds Try.pinned (OpenSpec.ofChange gcTreesWrong)

/-- 'keystonelaw16.GcAgain': WHATEVER THE INPUT: true; the input reads as it did. -/
def gcAgainSpec : ChangeSpec := { name := "gcAgain", fn := fun _ => fun
  | [d1, d2, d3] => { results := [.lit (.bool true)], args := [d1, d2, d3] }
  | _ => none }
def gcAgainRow : OpenClaim := { program := "ytniifefmjdjebaa", sum := "315ee2ffbbf41ae66c91192f8767b82c3a9b7c886f5772bf7312e1bb3b3961fb", func := "keystone/keystonelaw16.GcAgain", spec := "gcAgain", unfollowed := true, recurses := true, apart := false }
def GcAgainSaid : Prop := gcAgainRow.holds Try.pinned (OpenSpec.ofChange gcAgainSpec)

/-- ITS FALSE NEIGHBOUR: 'it returns false'. Refute it at one input. -/
def gcAgainWrong : ChangeSpec := { name := "gcAgain", fn := fun _ => fun
  | [d1, d2, d3] => { results := [.lit (.bool false)], args := [d1, d2, d3] }
  | _ => none }
def GcAgainWrongFalsely : Prop := gcAgainRow.holds Try.pinned (OpenSpec.ofChange gcAgainWrong)

/-- 'keystonelaw16.GcCollects': WHATEVER THE INPUT: true; the input reads as it did. -/
def gcCollectsSpec : ChangeSpec := { name := "gcCollects", fn := fun _ => fun
  | [d1, d2, d3] => { results := [.lit (.bool true)], args := [d1, d2, d3] }
  | _ => none }
def gcCollectsRow : OpenClaim := { program := "ytniifefmjdjebaa", sum := "315ee2ffbbf41ae66c91192f8767b82c3a9b7c886f5772bf7312e1bb3b3961fb", func := "keystone/keystonelaw16.GcCollects", spec := "gcCollects", unfollowed := true, recurses := true, apart := false }
def GcCollectsSaid : Prop := gcCollectsRow.holds Try.pinned (OpenSpec.ofChange gcCollectsSpec)

/-- ITS FALSE NEIGHBOUR: 'it returns false'. Refute it at one input. -/
def gcCollectsWrong : ChangeSpec := { name := "gcCollects", fn := fun _ => fun
  | [d1, d2, d3] => { results := [.lit (.bool false)], args := [d1, d2, d3] }
  | _ => none }
def GcCollectsWrongFalsely : Prop := gcCollectsRow.holds Try.pinned (OpenSpec.ofChange gcCollectsWrong)

/-- 'keystonelaw16.GcKeeps': WHATEVER THE INPUT: true; the input reads as it did. -/
def gcKeepsSpec : ChangeSpec := { name := "gcKeeps", fn := fun _ => fun
  | [d1, d2, d3] => { results := [.lit (.bool true)], args := [d1, d2, d3] }
  | _ => none }
def gcKeepsRow : OpenClaim := { program := "ytniifefmjdjebaa", sum := "315ee2ffbbf41ae66c91192f8767b82c3a9b7c886f5772bf7312e1bb3b3961fb", func := "keystone/keystonelaw16.GcKeeps", spec := "gcKeeps", unfollowed := true, recurses := true, apart := false }
def GcKeepsSaid : Prop := gcKeepsRow.holds Try.pinned (OpenSpec.ofChange gcKeepsSpec)

/-- ITS FALSE NEIGHBOUR: 'it returns false'. Refute it at one input. -/
def gcKeepsWrong : ChangeSpec := { name := "gcKeeps", fn := fun _ => fun
  | [d1, d2, d3] => { results := [.lit (.bool false)], args := [d1, d2, d3] }
  | _ => none }
def GcKeepsWrongFalsely : Prop := gcKeepsRow.holds Try.pinned (OpenSpec.ofChange gcKeepsWrong)

/- THE SECOND FORM. 'bulk': how many values and letters a reading holds, each counted each time it is reached (what is shared counts as often as it is met; a slice's spare places count too). A statement '..UptoSaid' is the law's where the arguments, and the package variables that the reading takes, are together of bulk at most 1048576: NARROWER than '..Said'. Prove '..Said' where nothing that the law and all that it calls make is longer than what came in: it says more and counts as full. Else prove '..UptoSaid'. A law counts once. -/
mutual
def uptoBulk {H : Type} : DataW H → Nat
  | .lit (.string bytes) => bytes.length + 1
  | .lit _ => 1
  | .nil => 1
  | .ptr d => uptoBulk d + 1
  | .slice elems spare => uptoBulkAll elems + uptoBulkAll spare + 1
  | .agg parts => uptoBulkAll parts + 1
  | .iface _ d => uptoBulk d + 1
  | .map entries => uptoBulkEntries entries + 1
  | .held _ => 1
def uptoBulkAll {H : Type} : List (DataW H) → Nat
  | [] => 0
  | d :: r => uptoBulk d + uptoBulkAll r
def uptoBulkEntries {H : Type} : List (Lit × DataW H) → Nat
  | [] => 0
  | x :: r => uptoBulkEntry x + uptoBulkEntries r
def uptoBulkEntry {H : Type} : Lit × DataW H → Nat
  | (.string bytes, d) => bytes.length + uptoBulk d + 1
  | (_, d) => uptoBulk d + 1
 end
def uptoSmall : (H : Type) → List (DataW H) → Bool := fun _ ds => decide (uptoBulkAll ds ≤ 1048576)
def OpenSpec.upto (s : _root_.Go.ChangeSpec) : _root_.Go.OpenSpec := { _root_.Go.OpenSpec.ofChange s with cond := some uptoSmall }

/-- 'keystonelaw15.ArenaFull', WHERE WHAT IT READS IS OF BULK AT MOST 1048576: true; the input reads as it did. -/
def arenaFullUptoRow : OpenClaim := { program := "ytniifefmjdjebaa", sum := "315ee2ffbbf41ae66c91192f8767b82c3a9b7c886f5772bf7312e1bb3b3961fb", func := "keystone/keystonelaw15.ArenaFull", spec := "arenaFull", apart := false, narrowed := true }
def ArenaFullUptoSaid : Prop := arenaFullUptoRow.holds Try.pinned (OpenSpec.upto arenaFullSpec)

/-- 'keystonelaw15.ArenaOwn', WHERE WHAT IT READS IS OF BULK AT MOST 1048576: true; the input reads as it did. -/
def arenaOwnUptoRow : OpenClaim := { program := "ytniifefmjdjebaa", sum := "315ee2ffbbf41ae66c91192f8767b82c3a9b7c886f5772bf7312e1bb3b3961fb", func := "keystone/keystonelaw15.ArenaOwn", spec := "arenaOwn", apart := false, narrowed := true }
def ArenaOwnUptoSaid : Prop := arenaOwnUptoRow.holds Try.pinned (OpenSpec.upto arenaOwnSpec)

/-- 'keystonelaw15.ArenaPuts', WHERE WHAT IT READS IS OF BULK AT MOST 1048576: true; the input reads as it did. -/
def arenaPutsUptoRow : OpenClaim := { program := "ytniifefmjdjebaa", sum := "315ee2ffbbf41ae66c91192f8767b82c3a9b7c886f5772bf7312e1bb3b3961fb", func := "keystone/keystonelaw15.ArenaPuts", spec := "arenaPuts", apart := false, narrowed := true }
def ArenaPutsUptoSaid : Prop := arenaPutsUptoRow.holds Try.pinned (OpenSpec.upto arenaPutsSpec)

/-- 'keystonelaw15.ArenaFresh', WHERE WHAT IT READS IS OF BULK AT MOST 1048576: true; the input reads as it did. -/
def arenaFreshUptoRow : OpenClaim := { program := "ytniifefmjdjebaa", sum := "315ee2ffbbf41ae66c91192f8767b82c3a9b7c886f5772bf7312e1bb3b3961fb", func := "keystone/keystonelaw15.ArenaFresh", spec := "arenaFresh", apart := false, narrowed := true }
def ArenaFreshUptoSaid : Prop := arenaFreshUptoRow.holds Try.pinned (OpenSpec.upto arenaFreshSpec)

/-- 'keystonelaw15.ArenaCopies', WHERE WHAT IT READS IS OF BULK AT MOST 1048576: true; the input reads as it did. -/
def arenaCopiesUptoRow : OpenClaim := { program := "ytniifefmjdjebaa", sum := "315ee2ffbbf41ae66c91192f8767b82c3a9b7c886f5772bf7312e1bb3b3961fb", func := "keystone/keystonelaw15.ArenaCopies", spec := "arenaCopies", apart := false, narrowed := true }
def ArenaCopiesUptoSaid : Prop := arenaCopiesUptoRow.holds Try.pinned (OpenSpec.upto arenaCopiesSpec)

/-- 'keystonelaw15.ArenaPlays', WHERE WHAT IT READS IS OF BULK AT MOST 1048576: true; the input reads as it did. -/
def arenaPlaysUptoRow : OpenClaim := { program := "ytniifefmjdjebaa", sum := "315ee2ffbbf41ae66c91192f8767b82c3a9b7c886f5772bf7312e1bb3b3961fb", func := "keystone/keystonelaw15.ArenaPlays", spec := "arenaPlays", apart := false, narrowed := true }
def ArenaPlaysUptoSaid : Prop := arenaPlaysUptoRow.holds Try.pinned (OpenSpec.upto arenaPlaysSpec)

/-- 'keystonelaw15.ArenaStrange', WHERE WHAT IT READS IS OF BULK AT MOST 1048576: true; the input reads as it did. -/
def arenaStrangeUptoRow : OpenClaim := { program := "ytniifefmjdjebaa", sum := "315ee2ffbbf41ae66c91192f8767b82c3a9b7c886f5772bf7312e1bb3b3961fb", func := "keystone/keystonelaw15.ArenaStrange", spec := "arenaStrange", apart := false, narrowed := true }
def ArenaStrangeUptoSaid : Prop := arenaStrangeUptoRow.holds Try.pinned (OpenSpec.upto arenaStrangeSpec)

/-- 'keystonelaw15.ArenaBytes', WHERE WHAT IT READS IS OF BULK AT MOST 1048576: true; the input reads as it did. -/
def arenaBytesUptoRow : OpenClaim := { program := "ytniifefmjdjebaa", sum := "315ee2ffbbf41ae66c91192f8767b82c3a9b7c886f5772bf7312e1bb3b3961fb", func := "keystone/keystonelaw15.ArenaBytes", spec := "arenaBytes", apart := false, narrowed := true }
def ArenaBytesUptoSaid : Prop := arenaBytesUptoRow.holds Try.pinned (OpenSpec.upto arenaBytesSpec)

/-- 'keystonelaw16.GcTables', WHERE WHAT IT READS IS OF BULK AT MOST 1048576: true; the input reads as it did. -/
def gcTablesUptoRow : OpenClaim := { program := "ytniifefmjdjebaa", sum := "315ee2ffbbf41ae66c91192f8767b82c3a9b7c886f5772bf7312e1bb3b3961fb", func := "keystone/keystonelaw16.GcTables", spec := "gcTables", unfollowed := true, recurses := true, apart := false, narrowed := true }
def GcTablesUptoSaid : Prop := gcTablesUptoRow.holds Try.pinned (OpenSpec.upto gcTablesSpec)

/-- 'keystonelaw16.GcChains', WHERE WHAT IT READS IS OF BULK AT MOST 1048576: true; the input reads as it did. -/
def gcChainsUptoRow : OpenClaim := { program := "ytniifefmjdjebaa", sum := "315ee2ffbbf41ae66c91192f8767b82c3a9b7c886f5772bf7312e1bb3b3961fb", func := "keystone/keystonelaw16.GcChains", spec := "gcChains", unfollowed := true, recurses := true, apart := false, narrowed := true }
def GcChainsUptoSaid : Prop := gcChainsUptoRow.holds Try.pinned (OpenSpec.upto gcChainsSpec)

/-- 'keystonelaw16.GcRounds', WHERE WHAT IT READS IS OF BULK AT MOST 1048576: true; the input reads as it did. -/
def gcRoundsUptoRow : OpenClaim := { program := "ytniifefmjdjebaa", sum := "315ee2ffbbf41ae66c91192f8767b82c3a9b7c886f5772bf7312e1bb3b3961fb", func := "keystone/keystonelaw16.GcRounds", spec := "gcRounds", unfollowed := true, recurses := true, apart := false, narrowed := true }
def GcRoundsUptoSaid : Prop := gcRoundsUptoRow.holds Try.pinned (OpenSpec.upto gcRoundsSpec)

/-- 'keystonelaw16.GcReach', WHERE WHAT IT READS IS OF BULK AT MOST 1048576: true; the input reads as it did. -/
def gcReachUptoRow : OpenClaim := { program := "ytniifefmjdjebaa", sum := "315ee2ffbbf41ae66c91192f8767b82c3a9b7c886f5772bf7312e1bb3b3961fb", func := "keystone/keystonelaw16.GcReach", spec := "gcReach", unfollowed := true, recurses := true, apart := false, narrowed := true }
def GcReachUptoSaid : Prop := gcReachUptoRow.holds Try.pinned (OpenSpec.upto gcReachSpec)

/-- 'keystonelaw16.GcTrees', WHERE WHAT IT READS IS OF BULK AT MOST 1048576: true; the input reads as it did. -/
def gcTreesUptoRow : OpenClaim := { program := "ytniifefmjdjebaa", sum := "315ee2ffbbf41ae66c91192f8767b82c3a9b7c886f5772bf7312e1bb3b3961fb", func := "keystone/keystonelaw16.GcTrees", spec := "gcTrees", unfollowed := true, recurses := true, apart := false, narrowed := true }
def GcTreesUptoSaid : Prop := gcTreesUptoRow.holds Try.pinned (OpenSpec.upto gcTreesSpec)

/-- 'keystonelaw16.GcAgain', WHERE WHAT IT READS IS OF BULK AT MOST 1048576: true; the input reads as it did. -/
def gcAgainUptoRow : OpenClaim := { program := "ytniifefmjdjebaa", sum := "315ee2ffbbf41ae66c91192f8767b82c3a9b7c886f5772bf7312e1bb3b3961fb", func := "keystone/keystonelaw16.GcAgain", spec := "gcAgain", unfollowed := true, recurses := true, apart := false, narrowed := true }
def GcAgainUptoSaid : Prop := gcAgainUptoRow.holds Try.pinned (OpenSpec.upto gcAgainSpec)

/-- 'keystonelaw16.GcCollects', WHERE WHAT IT READS IS OF BULK AT MOST 1048576: true; the input reads as it did. -/
def gcCollectsUptoRow : OpenClaim := { program := "ytniifefmjdjebaa", sum := "315ee2ffbbf41ae66c91192f8767b82c3a9b7c886f5772bf7312e1bb3b3961fb", func := "keystone/keystonelaw16.GcCollects", spec := "gcCollects", unfollowed := true, recurses := true, apart := false, narrowed := true }
def GcCollectsUptoSaid : Prop := gcCollectsUptoRow.holds Try.pinned (OpenSpec.upto gcCollectsSpec)

/-- 'keystonelaw16.GcKeeps', WHERE WHAT IT READS IS OF BULK AT MOST 1048576: true; the input reads as it did. -/
def gcKeepsUptoRow : OpenClaim := { program := "ytniifefmjdjebaa", sum := "315ee2ffbbf41ae66c91192f8767b82c3a9b7c886f5772bf7312e1bb3b3961fb", func := "keystone/keystonelaw16.GcKeeps", spec := "gcKeeps", unfollowed := true, recurses := true, apart := false, narrowed := true }
def GcKeepsUptoSaid : Prop := gcKeepsUptoRow.holds Try.pinned (OpenSpec.upto gcKeepsSpec)

end Rows
end Go.Proofs.Ytniifefmjdjebaa
