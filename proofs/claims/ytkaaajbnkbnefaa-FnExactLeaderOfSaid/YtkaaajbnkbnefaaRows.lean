/-
  No cell of these rows narrows 'for every input' (looked for: loops, veiled, ifaces, maps, wideKeys, modest, calm, conditions, laid).
  DERIVED. THE GIVEN ROWS OF THIS SEAT. 12 by the template 'for every input the law returns true; each argument reads behind the call as it read before'; 0 by the template 'total and deterministic' (their statements: YtkaaajbnkbnefaaTotals.lean).
  GIVEN WITH THE SEED: the statements are not yours to turn. If you find one false, say at which input.
  Laid BY PROGRAM, IN A SANDBOX (cutbox-rows.mjs): the forced cells as the released guide's own fill.sh prints them over the translation 9d922da470bc77dd… (all of the seat's roots in one cut). By AI agents, Wed Nov 11 2026. No macro, syntax, notation, axiom, sorry.
-/
import Derived.Test.YtkaaajbnkbnefaaChecked
import GoSem.Claim
import GoSem.ClaimJoined
import GoSem.ClaimMapViews
import Derived.JoinedTies
import Derived.KernelRfl
namespace Go.Proofs.Ytkaaajbnkbnefaa
/- THE CELL 'sum', in the pinned program and in every row, IS THE sha256 OF THE DUMP (.gsa) THAT YtkaaajbnkbnefaaProg.lean LOADS. Nothing in Lean hashes anything: it is a label: what it is worth is what the hold of that sum in a sandbox is worth. -/
noncomputable def Try.pinned : Pinned := { name := "ytkaaajbnkbnefaa", sum := "9d922da470bc77dd6c6835cf929983faa9e06e766679ad106b9fb7f06c87a34e", checked := Try.checked }
namespace Rows
def none {H : Type} : Left H := { results := [], args := [] }

/-- 'laws.FnExactTeamNamed': WHATEVER THE INPUT: true; the input reads as it did. -/
def fnExactTeamNamedSpec : ChangeSpec := { name := "fnExactTeamNamed", fn := fun _ => fun
  | [d1, d2] => { results := [.lit (.bool true)], args := [d1, d2] }
  | _ => none }
def fnExactTeamNamedRow : OpenClaim := { program := "ytkaaajbnkbnefaa", sum := "9d922da470bc77dd6c6835cf929983faa9e06e766679ad106b9fb7f06c87a34e", func := "loop.example/g00834/laws.FnExactTeamNamed", spec := "fnExactTeamNamed", unfollowed := true, recurses := true, apart := false }
def FnExactTeamNamedSaid : Prop := fnExactTeamNamedRow.holds Try.pinned (OpenSpec.ofChange fnExactTeamNamedSpec)

/-- ITS FALSE NEIGHBOUR: 'it returns false'. Refute it at one input. -/
def fnExactTeamNamedWrong : ChangeSpec := { name := "fnExactTeamNamed", fn := fun _ => fun
  | [d1, d2] => { results := [.lit (.bool false)], args := [d1, d2] }
  | _ => none }
def FnExactTeamNamedWrongFalsely : Prop := fnExactTeamNamedRow.holds Try.pinned (OpenSpec.ofChange fnExactTeamNamedWrong)

/-- 'laws.FnExactLeaderOf': WHATEVER THE INPUT: true; the input reads as it did. -/
def fnExactLeaderOfSpec : ChangeSpec := { name := "fnExactLeaderOf", fn := fun _ => fun
  | [d] => { results := [.lit (.bool true)], args := [d] }
  | _ => none }
def fnExactLeaderOfRow : OpenClaim := { program := "ytkaaajbnkbnefaa", sum := "9d922da470bc77dd6c6835cf929983faa9e06e766679ad106b9fb7f06c87a34e", func := "loop.example/g00834/laws.FnExactLeaderOf", spec := "fnExactLeaderOf", apart := false }
def FnExactLeaderOfSaid : Prop := fnExactLeaderOfRow.holds Try.pinned (OpenSpec.ofChange fnExactLeaderOfSpec)

/-- ITS FALSE NEIGHBOUR: 'it returns false'. Refute it at one input. -/
def fnExactLeaderOfWrong : ChangeSpec := { name := "fnExactLeaderOf", fn := fun _ => fun
  | [d] => { results := [.lit (.bool false)], args := [d] }
  | _ => none }
def FnExactLeaderOfWrongFalsely : Prop := fnExactLeaderOfRow.holds Try.pinned (OpenSpec.ofChange fnExactLeaderOfWrong)

/-- 'laws.FnExactTotalPlayed': WHATEVER THE INPUT: true; the input reads as it did. -/
def fnExactTotalPlayedSpec : ChangeSpec := { name := "fnExactTotalPlayed", fn := fun _ => fun
  | [d] => { results := [.lit (.bool true)], args := [d] }
  | _ => none }
def fnExactTotalPlayedRow : OpenClaim := { program := "ytkaaajbnkbnefaa", sum := "9d922da470bc77dd6c6835cf929983faa9e06e766679ad106b9fb7f06c87a34e", func := "loop.example/g00834/laws.FnExactTotalPlayed", spec := "fnExactTotalPlayed", apart := false }
def FnExactTotalPlayedSaid : Prop := fnExactTotalPlayedRow.holds Try.pinned (OpenSpec.ofChange fnExactTotalPlayedSpec)

/-- ITS FALSE NEIGHBOUR: 'it returns false'. Refute it at one input. -/
def fnExactTotalPlayedWrong : ChangeSpec := { name := "fnExactTotalPlayed", fn := fun _ => fun
  | [d] => { results := [.lit (.bool false)], args := [d] }
  | _ => none }
def FnExactTotalPlayedWrongFalsely : Prop := fnExactTotalPlayedRow.holds Try.pinned (OpenSpec.ofChange fnExactTotalPlayedWrong)

/-- 'laws.FnExactSameRules': WHATEVER THE INPUT: true; the input reads as it did. -/
def fnExactSameRulesSpec : ChangeSpec := { name := "fnExactSameRules", fn := fun _ => fun
  | [d1, d2] => { results := [.lit (.bool true)], args := [d1, d2] }
  | _ => none }
def fnExactSameRulesRow : OpenClaim := { program := "ytkaaajbnkbnefaa", sum := "9d922da470bc77dd6c6835cf929983faa9e06e766679ad106b9fb7f06c87a34e", func := "loop.example/g00834/laws.FnExactSameRules", spec := "fnExactSameRules", apart := false }
def FnExactSameRulesSaid : Prop := fnExactSameRulesRow.holds Try.pinned (OpenSpec.ofChange fnExactSameRulesSpec)

/-- ITS FALSE NEIGHBOUR: 'it returns false'. Refute it at one input. -/
def fnExactSameRulesWrong : ChangeSpec := { name := "fnExactSameRules", fn := fun _ => fun
  | [d1, d2] => { results := [.lit (.bool false)], args := [d1, d2] }
  | _ => none }
def FnExactSameRulesWrongFalsely : Prop := fnExactSameRulesRow.holds Try.pinned (OpenSpec.ofChange fnExactSameRulesWrong)

/-- 'laws.FnExactIsBalanced': WHATEVER THE INPUT: true; the input reads as it did. -/
def fnExactIsBalancedSpec : ChangeSpec := { name := "fnExactIsBalanced", fn := fun _ => fun
  | [d] => { results := [.lit (.bool true)], args := [d] }
  | _ => none }
def fnExactIsBalancedRow : OpenClaim := { program := "ytkaaajbnkbnefaa", sum := "9d922da470bc77dd6c6835cf929983faa9e06e766679ad106b9fb7f06c87a34e", func := "loop.example/g00834/laws.FnExactIsBalanced", spec := "fnExactIsBalanced", apart := false }
def FnExactIsBalancedSaid : Prop := fnExactIsBalancedRow.holds Try.pinned (OpenSpec.ofChange fnExactIsBalancedSpec)

/-- ITS FALSE NEIGHBOUR: 'it returns false'. Refute it at one input. -/
def fnExactIsBalancedWrong : ChangeSpec := { name := "fnExactIsBalanced", fn := fun _ => fun
  | [d] => { results := [.lit (.bool false)], args := [d] }
  | _ => none }
def FnExactIsBalancedWrongFalsely : Prop := fnExactIsBalancedRow.holds Try.pinned (OpenSpec.ofChange fnExactIsBalancedWrong)

/-- 'laws.FnExactSameNotes': WHATEVER THE INPUT: true; the input reads as it did. -/
def fnExactSameNotesSpec : ChangeSpec := { name := "fnExactSameNotes", fn := fun _ => fun
  | [d1, d2] => { results := [.lit (.bool true)], args := [d1, d2] }
  | _ => none }
def fnExactSameNotesRow : OpenClaim := { program := "ytkaaajbnkbnefaa", sum := "9d922da470bc77dd6c6835cf929983faa9e06e766679ad106b9fb7f06c87a34e", func := "loop.example/g00834/laws.FnExactSameNotes", spec := "fnExactSameNotes", apart := false }
def FnExactSameNotesSaid : Prop := fnExactSameNotesRow.holds Try.pinned (OpenSpec.ofChange fnExactSameNotesSpec)

/-- ITS FALSE NEIGHBOUR: 'it returns false'. Refute it at one input. -/
def fnExactSameNotesWrong : ChangeSpec := { name := "fnExactSameNotes", fn := fun _ => fun
  | [d1, d2] => { results := [.lit (.bool false)], args := [d1, d2] }
  | _ => none }
def FnExactSameNotesWrongFalsely : Prop := fnExactSameNotesRow.holds Try.pinned (OpenSpec.ofChange fnExactSameNotesWrong)

/-- 'laws.FnExactRulesOk': WHATEVER THE INPUT: true; the input reads as it did. -/
def fnExactRulesOkSpec : ChangeSpec := { name := "fnExactRulesOk", fn := fun _ => fun
  | [d] => { results := [.lit (.bool true)], args := [d] }
  | _ => none }
def fnExactRulesOkRow : OpenClaim := { program := "ytkaaajbnkbnefaa", sum := "9d922da470bc77dd6c6835cf929983faa9e06e766679ad106b9fb7f06c87a34e", func := "loop.example/g00834/laws.FnExactRulesOk", spec := "fnExactRulesOk", apart := false }
def FnExactRulesOkSaid : Prop := fnExactRulesOkRow.holds Try.pinned (OpenSpec.ofChange fnExactRulesOkSpec)

/-- ITS FALSE NEIGHBOUR: 'it returns false'. Refute it at one input. -/
def fnExactRulesOkWrong : ChangeSpec := { name := "fnExactRulesOk", fn := fun _ => fun
  | [d] => { results := [.lit (.bool false)], args := [d] }
  | _ => none }
def FnExactRulesOkWrongFalsely : Prop := fnExactRulesOkRow.holds Try.pinned (OpenSpec.ofChange fnExactRulesOkWrong)

/-- 'laws.FnExactIsDecisive': WHATEVER THE INPUT: true; the input reads as it did. -/
def fnExactIsDecisiveSpec : ChangeSpec := { name := "fnExactIsDecisive", fn := fun _ => fun
  | [d] => { results := [.lit (.bool true)], args := [d] }
  | _ => none }
def fnExactIsDecisiveRow : OpenClaim := { program := "ytkaaajbnkbnefaa", sum := "9d922da470bc77dd6c6835cf929983faa9e06e766679ad106b9fb7f06c87a34e", func := "loop.example/g00834/laws.FnExactIsDecisive", spec := "fnExactIsDecisive", apart := false }
def FnExactIsDecisiveSaid : Prop := fnExactIsDecisiveRow.holds Try.pinned (OpenSpec.ofChange fnExactIsDecisiveSpec)

/-- ITS FALSE NEIGHBOUR: 'it returns false'. Refute it at one input. -/
def fnExactIsDecisiveWrong : ChangeSpec := { name := "fnExactIsDecisive", fn := fun _ => fun
  | [d] => { results := [.lit (.bool false)], args := [d] }
  | _ => none }
def FnExactIsDecisiveWrongFalsely : Prop := fnExactIsDecisiveRow.holds Try.pinned (OpenSpec.ofChange fnExactIsDecisiveWrong)

/-- 'laws.FnExactSeasonOk': WHATEVER THE INPUT: true; the input reads as it did. -/
def fnExactSeasonOkSpec : ChangeSpec := { name := "fnExactSeasonOk", fn := fun _ => fun
  | [d1, d2] => { results := [.lit (.bool true)], args := [d1, d2] }
  | _ => none }
def fnExactSeasonOkRow : OpenClaim := { program := "ytkaaajbnkbnefaa", sum := "9d922da470bc77dd6c6835cf929983faa9e06e766679ad106b9fb7f06c87a34e", func := "loop.example/g00834/laws.FnExactSeasonOk", spec := "fnExactSeasonOk", unfollowed := true, recurses := true, apart := false }
def FnExactSeasonOkSaid : Prop := fnExactSeasonOkRow.holds Try.pinned (OpenSpec.ofChange fnExactSeasonOkSpec)

/-- ITS FALSE NEIGHBOUR: 'it returns false'. Refute it at one input. -/
def fnExactSeasonOkWrong : ChangeSpec := { name := "fnExactSeasonOk", fn := fun _ => fun
  | [d1, d2] => { results := [.lit (.bool false)], args := [d1, d2] }
  | _ => none }
def FnExactSeasonOkWrongFalsely : Prop := fnExactSeasonOkRow.holds Try.pinned (OpenSpec.ofChange fnExactSeasonOkWrong)

/-- 'laws.FnExactJoin': WHATEVER THE INPUT: true; the input reads as it did. -/
def fnExactJoinSpec : ChangeSpec := { name := "fnExactJoin", fn := fun _ => fun
  | [d1, d2] => { results := [.lit (.bool true)], args := [d1, d2] }
  | _ => none }
def fnExactJoinRow : OpenClaim := { program := "ytkaaajbnkbnefaa", sum := "9d922da470bc77dd6c6835cf929983faa9e06e766679ad106b9fb7f06c87a34e", func := "loop.example/g00834/laws.FnExactJoin", spec := "fnExactJoin", inPlace := ["internal/abi.NoEscape", "internal/bytealg.MakeNoZero"], apart := false }
def FnExactJoinSaid : Prop := fnExactJoinRow.holds Try.pinned (OpenSpec.ofChange fnExactJoinSpec)

/-- ITS FALSE NEIGHBOUR: 'it returns false'. Refute it at one input. -/
def fnExactJoinWrong : ChangeSpec := { name := "fnExactJoin", fn := fun _ => fun
  | [d1, d2] => { results := [.lit (.bool false)], args := [d1, d2] }
  | _ => none }
def FnExactJoinWrongFalsely : Prop := fnExactJoinRow.holds Try.pinned (OpenSpec.ofChange fnExactJoinWrong)

/-- 'laws.FnExactGamesBetween': WHATEVER THE INPUT: true; the input reads as it did. -/
def fnExactGamesBetweenSpec : ChangeSpec := { name := "fnExactGamesBetween", fn := fun _ => fun
  | [d1, d2, d3] => { results := [.lit (.bool true)], args := [d1, d2, d3] }
  | _ => none }
def fnExactGamesBetweenRow : OpenClaim := { program := "ytkaaajbnkbnefaa", sum := "9d922da470bc77dd6c6835cf929983faa9e06e766679ad106b9fb7f06c87a34e", func := "loop.example/g00834/laws.FnExactGamesBetween", spec := "fnExactGamesBetween", unfollowed := true, recurses := true, apart := false }
def FnExactGamesBetweenSaid : Prop := fnExactGamesBetweenRow.holds Try.pinned (OpenSpec.ofChange fnExactGamesBetweenSpec)

/-- ITS FALSE NEIGHBOUR: 'it returns false'. Refute it at one input. -/
def fnExactGamesBetweenWrong : ChangeSpec := { name := "fnExactGamesBetween", fn := fun _ => fun
  | [d1, d2, d3] => { results := [.lit (.bool false)], args := [d1, d2, d3] }
  | _ => none }
def FnExactGamesBetweenWrongFalsely : Prop := fnExactGamesBetweenRow.holds Try.pinned (OpenSpec.ofChange fnExactGamesBetweenWrong)

/-- 'laws.FnExactOpenGames': WHATEVER THE INPUT: true; the input reads as it did. -/
def fnExactOpenGamesSpec : ChangeSpec := { name := "fnExactOpenGames", fn := fun _ => fun
  | [d] => { results := [.lit (.bool true)], args := [d] }
  | _ => none }
def fnExactOpenGamesRow : OpenClaim := { program := "ytkaaajbnkbnefaa", sum := "9d922da470bc77dd6c6835cf929983faa9e06e766679ad106b9fb7f06c87a34e", func := "loop.example/g00834/laws.FnExactOpenGames", spec := "fnExactOpenGames", unfollowed := true, recurses := true, apart := false }
def FnExactOpenGamesSaid : Prop := fnExactOpenGamesRow.holds Try.pinned (OpenSpec.ofChange fnExactOpenGamesSpec)

/-- ITS FALSE NEIGHBOUR: 'it returns false'. Refute it at one input. -/
def fnExactOpenGamesWrong : ChangeSpec := { name := "fnExactOpenGames", fn := fun _ => fun
  | [d] => { results := [.lit (.bool false)], args := [d] }
  | _ => none }
def FnExactOpenGamesWrongFalsely : Prop := fnExactOpenGamesRow.holds Try.pinned (OpenSpec.ofChange fnExactOpenGamesWrong)

/- THE SECOND FORM. 'bulk': how many values and letters a reading holds, each counted each time it is reached (what is shared counts as often as it is met; a slice's spare places count too). A statement '..UptoSaid' is the law's where the arguments, and the package variables that the reading takes, are together of bulk at most 1048576: NARROWER than '..Said'. Prove '..Said' where nothing that the law and all that it calls make is longer than what came in: it says more and counts as full. Else prove '..UptoSaid'. A law counts once. -/
mutual
def uptoBulk {H : Type} : DataW H → Nat
  | .lit (.string bytes) => bytes.length + 1
  | .lit _ => 1
  | .nil => 1
  | .ptr d => uptoBulk d + 1
  | .slice elems spare => uptoBulkAll elems + uptoBulkAll spare + 1
  | .agg parts => uptoBulkAll parts + 1
  | .iface _ d => uptoBulk d + 1
  | .map entries => uptoBulkEntries entries + 1
  | .held _ => 1
def uptoBulkAll {H : Type} : List (DataW H) → Nat
  | [] => 0
  | d :: r => uptoBulk d + uptoBulkAll r
def uptoBulkEntries {H : Type} : List (Lit × DataW H) → Nat
  | [] => 0
  | x :: r => uptoBulkEntry x + uptoBulkEntries r
def uptoBulkEntry {H : Type} : Lit × DataW H → Nat
  | (.string bytes, d) => bytes.length + uptoBulk d + 1
  | (_, d) => uptoBulk d + 1
 end
def uptoSmall : (H : Type) → List (DataW H) → Bool := fun _ ds => decide (uptoBulkAll ds ≤ 1048576)
def OpenSpec.upto (s : _root_.Go.ChangeSpec) : _root_.Go.OpenSpec := { _root_.Go.OpenSpec.ofChange s with cond := some uptoSmall }

/-- 'laws.FnExactTeamNamed', WHERE WHAT IT READS IS OF BULK AT MOST 1048576: true; the input reads as it did. -/
def fnExactTeamNamedUptoRow : OpenClaim := { program := "ytkaaajbnkbnefaa", sum := "9d922da470bc77dd6c6835cf929983faa9e06e766679ad106b9fb7f06c87a34e", func := "loop.example/g00834/laws.FnExactTeamNamed", spec := "fnExactTeamNamed", unfollowed := true, recurses := true, apart := false, narrowed := true }
def FnExactTeamNamedUptoSaid : Prop := fnExactTeamNamedUptoRow.holds Try.pinned (OpenSpec.upto fnExactTeamNamedSpec)

/-- 'laws.FnExactLeaderOf', WHERE WHAT IT READS IS OF BULK AT MOST 1048576: true; the input reads as it did. -/
def fnExactLeaderOfUptoRow : OpenClaim := { program := "ytkaaajbnkbnefaa", sum := "9d922da470bc77dd6c6835cf929983faa9e06e766679ad106b9fb7f06c87a34e", func := "loop.example/g00834/laws.FnExactLeaderOf", spec := "fnExactLeaderOf", apart := false, narrowed := true }
def FnExactLeaderOfUptoSaid : Prop := fnExactLeaderOfUptoRow.holds Try.pinned (OpenSpec.upto fnExactLeaderOfSpec)

/-- 'laws.FnExactTotalPlayed', WHERE WHAT IT READS IS OF BULK AT MOST 1048576: true; the input reads as it did. -/
def fnExactTotalPlayedUptoRow : OpenClaim := { program := "ytkaaajbnkbnefaa", sum := "9d922da470bc77dd6c6835cf929983faa9e06e766679ad106b9fb7f06c87a34e", func := "loop.example/g00834/laws.FnExactTotalPlayed", spec := "fnExactTotalPlayed", apart := false, narrowed := true }
def FnExactTotalPlayedUptoSaid : Prop := fnExactTotalPlayedUptoRow.holds Try.pinned (OpenSpec.upto fnExactTotalPlayedSpec)

/-- 'laws.FnExactSameRules', WHERE WHAT IT READS IS OF BULK AT MOST 1048576: true; the input reads as it did. -/
def fnExactSameRulesUptoRow : OpenClaim := { program := "ytkaaajbnkbnefaa", sum := "9d922da470bc77dd6c6835cf929983faa9e06e766679ad106b9fb7f06c87a34e", func := "loop.example/g00834/laws.FnExactSameRules", spec := "fnExactSameRules", apart := false, narrowed := true }
def FnExactSameRulesUptoSaid : Prop := fnExactSameRulesUptoRow.holds Try.pinned (OpenSpec.upto fnExactSameRulesSpec)

/-- 'laws.FnExactIsBalanced', WHERE WHAT IT READS IS OF BULK AT MOST 1048576: true; the input reads as it did. -/
def fnExactIsBalancedUptoRow : OpenClaim := { program := "ytkaaajbnkbnefaa", sum := "9d922da470bc77dd6c6835cf929983faa9e06e766679ad106b9fb7f06c87a34e", func := "loop.example/g00834/laws.FnExactIsBalanced", spec := "fnExactIsBalanced", apart := false, narrowed := true }
def FnExactIsBalancedUptoSaid : Prop := fnExactIsBalancedUptoRow.holds Try.pinned (OpenSpec.upto fnExactIsBalancedSpec)

/-- 'laws.FnExactSameNotes', WHERE WHAT IT READS IS OF BULK AT MOST 1048576: true; the input reads as it did. -/
def fnExactSameNotesUptoRow : OpenClaim := { program := "ytkaaajbnkbnefaa", sum := "9d922da470bc77dd6c6835cf929983faa9e06e766679ad106b9fb7f06c87a34e", func := "loop.example/g00834/laws.FnExactSameNotes", spec := "fnExactSameNotes", apart := false, narrowed := true }
def FnExactSameNotesUptoSaid : Prop := fnExactSameNotesUptoRow.holds Try.pinned (OpenSpec.upto fnExactSameNotesSpec)

/-- 'laws.FnExactRulesOk', WHERE WHAT IT READS IS OF BULK AT MOST 1048576: true; the input reads as it did. -/
def fnExactRulesOkUptoRow : OpenClaim := { program := "ytkaaajbnkbnefaa", sum := "9d922da470bc77dd6c6835cf929983faa9e06e766679ad106b9fb7f06c87a34e", func := "loop.example/g00834/laws.FnExactRulesOk", spec := "fnExactRulesOk", apart := false, narrowed := true }
def FnExactRulesOkUptoSaid : Prop := fnExactRulesOkUptoRow.holds Try.pinned (OpenSpec.upto fnExactRulesOkSpec)

/-- 'laws.FnExactIsDecisive', WHERE WHAT IT READS IS OF BULK AT MOST 1048576: true; the input reads as it did. -/
def fnExactIsDecisiveUptoRow : OpenClaim := { program := "ytkaaajbnkbnefaa", sum := "9d922da470bc77dd6c6835cf929983faa9e06e766679ad106b9fb7f06c87a34e", func := "loop.example/g00834/laws.FnExactIsDecisive", spec := "fnExactIsDecisive", apart := false, narrowed := true }
def FnExactIsDecisiveUptoSaid : Prop := fnExactIsDecisiveUptoRow.holds Try.pinned (OpenSpec.upto fnExactIsDecisiveSpec)

/-- 'laws.FnExactSeasonOk', WHERE WHAT IT READS IS OF BULK AT MOST 1048576: true; the input reads as it did. -/
def fnExactSeasonOkUptoRow : OpenClaim := { program := "ytkaaajbnkbnefaa", sum := "9d922da470bc77dd6c6835cf929983faa9e06e766679ad106b9fb7f06c87a34e", func := "loop.example/g00834/laws.FnExactSeasonOk", spec := "fnExactSeasonOk", unfollowed := true, recurses := true, apart := false, narrowed := true }
def FnExactSeasonOkUptoSaid : Prop := fnExactSeasonOkUptoRow.holds Try.pinned (OpenSpec.upto fnExactSeasonOkSpec)

/-- 'laws.FnExactJoin', WHERE WHAT IT READS IS OF BULK AT MOST 1048576: true; the input reads as it did. -/
def fnExactJoinUptoRow : OpenClaim := { program := "ytkaaajbnkbnefaa", sum := "9d922da470bc77dd6c6835cf929983faa9e06e766679ad106b9fb7f06c87a34e", func := "loop.example/g00834/laws.FnExactJoin", spec := "fnExactJoin", inPlace := ["internal/abi.NoEscape", "internal/bytealg.MakeNoZero"], apart := false, narrowed := true }
def FnExactJoinUptoSaid : Prop := fnExactJoinUptoRow.holds Try.pinned (OpenSpec.upto fnExactJoinSpec)

/-- 'laws.FnExactGamesBetween', WHERE WHAT IT READS IS OF BULK AT MOST 1048576: true; the input reads as it did. -/
def fnExactGamesBetweenUptoRow : OpenClaim := { program := "ytkaaajbnkbnefaa", sum := "9d922da470bc77dd6c6835cf929983faa9e06e766679ad106b9fb7f06c87a34e", func := "loop.example/g00834/laws.FnExactGamesBetween", spec := "fnExactGamesBetween", unfollowed := true, recurses := true, apart := false, narrowed := true }
def FnExactGamesBetweenUptoSaid : Prop := fnExactGamesBetweenUptoRow.holds Try.pinned (OpenSpec.upto fnExactGamesBetweenSpec)

/-- 'laws.FnExactOpenGames', WHERE WHAT IT READS IS OF BULK AT MOST 1048576: true; the input reads as it did. -/
def fnExactOpenGamesUptoRow : OpenClaim := { program := "ytkaaajbnkbnefaa", sum := "9d922da470bc77dd6c6835cf929983faa9e06e766679ad106b9fb7f06c87a34e", func := "loop.example/g00834/laws.FnExactOpenGames", spec := "fnExactOpenGames", unfollowed := true, recurses := true, apart := false, narrowed := true }
def FnExactOpenGamesUptoSaid : Prop := fnExactOpenGamesUptoRow.holds Try.pinned (OpenSpec.upto fnExactOpenGamesSpec)

end Rows
end Go.Proofs.Ytkaaajbnkbnefaa
