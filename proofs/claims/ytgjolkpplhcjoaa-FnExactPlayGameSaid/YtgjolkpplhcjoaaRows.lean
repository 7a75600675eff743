/-
  No cell of these rows narrows 'for every input' (looked for: loops, veiled, ifaces, maps, wideKeys, modest, calm, conditions, laid).
  DERIVED. THE GIVEN ROWS OF THIS SEAT. 12 by the template 'for every input the law returns true; each argument reads behind the call as it read before'; 0 by the template 'total and deterministic' (their statements: YtgjolkpplhcjoaaTotals.lean).
  GIVEN WITH THE SEED: the statements are not yours to turn. If you find one false, say at which input.
  Laid BY PROGRAM, IN A SANDBOX (cutbox-rows.mjs): the forced cells as the released guide's own fill.sh prints them over the translation d1b3a9450bbdf77a… (all of the seat's roots in one cut). By AI agents, Wed Nov 11 2026. No macro, syntax, notation, axiom, sorry.
-/
import Derived.Test.YtgjolkpplhcjoaaChecked
import GoSem.Claim
import GoSem.ClaimJoined
import GoSem.ClaimMapViews
import Derived.JoinedTies
import Derived.KernelRfl
namespace Go.Proofs.Ytgjolkpplhcjoaa
/- THE CELL 'sum', in the pinned program and in every row, IS THE sha256 OF THE DUMP (.gsa) THAT YtgjolkpplhcjoaaProg.lean LOADS. Nothing in Lean hashes anything: it is a label: what it is worth is what the hold of that sum in a sandbox is worth. -/
noncomputable def Try.pinned : Pinned := { name := "ytgjolkpplhcjoaa", sum := "d1b3a9450bbdf77a39ab076f72ad4c515720b1fd661845a401796f5c82819acd", checked := Try.checked }
namespace Rows
def none {H : Type} : Left H := { results := [], args := [] }

/-- 'laws.FnExactKeyName': WHATEVER THE INPUT: true; the input reads as it did. -/
def fnExactKeyNameSpec : ChangeSpec := { name := "fnExactKeyName", fn := fun _ => fun
  | [d] => { results := [.lit (.bool true)], args := [d] }
  | _ => none }
def fnExactKeyNameRow : OpenClaim := { program := "ytgjolkpplhcjoaa", sum := "d1b3a9450bbdf77a39ab076f72ad4c515720b1fd661845a401796f5c82819acd", func := "loop.example/g00834/laws.FnExactKeyName", spec := "fnExactKeyName", apart := false }
def FnExactKeyNameSaid : Prop := fnExactKeyNameRow.holds Try.pinned (OpenSpec.ofChange fnExactKeyNameSpec)

/-- ITS FALSE NEIGHBOUR: 'it returns false'. Refute it at one input. -/
def fnExactKeyNameWrong : ChangeSpec := { name := "fnExactKeyName", fn := fun _ => fun
  | [d] => { results := [.lit (.bool false)], args := [d] }
  | _ => none }
def FnExactKeyNameWrongFalsely : Prop := fnExactKeyNameRow.holds Try.pinned (OpenSpec.ofChange fnExactKeyNameWrong)

/-- 'laws.FnExactKeyNamed': WHATEVER THE INPUT: true; the input reads as it did. -/
def fnExactKeyNamedSpec : ChangeSpec := { name := "fnExactKeyNamed", fn := fun _ => fun
  | [d] => { results := [.lit (.bool true)], args := [d] }
  | _ => none }
def fnExactKeyNamedRow : OpenClaim := { program := "ytgjolkpplhcjoaa", sum := "d1b3a9450bbdf77a39ab076f72ad4c515720b1fd661845a401796f5c82819acd", func := "loop.example/g00834/laws.FnExactKeyNamed", spec := "fnExactKeyNamed", apart := false }
def FnExactKeyNamedSaid : Prop := fnExactKeyNamedRow.holds Try.pinned (OpenSpec.ofChange fnExactKeyNamedSpec)

/-- ITS FALSE NEIGHBOUR: 'it returns false'. Refute it at one input. -/
def fnExactKeyNamedWrong : ChangeSpec := { name := "fnExactKeyNamed", fn := fun _ => fun
  | [d] => { results := [.lit (.bool false)], args := [d] }
  | _ => none }
def FnExactKeyNamedWrongFalsely : Prop := fnExactKeyNamedRow.holds Try.pinned (OpenSpec.ofChange fnExactKeyNamedWrong)

/-- 'laws.FnExactGameOk': WHATEVER THE INPUT: true; the input reads as it did. -/
def fnExactGameOkSpec : ChangeSpec := { name := "fnExactGameOk", fn := fun _ => fun
  | [d1, d2] => { results := [.lit (.bool true)], args := [d1, d2] }
  | _ => none }
def fnExactGameOkRow : OpenClaim := { program := "ytgjolkpplhcjoaa", sum := "d1b3a9450bbdf77a39ab076f72ad4c515720b1fd661845a401796f5c82819acd", func := "loop.example/g00834/laws.FnExactGameOk", spec := "fnExactGameOk", apart := false }
def FnExactGameOkSaid : Prop := fnExactGameOkRow.holds Try.pinned (OpenSpec.ofChange fnExactGameOkSpec)

/-- ITS FALSE NEIGHBOUR: 'it returns false'. Refute it at one input. -/
def fnExactGameOkWrong : ChangeSpec := { name := "fnExactGameOk", fn := fun _ => fun
  | [d1, d2] => { results := [.lit (.bool false)], args := [d1, d2] }
  | _ => none }
def FnExactGameOkWrongFalsely : Prop := fnExactGameOkRow.holds Try.pinned (OpenSpec.ofChange fnExactGameOkWrong)

/-- 'laws.FnExactGoalsOf': WHATEVER THE INPUT: true; the input reads as it did. -/
def fnExactGoalsOfSpec : ChangeSpec := { name := "fnExactGoalsOf", fn := fun _ => fun
  | [d] => { results := [.lit (.bool true)], args := [d] }
  | _ => none }
def fnExactGoalsOfRow : OpenClaim := { program := "ytgjolkpplhcjoaa", sum := "d1b3a9450bbdf77a39ab076f72ad4c515720b1fd661845a401796f5c82819acd", func := "loop.example/g00834/laws.FnExactGoalsOf", spec := "fnExactGoalsOf", apart := false }
def FnExactGoalsOfSaid : Prop := fnExactGoalsOfRow.holds Try.pinned (OpenSpec.ofChange fnExactGoalsOfSpec)

/-- ITS FALSE NEIGHBOUR: 'it returns false'. Refute it at one input. -/
def fnExactGoalsOfWrong : ChangeSpec := { name := "fnExactGoalsOf", fn := fun _ => fun
  | [d] => { results := [.lit (.bool false)], args := [d] }
  | _ => none }
def FnExactGoalsOfWrongFalsely : Prop := fnExactGoalsOfRow.holds Try.pinned (OpenSpec.ofChange fnExactGoalsOfWrong)

/-- 'laws.FnExactPlaceOf': WHATEVER THE INPUT: true; the input reads as it did. -/
def fnExactPlaceOfSpec : ChangeSpec := { name := "fnExactPlaceOf", fn := fun _ => fun
  | [d1, d2] => { results := [.lit (.bool true)], args := [d1, d2] }
  | _ => none }
def fnExactPlaceOfRow : OpenClaim := { program := "ytgjolkpplhcjoaa", sum := "d1b3a9450bbdf77a39ab076f72ad4c515720b1fd661845a401796f5c82819acd", func := "loop.example/g00834/laws.FnExactPlaceOf", spec := "fnExactPlaceOf", apart := false }
def FnExactPlaceOfSaid : Prop := fnExactPlaceOfRow.holds Try.pinned (OpenSpec.ofChange fnExactPlaceOfSpec)

/-- ITS FALSE NEIGHBOUR: 'it returns false'. Refute it at one input. -/
def fnExactPlaceOfWrong : ChangeSpec := { name := "fnExactPlaceOf", fn := fun _ => fun
  | [d1, d2] => { results := [.lit (.bool false)], args := [d1, d2] }
  | _ => none }
def FnExactPlaceOfWrongFalsely : Prop := fnExactPlaceOfRow.holds Try.pinned (OpenSpec.ofChange fnExactPlaceOfWrong)

/-- 'laws.FnExactTeamOk': WHATEVER THE INPUT: true; the input reads as it did. -/
def fnExactTeamOkSpec : ChangeSpec := { name := "fnExactTeamOk", fn := fun _ => fun
  | [d] => { results := [.lit (.bool true)], args := [d] }
  | _ => none }
def fnExactTeamOkRow : OpenClaim := { program := "ytgjolkpplhcjoaa", sum := "d1b3a9450bbdf77a39ab076f72ad4c515720b1fd661845a401796f5c82819acd", func := "loop.example/g00834/laws.FnExactTeamOk", spec := "fnExactTeamOk", apart := false }
def FnExactTeamOkSaid : Prop := fnExactTeamOkRow.holds Try.pinned (OpenSpec.ofChange fnExactTeamOkSpec)

/-- ITS FALSE NEIGHBOUR: 'it returns false'. Refute it at one input. -/
def fnExactTeamOkWrong : ChangeSpec := { name := "fnExactTeamOk", fn := fun _ => fun
  | [d] => { results := [.lit (.bool false)], args := [d] }
  | _ => none }
def FnExactTeamOkWrongFalsely : Prop := fnExactTeamOkRow.holds Try.pinned (OpenSpec.ofChange fnExactTeamOkWrong)

/-- 'laws.FnExactAddRows': WHATEVER THE INPUT: true; the input reads as it did. -/
def fnExactAddRowsSpec : ChangeSpec := { name := "fnExactAddRows", fn := fun _ => fun
  | [d1, d2] => { results := [.lit (.bool true)], args := [d1, d2] }
  | _ => none }
def fnExactAddRowsRow : OpenClaim := { program := "ytgjolkpplhcjoaa", sum := "d1b3a9450bbdf77a39ab076f72ad4c515720b1fd661845a401796f5c82819acd", func := "loop.example/g00834/laws.FnExactAddRows", spec := "fnExactAddRows", apart := false }
def FnExactAddRowsSaid : Prop := fnExactAddRowsRow.holds Try.pinned (OpenSpec.ofChange fnExactAddRowsSpec)

/-- ITS FALSE NEIGHBOUR: 'it returns false'. Refute it at one input. -/
def fnExactAddRowsWrong : ChangeSpec := { name := "fnExactAddRows", fn := fun _ => fun
  | [d1, d2] => { results := [.lit (.bool false)], args := [d1, d2] }
  | _ => none }
def FnExactAddRowsWrongFalsely : Prop := fnExactAddRowsRow.holds Try.pinned (OpenSpec.ofChange fnExactAddRowsWrong)

/-- 'laws.FnExactOutcomeOf': WHATEVER THE INPUT: true; the input reads as it did. -/
def fnExactOutcomeOfSpec : ChangeSpec := { name := "fnExactOutcomeOf", fn := fun _ => fun
  | [d] => { results := [.lit (.bool true)], args := [d] }
  | _ => none }
def fnExactOutcomeOfRow : OpenClaim := { program := "ytgjolkpplhcjoaa", sum := "d1b3a9450bbdf77a39ab076f72ad4c515720b1fd661845a401796f5c82819acd", func := "loop.example/g00834/laws.FnExactOutcomeOf", spec := "fnExactOutcomeOf", apart := false }
def FnExactOutcomeOfSaid : Prop := fnExactOutcomeOfRow.holds Try.pinned (OpenSpec.ofChange fnExactOutcomeOfSpec)

/-- ITS FALSE NEIGHBOUR: 'it returns false'. Refute it at one input. -/
def fnExactOutcomeOfWrong : ChangeSpec := { name := "fnExactOutcomeOf", fn := fun _ => fun
  | [d] => { results := [.lit (.bool false)], args := [d] }
  | _ => none }
def FnExactOutcomeOfWrongFalsely : Prop := fnExactOutcomeOfRow.holds Try.pinned (OpenSpec.ofChange fnExactOutcomeOfWrong)

/-- 'laws.FnExactPlayGame': WHATEVER THE INPUT: true; the input reads as it did. -/
def fnExactPlayGameSpec : ChangeSpec := { name := "fnExactPlayGame", fn := fun _ => fun
  | [d1, d2] => { results := [.lit (.bool true)], args := [d1, d2] }
  | _ => none }
def fnExactPlayGameRow : OpenClaim := { program := "ytgjolkpplhcjoaa", sum := "d1b3a9450bbdf77a39ab076f72ad4c515720b1fd661845a401796f5c82819acd", func := "loop.example/g00834/laws.FnExactPlayGame", spec := "fnExactPlayGame", apart := false }
def FnExactPlayGameSaid : Prop := fnExactPlayGameRow.holds Try.pinned (OpenSpec.ofChange fnExactPlayGameSpec)

/-- ITS FALSE NEIGHBOUR: 'it returns false'. Refute it at one input. -/
def fnExactPlayGameWrong : ChangeSpec := { name := "fnExactPlayGame", fn := fun _ => fun
  | [d1, d2] => { results := [.lit (.bool false)], args := [d1, d2] }
  | _ => none }
def FnExactPlayGameWrongFalsely : Prop := fnExactPlayGameRow.holds Try.pinned (OpenSpec.ofChange fnExactPlayGameWrong)

/-- 'laws.FnExactUsualRules': WHATEVER THE INPUT: true; the input reads as it did. -/
def fnExactUsualRulesSpec : ChangeSpec := { name := "fnExactUsualRules", fn := fun _ => fun
  | [] => { results := [.lit (.bool true)], args := [] }
  | _ => none }
def fnExactUsualRulesRow : OpenClaim := { program := "ytgjolkpplhcjoaa", sum := "d1b3a9450bbdf77a39ab076f72ad4c515720b1fd661845a401796f5c82819acd", func := "loop.example/g00834/laws.FnExactUsualRules", spec := "fnExactUsualRules", apart := false }
def FnExactUsualRulesSaid : Prop := fnExactUsualRulesRow.holds Try.pinned (OpenSpec.ofChange fnExactUsualRulesSpec)

/-- ITS FALSE NEIGHBOUR: 'it returns false'. Refute it at one input. -/
def fnExactUsualRulesWrong : ChangeSpec := { name := "fnExactUsualRules", fn := fun _ => fun
  | [] => { results := [.lit (.bool false)], args := [] }
  | _ => none }
def FnExactUsualRulesWrongFalsely : Prop := fnExactUsualRulesRow.holds Try.pinned (OpenSpec.ofChange fnExactUsualRulesWrong)

/-- 'laws.FnExactSplitAny': WHATEVER THE INPUT: true; the input reads as it did. -/
def fnExactSplitAnySpec : ChangeSpec := { name := "fnExactSplitAny", fn := fun _ => fun
  | [d1, d2] => { results := [.lit (.bool true)], args := [d1, d2] }
  | _ => none }
def fnExactSplitAnyRow : OpenClaim := { program := "ytgjolkpplhcjoaa", sum := "d1b3a9450bbdf77a39ab076f72ad4c515720b1fd661845a401796f5c82819acd", func := "loop.example/g00834/laws.FnExactSplitAny", spec := "fnExactSplitAny", inPlace := ["internal/bytealg.IndexByteString"], apart := false }
def FnExactSplitAnySaid : Prop := fnExactSplitAnyRow.holds Try.pinned (OpenSpec.ofChange fnExactSplitAnySpec)

/-- ITS FALSE NEIGHBOUR: 'it returns false'. Refute it at one input. -/
def fnExactSplitAnyWrong : ChangeSpec := { name := "fnExactSplitAny", fn := fun _ => fun
  | [d1, d2] => { results := [.lit (.bool false)], args := [d1, d2] }
  | _ => none }
def FnExactSplitAnyWrongFalsely : Prop := fnExactSplitAnyRow.holds Try.pinned (OpenSpec.ofChange fnExactSplitAnyWrong)

/-- 'laws.FnExactGameOf': WHATEVER THE INPUT: true; the input reads as it did. -/
def fnExactGameOfSpec : ChangeSpec := { name := "fnExactGameOf", fn := fun _ => fun
  | [d1, d2, d3] => { results := [.lit (.bool true)], args := [d1, d2, d3] }
  | _ => none }
def fnExactGameOfRow : OpenClaim := { program := "ytgjolkpplhcjoaa", sum := "d1b3a9450bbdf77a39ab076f72ad4c515720b1fd661845a401796f5c82819acd", func := "loop.example/g00834/laws.FnExactGameOf", spec := "fnExactGameOf", unfollowed := true, recurses := true, apart := false }
def FnExactGameOfSaid : Prop := fnExactGameOfRow.holds Try.pinned (OpenSpec.ofChange fnExactGameOfSpec)

/-- ITS FALSE NEIGHBOUR: 'it returns false'. Refute it at one input. -/
def fnExactGameOfWrong : ChangeSpec := { name := "fnExactGameOf", fn := fun _ => fun
  | [d1, d2, d3] => { results := [.lit (.bool false)], args := [d1, d2, d3] }
  | _ => none }
def FnExactGameOfWrongFalsely : Prop := fnExactGameOfRow.holds Try.pinned (OpenSpec.ofChange fnExactGameOfWrong)

/- THE SECOND FORM. 'bulk': how many values and letters a reading holds, each counted each time it is reached (what is shared counts as often as it is met; a slice's spare places count too). A statement '..UptoSaid' is the law's where the arguments, and the package variables that the reading takes, are together of bulk at most 1048576: NARROWER than '..Said'. Prove '..Said' where nothing that the law and all that it calls make is longer than what came in: it says more and counts as full. Else prove '..UptoSaid'. A law counts once. -/
mutual
def uptoBulk {H : Type} : DataW H → Nat
  | .lit (.string bytes) => bytes.length + 1
  | .lit _ => 1
  | .nil => 1
  | .ptr d => uptoBulk d + 1
  | .slice elems spare => uptoBulkAll elems + uptoBulkAll spare + 1
  | .agg parts => uptoBulkAll parts + 1
  | .iface _ d => uptoBulk d + 1
  | .map entries => uptoBulkEntries entries + 1
  | .held _ => 1
def uptoBulkAll {H : Type} : List (DataW H) → Nat
  | [] => 0
  | d :: r => uptoBulk d + uptoBulkAll r
def uptoBulkEntries {H : Type} : List (Lit × DataW H) → Nat
  | [] => 0
  | x :: r => uptoBulkEntry x + uptoBulkEntries r
def uptoBulkEntry {H : Type} : Lit × DataW H → Nat
  | (.string bytes, d) => bytes.length + uptoBulk d + 1
  | (_, d) => uptoBulk d + 1
 end
def uptoSmall : (H : Type) → List (DataW H) → Bool := fun _ ds => decide (uptoBulkAll ds ≤ 1048576)
def OpenSpec.upto (s : _root_.Go.ChangeSpec) : _root_.Go.OpenSpec := { _root_.Go.OpenSpec.ofChange s with cond := some uptoSmall }

/-- 'laws.FnExactKeyName', WHERE WHAT IT READS IS OF BULK AT MOST 1048576: true; the input reads as it did. -/
def fnExactKeyNameUptoRow : OpenClaim := { program := "ytgjolkpplhcjoaa", sum := "d1b3a9450bbdf77a39ab076f72ad4c515720b1fd661845a401796f5c82819acd", func := "loop.example/g00834/laws.FnExactKeyName", spec := "fnExactKeyName", apart := false, narrowed := true }
def FnExactKeyNameUptoSaid : Prop := fnExactKeyNameUptoRow.holds Try.pinned (OpenSpec.upto fnExactKeyNameSpec)

/-- 'laws.FnExactKeyNamed', WHERE WHAT IT READS IS OF BULK AT MOST 1048576: true; the input reads as it did. -/
def fnExactKeyNamedUptoRow : OpenClaim := { program := "ytgjolkpplhcjoaa", sum := "d1b3a9450bbdf77a39ab076f72ad4c515720b1fd661845a401796f5c82819acd", func := "loop.example/g00834/laws.FnExactKeyNamed", spec := "fnExactKeyNamed", apart := false, narrowed := true }
def FnExactKeyNamedUptoSaid : Prop := fnExactKeyNamedUptoRow.holds Try.pinned (OpenSpec.upto fnExactKeyNamedSpec)

/-- 'laws.FnExactGameOk', WHERE WHAT IT READS IS OF BULK AT MOST 1048576: true; the input reads as it did. -/
def fnExactGameOkUptoRow : OpenClaim := { program := "ytgjolkpplhcjoaa", sum := "d1b3a9450bbdf77a39ab076f72ad4c515720b1fd661845a401796f5c82819acd", func := "loop.example/g00834/laws.FnExactGameOk", spec := "fnExactGameOk", apart := false, narrowed := true }
def FnExactGameOkUptoSaid : Prop := fnExactGameOkUptoRow.holds Try.pinned (OpenSpec.upto fnExactGameOkSpec)

/-- 'laws.FnExactGoalsOf', WHERE WHAT IT READS IS OF BULK AT MOST 1048576: true; the input reads as it did. -/
def fnExactGoalsOfUptoRow : OpenClaim := { program := "ytgjolkpplhcjoaa", sum := "d1b3a9450bbdf77a39ab076f72ad4c515720b1fd661845a401796f5c82819acd", func := "loop.example/g00834/laws.FnExactGoalsOf", spec := "fnExactGoalsOf", apart := false, narrowed := true }
def FnExactGoalsOfUptoSaid : Prop := fnExactGoalsOfUptoRow.holds Try.pinned (OpenSpec.upto fnExactGoalsOfSpec)

/-- 'laws.FnExactPlaceOf', WHERE WHAT IT READS IS OF BULK AT MOST 1048576: true; the input reads as it did. -/
def fnExactPlaceOfUptoRow : OpenClaim := { program := "ytgjolkpplhcjoaa", sum := "d1b3a9450bbdf77a39ab076f72ad4c515720b1fd661845a401796f5c82819acd", func := "loop.example/g00834/laws.FnExactPlaceOf", spec := "fnExactPlaceOf", apart := false, narrowed := true }
def FnExactPlaceOfUptoSaid : Prop := fnExactPlaceOfUptoRow.holds Try.pinned (OpenSpec.upto fnExactPlaceOfSpec)

/-- 'laws.FnExactTeamOk', WHERE WHAT IT READS IS OF BULK AT MOST 1048576: true; the input reads as it did. -/
def fnExactTeamOkUptoRow : OpenClaim := { program := "ytgjolkpplhcjoaa", sum := "d1b3a9450bbdf77a39ab076f72ad4c515720b1fd661845a401796f5c82819acd", func := "loop.example/g00834/laws.FnExactTeamOk", spec := "fnExactTeamOk", apart := false, narrowed := true }
def FnExactTeamOkUptoSaid : Prop := fnExactTeamOkUptoRow.holds Try.pinned (OpenSpec.upto fnExactTeamOkSpec)

/-- 'laws.FnExactAddRows', WHERE WHAT IT READS IS OF BULK AT MOST 1048576: true; the input reads as it did. -/
def fnExactAddRowsUptoRow : OpenClaim := { program := "ytgjolkpplhcjoaa", sum := "d1b3a9450bbdf77a39ab076f72ad4c515720b1fd661845a401796f5c82819acd", func := "loop.example/g00834/laws.FnExactAddRows", spec := "fnExactAddRows", apart := false, narrowed := true }
def FnExactAddRowsUptoSaid : Prop := fnExactAddRowsUptoRow.holds Try.pinned (OpenSpec.upto fnExactAddRowsSpec)

/-- 'laws.FnExactOutcomeOf', WHERE WHAT IT READS IS OF BULK AT MOST 1048576: true; the input reads as it did. -/
def fnExactOutcomeOfUptoRow : OpenClaim := { program := "ytgjolkpplhcjoaa", sum := "d1b3a9450bbdf77a39ab076f72ad4c515720b1fd661845a401796f5c82819acd", func := "loop.example/g00834/laws.FnExactOutcomeOf", spec := "fnExactOutcomeOf", apart := false, narrowed := true }
def FnExactOutcomeOfUptoSaid : Prop := fnExactOutcomeOfUptoRow.holds Try.pinned (OpenSpec.upto fnExactOutcomeOfSpec)

/-- 'laws.FnExactPlayGame', WHERE WHAT IT READS IS OF BULK AT MOST 1048576: true; the input reads as it did. -/
def fnExactPlayGameUptoRow : OpenClaim := { program := "ytgjolkpplhcjoaa", sum := "d1b3a9450bbdf77a39ab076f72ad4c515720b1fd661845a401796f5c82819acd", func := "loop.example/g00834/laws.FnExactPlayGame", spec := "fnExactPlayGame", apart := false, narrowed := true }
def FnExactPlayGameUptoSaid : Prop := fnExactPlayGameUptoRow.holds Try.pinned (OpenSpec.upto fnExactPlayGameSpec)

/-- 'laws.FnExactUsualRules', WHERE WHAT IT READS IS OF BULK AT MOST 1048576: true; the input reads as it did. -/
def fnExactUsualRulesUptoRow : OpenClaim := { program := "ytgjolkpplhcjoaa", sum := "d1b3a9450bbdf77a39ab076f72ad4c515720b1fd661845a401796f5c82819acd", func := "loop.example/g00834/laws.FnExactUsualRules", spec := "fnExactUsualRules", apart := false, narrowed := true }
def FnExactUsualRulesUptoSaid : Prop := fnExactUsualRulesUptoRow.holds Try.pinned (OpenSpec.upto fnExactUsualRulesSpec)

/-- 'laws.FnExactSplitAny', WHERE WHAT IT READS IS OF BULK AT MOST 1048576: true; the input reads as it did. -/
def fnExactSplitAnyUptoRow : OpenClaim := { program := "ytgjolkpplhcjoaa", sum := "d1b3a9450bbdf77a39ab076f72ad4c515720b1fd661845a401796f5c82819acd", func := "loop.example/g00834/laws.FnExactSplitAny", spec := "fnExactSplitAny", inPlace := ["internal/bytealg.IndexByteString"], apart := false, narrowed := true }
def FnExactSplitAnyUptoSaid : Prop := fnExactSplitAnyUptoRow.holds Try.pinned (OpenSpec.upto fnExactSplitAnySpec)

/-- 'laws.FnExactGameOf', WHERE WHAT IT READS IS OF BULK AT MOST 1048576: true; the input reads as it did. -/
def fnExactGameOfUptoRow : OpenClaim := { program := "ytgjolkpplhcjoaa", sum := "d1b3a9450bbdf77a39ab076f72ad4c515720b1fd661845a401796f5c82819acd", func := "loop.example/g00834/laws.FnExactGameOf", spec := "fnExactGameOf", unfollowed := true, recurses := true, apart := false, narrowed := true }
def FnExactGameOfUptoSaid : Prop := fnExactGameOfUptoRow.holds Try.pinned (OpenSpec.upto fnExactGameOfSpec)

end Rows
end Go.Proofs.Ytgjolkpplhcjoaa
