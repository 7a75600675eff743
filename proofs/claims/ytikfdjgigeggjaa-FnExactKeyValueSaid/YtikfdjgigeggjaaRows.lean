/-
  No cell of these rows narrows 'for every input' (looked for: loops, veiled, ifaces, maps, wideKeys, modest, calm, conditions, laid).
  DERIVED. THE GIVEN ROWS OF THIS SEAT. 7 by the template 'for every input the law returns true; each argument reads behind the call as it read before'; 0 by the template 'total and deterministic' (their statements: YtikfdjgigeggjaaTotals.lean).
  GIVEN WITH THE SEED: the statements are not yours to turn. If you find one false, say at which input.
  Laid BY PROGRAM, IN A SANDBOX (cutbox-rows.mjs): the forced cells as the released guide's own fill.sh prints them over the translation f19e2d78be3ee0bd… (all of the seat's roots in one cut). By AI agents, Wed Nov 11 2026. No macro, syntax, notation, axiom, sorry.
-/
import Derived.Test.YtikfdjgigeggjaaChecked
import GoSem.Claim
import GoSem.ClaimJoined
import GoSem.ClaimMapViews
import Derived.JoinedTies
import Derived.KernelRfl
namespace Go.Proofs.Ytikfdjgigeggjaa
/- THE CELL 'sum', in the pinned program and in every row, IS THE sha256 OF THE DUMP (.gsa) THAT YtikfdjgigeggjaaProg.lean LOADS. Nothing in Lean hashes anything: it is a label: what it is worth is what the hold of that sum in a sandbox is worth. -/
noncomputable def Try.pinned : Pinned := { name := "ytikfdjgigeggjaa", sum := "f19e2d78be3ee0bdb404686ee334d2c5c23fe369d0e91d59defefd2e1310de04", checked := Try.checked }
namespace Rows
def none {H : Type} : Left H := { results := [], args := [] }

/-- 'laws.FnRules': WHATEVER THE INPUT: true; the input reads as it did. -/
def fnRulesSpec : ChangeSpec := { name := "fnRules", fn := fun _ => fun
  | [d] => { results := [.lit (.bool true)], args := [d] }
  | _ => none }
def fnRulesRow : OpenClaim := { program := "ytikfdjgigeggjaa", sum := "f19e2d78be3ee0bdb404686ee334d2c5c23fe369d0e91d59defefd2e1310de04", func := "loop.example/g00834/laws.FnRules", spec := "fnRules", unfollowed := true, recurses := true, apart := false }
def FnRulesSaid : Prop := fnRulesRow.holds Try.pinned (OpenSpec.ofChange fnRulesSpec)

/-- ITS FALSE NEIGHBOUR: 'it returns false'. Refute it at one input. -/
def fnRulesWrong : ChangeSpec := { name := "fnRules", fn := fun _ => fun
  | [d] => { results := [.lit (.bool false)], args := [d] }
  | _ => none }
def FnRulesWrongFalsely : Prop := fnRulesRow.holds Try.pinned (OpenSpec.ofChange fnRulesWrong)

/-- 'laws.FnExactCanonNotes': WHATEVER THE INPUT: true; the input reads as it did. -/
def fnExactCanonNotesSpec : ChangeSpec := { name := "fnExactCanonNotes", fn := fun _ => fun
  | [d] => { results := [.lit (.bool true)], args := [d] }
  | _ => none }
def fnExactCanonNotesRow : OpenClaim := { program := "ytikfdjgigeggjaa", sum := "f19e2d78be3ee0bdb404686ee334d2c5c23fe369d0e91d59defefd2e1310de04", func := "loop.example/g00834/laws.FnExactCanonNotes", spec := "fnExactCanonNotes", unfollowed := true, recurses := true, apart := false }
def FnExactCanonNotesSaid : Prop := fnExactCanonNotesRow.holds Try.pinned (OpenSpec.ofChange fnExactCanonNotesSpec)

/-- ITS FALSE NEIGHBOUR: 'it returns false'. Refute it at one input. -/
def fnExactCanonNotesWrong : ChangeSpec := { name := "fnExactCanonNotes", fn := fun _ => fun
  | [d] => { results := [.lit (.bool false)], args := [d] }
  | _ => none }
def FnExactCanonNotesWrongFalsely : Prop := fnExactCanonNotesRow.holds Try.pinned (OpenSpec.ofChange fnExactCanonNotesWrong)

/-- 'laws.FnExactApplyNotes': WHATEVER THE INPUT: true; the input reads as it did. -/
def fnExactApplyNotesSpec : ChangeSpec := { name := "fnExactApplyNotes", fn := fun _ => fun
  | [d1, d2, d3] => { results := [.lit (.bool true)], args := [d1, d2, d3] }
  | _ => none }
def fnExactApplyNotesRow : OpenClaim := { program := "ytikfdjgigeggjaa", sum := "f19e2d78be3ee0bdb404686ee334d2c5c23fe369d0e91d59defefd2e1310de04", func := "loop.example/g00834/laws.FnExactApplyNotes", spec := "fnExactApplyNotes", unfollowed := true, recurses := true, apart := false }
def FnExactApplyNotesSaid : Prop := fnExactApplyNotesRow.holds Try.pinned (OpenSpec.ofChange fnExactApplyNotesSpec)

/-- ITS FALSE NEIGHBOUR: 'it returns false'. Refute it at one input. -/
def fnExactApplyNotesWrong : ChangeSpec := { name := "fnExactApplyNotes", fn := fun _ => fun
  | [d1, d2, d3] => { results := [.lit (.bool false)], args := [d1, d2, d3] }
  | _ => none }
def FnExactApplyNotesWrongFalsely : Prop := fnExactApplyNotesRow.holds Try.pinned (OpenSpec.ofChange fnExactApplyNotesWrong)

/-- 'laws.FnExactTableOf': WHATEVER THE INPUT: true; the input reads as it did. -/
def fnExactTableOfSpec : ChangeSpec := { name := "fnExactTableOf", fn := fun _ => fun
  | [d1, d2, d3] => { results := [.lit (.bool true)], args := [d1, d2, d3] }
  | _ => none }
def fnExactTableOfRow : OpenClaim := { program := "ytikfdjgigeggjaa", sum := "f19e2d78be3ee0bdb404686ee334d2c5c23fe369d0e91d59defefd2e1310de04", func := "loop.example/g00834/laws.FnExactTableOf", spec := "fnExactTableOf", unfollowed := true, recurses := true, apart := false }
def FnExactTableOfSaid : Prop := fnExactTableOfRow.holds Try.pinned (OpenSpec.ofChange fnExactTableOfSpec)

/-- ITS FALSE NEIGHBOUR: 'it returns false'. Refute it at one input. -/
def fnExactTableOfWrong : ChangeSpec := { name := "fnExactTableOf", fn := fun _ => fun
  | [d1, d2, d3] => { results := [.lit (.bool false)], args := [d1, d2, d3] }
  | _ => none }
def FnExactTableOfWrongFalsely : Prop := fnExactTableOfRow.holds Try.pinned (OpenSpec.ofChange fnExactTableOfWrong)

/-- 'laws.FnExactTableAmong': WHATEVER THE INPUT: true; the input reads as it did. -/
def fnExactTableAmongSpec : ChangeSpec := { name := "fnExactTableAmong", fn := fun _ => fun
  | [d1, d2, d3, d4] => { results := [.lit (.bool true)], args := [d1, d2, d3, d4] }
  | _ => none }
def fnExactTableAmongRow : OpenClaim := { program := "ytikfdjgigeggjaa", sum := "f19e2d78be3ee0bdb404686ee334d2c5c23fe369d0e91d59defefd2e1310de04", func := "loop.example/g00834/laws.FnExactTableAmong", spec := "fnExactTableAmong", unfollowed := true, recurses := true, apart := false }
def FnExactTableAmongSaid : Prop := fnExactTableAmongRow.holds Try.pinned (OpenSpec.ofChange fnExactTableAmongSpec)

/-- ITS FALSE NEIGHBOUR: 'it returns false'. Refute it at one input. -/
def fnExactTableAmongWrong : ChangeSpec := { name := "fnExactTableAmong", fn := fun _ => fun
  | [d1, d2, d3, d4] => { results := [.lit (.bool false)], args := [d1, d2, d3, d4] }
  | _ => none }
def FnExactTableAmongWrongFalsely : Prop := fnExactTableAmongRow.holds Try.pinned (OpenSpec.ofChange fnExactTableAmongWrong)

/-- 'laws.FnTables': WHATEVER THE INPUT: true; the input reads as it did. -/
def fnTablesSpec : ChangeSpec := { name := "fnTables", fn := fun _ => fun
  | [d] => { results := [.lit (.bool true)], args := [d] }
  | _ => none }
def fnTablesRow : OpenClaim := { program := "ytikfdjgigeggjaa", sum := "f19e2d78be3ee0bdb404686ee334d2c5c23fe369d0e91d59defefd2e1310de04", func := "loop.example/g00834/laws.FnTables", spec := "fnTables", unfollowed := true, recurses := true, apart := false }
def FnTablesSaid : Prop := fnTablesRow.holds Try.pinned (OpenSpec.ofChange fnTablesSpec)

/-- ITS FALSE NEIGHBOUR: 'it returns false'. Refute it at one input. -/
def fnTablesWrong : ChangeSpec := { name := "fnTables", fn := fun _ => fun
  | [d] => { results := [.lit (.bool false)], args := [d] }
  | _ => none }
def FnTablesWrongFalsely : Prop := fnTablesRow.holds Try.pinned (OpenSpec.ofChange fnTablesWrong)

/-- 'laws.FnExactKeyValue': WHATEVER THE INPUT: true; the input reads as it did. -/
def fnExactKeyValueSpec : ChangeSpec := { name := "fnExactKeyValue", fn := fun _ => fun
  | [d1, d2, d3, d4] => { results := [.lit (.bool true)], args := [d1, d2, d3, d4] }
  | _ => none }
def fnExactKeyValueRow : OpenClaim := { program := "ytikfdjgigeggjaa", sum := "f19e2d78be3ee0bdb404686ee334d2c5c23fe369d0e91d59defefd2e1310de04", func := "loop.example/g00834/laws.FnExactKeyValue", spec := "fnExactKeyValue", unfollowed := true, recurses := true, apart := false }
def FnExactKeyValueSaid : Prop := fnExactKeyValueRow.holds Try.pinned (OpenSpec.ofChange fnExactKeyValueSpec)

/-- ITS FALSE NEIGHBOUR: 'it returns false'. Refute it at one input. -/
def fnExactKeyValueWrong : ChangeSpec := { name := "fnExactKeyValue", fn := fun _ => fun
  | [d1, d2, d3, d4] => { results := [.lit (.bool false)], args := [d1, d2, d3, d4] }
  | _ => none }
def FnExactKeyValueWrongFalsely : Prop := fnExactKeyValueRow.holds Try.pinned (OpenSpec.ofChange fnExactKeyValueWrong)

/- THE SECOND FORM. 'bulk': how many values and letters a reading holds, each counted each time it is reached (what is shared counts as often as it is met; a slice's spare places count too). A statement '..UptoSaid' is the law's where the arguments, and the package variables that the reading takes, are together of bulk at most 1048576: NARROWER than '..Said'. Prove '..Said' where nothing that the law and all that it calls make is longer than what came in: it says more and counts as full. Else prove '..UptoSaid'. A law counts once. -/
mutual
def uptoBulk {H : Type} : DataW H → Nat
  | .lit (.string bytes) => bytes.length + 1
  | .lit _ => 1
  | .nil => 1
  | .ptr d => uptoBulk d + 1
  | .slice elems spare => uptoBulkAll elems + uptoBulkAll spare + 1
  | .agg parts => uptoBulkAll parts + 1
  | .iface _ d => uptoBulk d + 1
  | .map entries => uptoBulkEntries entries + 1
  | .held _ => 1
def uptoBulkAll {H : Type} : List (DataW H) → Nat
  | [] => 0
  | d :: r => uptoBulk d + uptoBulkAll r
def uptoBulkEntries {H : Type} : List (Lit × DataW H) → Nat
  | [] => 0
  | x :: r => uptoBulkEntry x + uptoBulkEntries r
def uptoBulkEntry {H : Type} : Lit × DataW H → Nat
  | (.string bytes, d) => bytes.length + uptoBulk d + 1
  | (_, d) => uptoBulk d + 1
 end
def uptoSmall : (H : Type) → List (DataW H) → Bool := fun _ ds => decide (uptoBulkAll ds ≤ 1048576)
def OpenSpec.upto (s : _root_.Go.ChangeSpec) : _root_.Go.OpenSpec := { _root_.Go.OpenSpec.ofChange s with cond := some uptoSmall }

/-- 'laws.FnRules', WHERE WHAT IT READS IS OF BULK AT MOST 1048576: true; the input reads as it did. -/
def fnRulesUptoRow : OpenClaim := { program := "ytikfdjgigeggjaa", sum := "f19e2d78be3ee0bdb404686ee334d2c5c23fe369d0e91d59defefd2e1310de04", func := "loop.example/g00834/laws.FnRules", spec := "fnRules", unfollowed := true, recurses := true, apart := false, narrowed := true }
def FnRulesUptoSaid : Prop := fnRulesUptoRow.holds Try.pinned (OpenSpec.upto fnRulesSpec)

/-- 'laws.FnExactCanonNotes', WHERE WHAT IT READS IS OF BULK AT MOST 1048576: true; the input reads as it did. -/
def fnExactCanonNotesUptoRow : OpenClaim := { program := "ytikfdjgigeggjaa", sum := "f19e2d78be3ee0bdb404686ee334d2c5c23fe369d0e91d59defefd2e1310de04", func := "loop.example/g00834/laws.FnExactCanonNotes", spec := "fnExactCanonNotes", unfollowed := true, recurses := true, apart := false, narrowed := true }
def FnExactCanonNotesUptoSaid : Prop := fnExactCanonNotesUptoRow.holds Try.pinned (OpenSpec.upto fnExactCanonNotesSpec)

/-- 'laws.FnExactApplyNotes', WHERE WHAT IT READS IS OF BULK AT MOST 1048576: true; the input reads as it did. -/
def fnExactApplyNotesUptoRow : OpenClaim := { program := "ytikfdjgigeggjaa", sum := "f19e2d78be3ee0bdb404686ee334d2c5c23fe369d0e91d59defefd2e1310de04", func := "loop.example/g00834/laws.FnExactApplyNotes", spec := "fnExactApplyNotes", unfollowed := true, recurses := true, apart := false, narrowed := true }
def FnExactApplyNotesUptoSaid : Prop := fnExactApplyNotesUptoRow.holds Try.pinned (OpenSpec.upto fnExactApplyNotesSpec)

/-- 'laws.FnExactTableOf', WHERE WHAT IT READS IS OF BULK AT MOST 1048576: true; the input reads as it did. -/
def fnExactTableOfUptoRow : OpenClaim := { program := "ytikfdjgigeggjaa", sum := "f19e2d78be3ee0bdb404686ee334d2c5c23fe369d0e91d59defefd2e1310de04", func := "loop.example/g00834/laws.FnExactTableOf", spec := "fnExactTableOf", unfollowed := true, recurses := true, apart := false, narrowed := true }
def FnExactTableOfUptoSaid : Prop := fnExactTableOfUptoRow.holds Try.pinned (OpenSpec.upto fnExactTableOfSpec)

/-- 'laws.FnExactTableAmong', WHERE WHAT IT READS IS OF BULK AT MOST 1048576: true; the input reads as it did. -/
def fnExactTableAmongUptoRow : OpenClaim := { program := "ytikfdjgigeggjaa", sum := "f19e2d78be3ee0bdb404686ee334d2c5c23fe369d0e91d59defefd2e1310de04", func := "loop.example/g00834/laws.FnExactTableAmong", spec := "fnExactTableAmong", unfollowed := true, recurses := true, apart := false, narrowed := true }
def FnExactTableAmongUptoSaid : Prop := fnExactTableAmongUptoRow.holds Try.pinned (OpenSpec.upto fnExactTableAmongSpec)

/-- 'laws.FnTables', WHERE WHAT IT READS IS OF BULK AT MOST 1048576: true; the input reads as it did. -/
def fnTablesUptoRow : OpenClaim := { program := "ytikfdjgigeggjaa", sum := "f19e2d78be3ee0bdb404686ee334d2c5c23fe369d0e91d59defefd2e1310de04", func := "loop.example/g00834/laws.FnTables", spec := "fnTables", unfollowed := true, recurses := true, apart := false, narrowed := true }
def FnTablesUptoSaid : Prop := fnTablesUptoRow.holds Try.pinned (OpenSpec.upto fnTablesSpec)

/-- 'laws.FnExactKeyValue', WHERE WHAT IT READS IS OF BULK AT MOST 1048576: true; the input reads as it did. -/
def fnExactKeyValueUptoRow : OpenClaim := { program := "ytikfdjgigeggjaa", sum := "f19e2d78be3ee0bdb404686ee334d2c5c23fe369d0e91d59defefd2e1310de04", func := "loop.example/g00834/laws.FnExactKeyValue", spec := "fnExactKeyValue", unfollowed := true, recurses := true, apart := false, narrowed := true }
def FnExactKeyValueUptoSaid : Prop := fnExactKeyValueUptoRow.holds Try.pinned (OpenSpec.upto fnExactKeyValueSpec)

end Rows
end Go.Proofs.Ytikfdjgigeggjaa
