/-
  No cell of these rows narrows 'for every input' (looked for: loops, veiled, ifaces, maps, wideKeys, modest, calm, conditions, laid).
  DERIVED. THE GIVEN ROWS OF THIS SEAT. 12 by the template 'for every input the law returns true; each argument reads behind the call as it read before'; 0 by the template 'total and deterministic' (their statements: YtapmiocpkddbfaaTotals.lean).
  GIVEN WITH THE SEED: the statements are not yours to turn. If you find one false, say at which input.
  Laid BY PROGRAM, IN A SANDBOX (cutbox-rows.mjs): the forced cells as the released guide's own fill.sh prints them over the translation f37c4227c28ccbc2… (all of the seat's roots in one cut). By AI agents, Wed Nov 11 2026. No macro, syntax, notation, axiom, sorry.
-/
import Derived.Test.YtapmiocpkddbfaaChecked
import GoSem.Claim
import GoSem.ClaimJoined
import GoSem.ClaimMapViews
import Derived.JoinedTies
import Derived.KernelRfl
namespace Go.Proofs.Ytapmiocpkddbfaa
/- THE CELL 'sum', in the pinned program and in every row, IS THE sha256 OF THE DUMP (.gsa) THAT YtapmiocpkddbfaaProg.lean LOADS. Nothing in Lean hashes anything: it is a label: what it is worth is what the hold of that sum in a sandbox is worth. -/
noncomputable def Try.pinned : Pinned := { name := "ytapmiocpkddbfaa", sum := "f37c4227c28ccbc2a2bf0596e610b45c090f14cf40e84e2f8f8088333edaaf68", checked := Try.checked }
namespace Rows
def none {H : Type} : Left H := { results := [], args := [] }

/-- 'laws.FnExactFieldOk': WHATEVER THE INPUT: true; the input reads as it did. -/
def fnExactFieldOkSpec : ChangeSpec := { name := "fnExactFieldOk", fn := fun _ => fun
  | [d] => { results := [.lit (.bool true)], args := [d] }
  | _ => none }
def fnExactFieldOkRow : OpenClaim := { program := "ytapmiocpkddbfaa", sum := "f37c4227c28ccbc2a2bf0596e610b45c090f14cf40e84e2f8f8088333edaaf68", func := "loop.example/g00834/laws.FnExactFieldOk", spec := "fnExactFieldOk", unfollowed := true, recurses := true, apart := false }
def FnExactFieldOkSaid : Prop := fnExactFieldOkRow.holds Try.pinned (OpenSpec.ofChange fnExactFieldOkSpec)

/-- ITS FALSE NEIGHBOUR: 'it returns false'. Refute it at one input. -/
def fnExactFieldOkWrong : ChangeSpec := { name := "fnExactFieldOk", fn := fun _ => fun
  | [d] => { results := [.lit (.bool false)], args := [d] }
  | _ => none }
def FnExactFieldOkWrongFalsely : Prop := fnExactFieldOkRow.holds Try.pinned (OpenSpec.ofChange fnExactFieldOkWrong)

/-- 'laws.FnExactClubsOf': WHATEVER THE INPUT: true; the input reads as it did. -/
def fnExactClubsOfSpec : ChangeSpec := { name := "fnExactClubsOf", fn := fun _ => fun
  | [d] => { results := [.lit (.bool true)], args := [d] }
  | _ => none }
def fnExactClubsOfRow : OpenClaim := { program := "ytapmiocpkddbfaa", sum := "f37c4227c28ccbc2a2bf0596e610b45c090f14cf40e84e2f8f8088333edaaf68", func := "loop.example/g00834/laws.FnExactClubsOf", spec := "fnExactClubsOf", unfollowed := true, recurses := true, apart := false }
def FnExactClubsOfSaid : Prop := fnExactClubsOfRow.holds Try.pinned (OpenSpec.ofChange fnExactClubsOfSpec)

/-- ITS FALSE NEIGHBOUR: 'it returns false'. Refute it at one input. -/
def fnExactClubsOfWrong : ChangeSpec := { name := "fnExactClubsOf", fn := fun _ => fun
  | [d] => { results := [.lit (.bool false)], args := [d] }
  | _ => none }
def FnExactClubsOfWrongFalsely : Prop := fnExactClubsOfRow.holds Try.pinned (OpenSpec.ofChange fnExactClubsOfWrong)

/-- 'laws.FnExactOfClub': WHATEVER THE INPUT: true; the input reads as it did. -/
def fnExactOfClubSpec : ChangeSpec := { name := "fnExactOfClub", fn := fun _ => fun
  | [d1, d2] => { results := [.lit (.bool true)], args := [d1, d2] }
  | _ => none }
def fnExactOfClubRow : OpenClaim := { program := "ytapmiocpkddbfaa", sum := "f37c4227c28ccbc2a2bf0596e610b45c090f14cf40e84e2f8f8088333edaaf68", func := "loop.example/g00834/laws.FnExactOfClub", spec := "fnExactOfClub", unfollowed := true, recurses := true, apart := false }
def FnExactOfClubSaid : Prop := fnExactOfClubRow.holds Try.pinned (OpenSpec.ofChange fnExactOfClubSpec)

/-- ITS FALSE NEIGHBOUR: 'it returns false'. Refute it at one input. -/
def fnExactOfClubWrong : ChangeSpec := { name := "fnExactOfClub", fn := fun _ => fun
  | [d1, d2] => { results := [.lit (.bool false)], args := [d1, d2] }
  | _ => none }
def FnExactOfClubWrongFalsely : Prop := fnExactOfClubRow.holds Try.pinned (OpenSpec.ofChange fnExactOfClubWrong)

/-- 'laws.FnExactSeedOrder': WHATEVER THE INPUT: true; the input reads as it did. -/
def fnExactSeedOrderSpec : ChangeSpec := { name := "fnExactSeedOrder", fn := fun _ => fun
  | [d] => { results := [.lit (.bool true)], args := [d] }
  | _ => none }
def fnExactSeedOrderRow : OpenClaim := { program := "ytapmiocpkddbfaa", sum := "f37c4227c28ccbc2a2bf0596e610b45c090f14cf40e84e2f8f8088333edaaf68", func := "loop.example/g00834/laws.FnExactSeedOrder", spec := "fnExactSeedOrder", unfollowed := true, recurses := true, apart := false }
def FnExactSeedOrderSaid : Prop := fnExactSeedOrderRow.holds Try.pinned (OpenSpec.ofChange fnExactSeedOrderSpec)

/-- ITS FALSE NEIGHBOUR: 'it returns false'. Refute it at one input. -/
def fnExactSeedOrderWrong : ChangeSpec := { name := "fnExactSeedOrder", fn := fun _ => fun
  | [d] => { results := [.lit (.bool false)], args := [d] }
  | _ => none }
def FnExactSeedOrderWrongFalsely : Prop := fnExactSeedOrderRow.holds Try.pinned (OpenSpec.ofChange fnExactSeedOrderWrong)

/-- 'laws.FnExactFaultOf': WHATEVER THE INPUT: true; the input reads as it did. -/
def fnExactFaultOfSpec : ChangeSpec := { name := "fnExactFaultOf", fn := fun _ => fun
  | [d] => { results := [.lit (.bool true)], args := [d] }
  | _ => none }
def fnExactFaultOfRow : OpenClaim := { program := "ytapmiocpkddbfaa", sum := "f37c4227c28ccbc2a2bf0596e610b45c090f14cf40e84e2f8f8088333edaaf68", func := "loop.example/g00834/laws.FnExactFaultOf", spec := "fnExactFaultOf", unfollowed := true, recurses := true, apart := false }
def FnExactFaultOfSaid : Prop := fnExactFaultOfRow.holds Try.pinned (OpenSpec.ofChange fnExactFaultOfSpec)

/-- ITS FALSE NEIGHBOUR: 'it returns false'. Refute it at one input. -/
def fnExactFaultOfWrong : ChangeSpec := { name := "fnExactFaultOf", fn := fun _ => fun
  | [d] => { results := [.lit (.bool false)], args := [d] }
  | _ => none }
def FnExactFaultOfWrongFalsely : Prop := fnExactFaultOfRow.holds Try.pinned (OpenSpec.ofChange fnExactFaultOfWrong)

/-- 'laws.FnRules': WHATEVER THE INPUT: true; the input reads as it did. -/
def fnRulesSpec : ChangeSpec := { name := "fnRules", fn := fun _ => fun
  | [d] => { results := [.lit (.bool true)], args := [d] }
  | _ => none }
def fnRulesRow : OpenClaim := { program := "ytapmiocpkddbfaa", sum := "f37c4227c28ccbc2a2bf0596e610b45c090f14cf40e84e2f8f8088333edaaf68", func := "loop.example/g00834/laws.FnRules", spec := "fnRules", unfollowed := true, recurses := true, apart := false }
def FnRulesSaid : Prop := fnRulesRow.holds Try.pinned (OpenSpec.ofChange fnRulesSpec)

/-- ITS FALSE NEIGHBOUR: 'it returns false'. Refute it at one input. -/
def fnRulesWrong : ChangeSpec := { name := "fnRules", fn := fun _ => fun
  | [d] => { results := [.lit (.bool false)], args := [d] }
  | _ => none }
def FnRulesWrongFalsely : Prop := fnRulesRow.holds Try.pinned (OpenSpec.ofChange fnRulesWrong)

/-- 'laws.FnExactNoteOk': WHATEVER THE INPUT: true; the input reads as it did. -/
def fnExactNoteOkSpec : ChangeSpec := { name := "fnExactNoteOk", fn := fun _ => fun
  | [d1, d2, d3] => { results := [.lit (.bool true)], args := [d1, d2, d3] }
  | _ => none }
def fnExactNoteOkRow : OpenClaim := { program := "ytapmiocpkddbfaa", sum := "f37c4227c28ccbc2a2bf0596e610b45c090f14cf40e84e2f8f8088333edaaf68", func := "loop.example/g00834/laws.FnExactNoteOk", spec := "fnExactNoteOk", unfollowed := true, recurses := true, apart := false }
def FnExactNoteOkSaid : Prop := fnExactNoteOkRow.holds Try.pinned (OpenSpec.ofChange fnExactNoteOkSpec)

/-- ITS FALSE NEIGHBOUR: 'it returns false'. Refute it at one input. -/
def fnExactNoteOkWrong : ChangeSpec := { name := "fnExactNoteOk", fn := fun _ => fun
  | [d1, d2, d3] => { results := [.lit (.bool false)], args := [d1, d2, d3] }
  | _ => none }
def FnExactNoteOkWrongFalsely : Prop := fnExactNoteOkRow.holds Try.pinned (OpenSpec.ofChange fnExactNoteOkWrong)

/-- 'laws.FnGames': WHATEVER THE INPUT: true; the input reads as it did. -/
def fnGamesSpec : ChangeSpec := { name := "fnGames", fn := fun _ => fun
  | [d] => { results := [.lit (.bool true)], args := [d] }
  | _ => none }
def fnGamesRow : OpenClaim := { program := "ytapmiocpkddbfaa", sum := "f37c4227c28ccbc2a2bf0596e610b45c090f14cf40e84e2f8f8088333edaaf68", func := "loop.example/g00834/laws.FnGames", spec := "fnGames", unfollowed := true, recurses := true, apart := false }
def FnGamesSaid : Prop := fnGamesRow.holds Try.pinned (OpenSpec.ofChange fnGamesSpec)

/-- ITS FALSE NEIGHBOUR: 'it returns false'. Refute it at one input. -/
def fnGamesWrong : ChangeSpec := { name := "fnGames", fn := fun _ => fun
  | [d] => { results := [.lit (.bool false)], args := [d] }
  | _ => none }
def FnGamesWrongFalsely : Prop := fnGamesRow.holds Try.pinned (OpenSpec.ofChange fnGamesWrong)

/-- 'laws.FnExactUpTo': WHATEVER THE INPUT: true; the input reads as it did. -/
def fnExactUpToSpec : ChangeSpec := { name := "fnExactUpTo", fn := fun _ => fun
  | [d1, d2] => { results := [.lit (.bool true)], args := [d1, d2] }
  | _ => none }
def fnExactUpToRow : OpenClaim := { program := "ytapmiocpkddbfaa", sum := "f37c4227c28ccbc2a2bf0596e610b45c090f14cf40e84e2f8f8088333edaaf68", func := "loop.example/g00834/laws.FnExactUpTo", spec := "fnExactUpTo", unfollowed := true, recurses := true, apart := false }
def FnExactUpToSaid : Prop := fnExactUpToRow.holds Try.pinned (OpenSpec.ofChange fnExactUpToSpec)

/-- ITS FALSE NEIGHBOUR: 'it returns false'. Refute it at one input. -/
def fnExactUpToWrong : ChangeSpec := { name := "fnExactUpTo", fn := fun _ => fun
  | [d1, d2] => { results := [.lit (.bool false)], args := [d1, d2] }
  | _ => none }
def FnExactUpToWrongFalsely : Prop := fnExactUpToRow.holds Try.pinned (OpenSpec.ofChange fnExactUpToWrong)

/-- 'laws.FnExactNotesOk': WHATEVER THE INPUT: true; the input reads as it did. -/
def fnExactNotesOkSpec : ChangeSpec := { name := "fnExactNotesOk", fn := fun _ => fun
  | [d1, d2, d3] => { results := [.lit (.bool true)], args := [d1, d2, d3] }
  | _ => none }
def fnExactNotesOkRow : OpenClaim := { program := "ytapmiocpkddbfaa", sum := "f37c4227c28ccbc2a2bf0596e610b45c090f14cf40e84e2f8f8088333edaaf68", func := "loop.example/g00834/laws.FnExactNotesOk", spec := "fnExactNotesOk", unfollowed := true, recurses := true, apart := false }
def FnExactNotesOkSaid : Prop := fnExactNotesOkRow.holds Try.pinned (OpenSpec.ofChange fnExactNotesOkSpec)

/-- ITS FALSE NEIGHBOUR: 'it returns false'. Refute it at one input. -/
def fnExactNotesOkWrong : ChangeSpec := { name := "fnExactNotesOk", fn := fun _ => fun
  | [d1, d2, d3] => { results := [.lit (.bool false)], args := [d1, d2, d3] }
  | _ => none }
def FnExactNotesOkWrongFalsely : Prop := fnExactNotesOkRow.holds Try.pinned (OpenSpec.ofChange fnExactNotesOkWrong)

/-- 'laws.FnExactBookOk': WHATEVER THE INPUT: true; the input reads as it did. -/
def fnExactBookOkSpec : ChangeSpec := { name := "fnExactBookOk", fn := fun _ => fun
  | [d] => { results := [.lit (.bool true)], args := [d] }
  | _ => none }
def fnExactBookOkRow : OpenClaim := { program := "ytapmiocpkddbfaa", sum := "f37c4227c28ccbc2a2bf0596e610b45c090f14cf40e84e2f8f8088333edaaf68", func := "loop.example/g00834/laws.FnExactBookOk", spec := "fnExactBookOk", unfollowed := true, recurses := true, apart := false }
def FnExactBookOkSaid : Prop := fnExactBookOkRow.holds Try.pinned (OpenSpec.ofChange fnExactBookOkSpec)

/-- ITS FALSE NEIGHBOUR: 'it returns false'. Refute it at one input. -/
def fnExactBookOkWrong : ChangeSpec := { name := "fnExactBookOk", fn := fun _ => fun
  | [d] => { results := [.lit (.bool false)], args := [d] }
  | _ => none }
def FnExactBookOkWrongFalsely : Prop := fnExactBookOkRow.holds Try.pinned (OpenSpec.ofChange fnExactBookOkWrong)

/-- 'laws.FnExactPadZeros': WHATEVER THE INPUT: true; the input reads as it did. -/
def fnExactPadZerosSpec : ChangeSpec := { name := "fnExactPadZeros", fn := fun _ => fun
  | [d1, d2] => { results := [.lit (.bool true)], args := [d1, d2] }
  | _ => none }
def fnExactPadZerosRow : OpenClaim := { program := "ytapmiocpkddbfaa", sum := "f37c4227c28ccbc2a2bf0596e610b45c090f14cf40e84e2f8f8088333edaaf68", func := "loop.example/g00834/laws.FnExactPadZeros", spec := "fnExactPadZeros", inPlace := ["internal/abi.NoEscape", "internal/bytealg.MakeNoZero"], apart := false }
def FnExactPadZerosSaid : Prop := fnExactPadZerosRow.holds Try.pinned (OpenSpec.ofChange fnExactPadZerosSpec)

/-- ITS FALSE NEIGHBOUR: 'it returns false'. Refute it at one input. -/
def fnExactPadZerosWrong : ChangeSpec := { name := "fnExactPadZeros", fn := fun _ => fun
  | [d1, d2] => { results := [.lit (.bool false)], args := [d1, d2] }
  | _ => none }
def FnExactPadZerosWrongFalsely : Prop := fnExactPadZerosRow.holds Try.pinned (OpenSpec.ofChange fnExactPadZerosWrong)

/- THE SECOND FORM. 'bulk': how many values and letters a reading holds, each counted each time it is reached (what is shared counts as often as it is met; a slice's spare places count too). A statement '..UptoSaid' is the law's where the arguments, and the package variables that the reading takes, are together of bulk at most 1048576: NARROWER than '..Said'. Prove '..Said' where nothing that the law and all that it calls make is longer than what came in: it says more and counts as full. Else prove '..UptoSaid'. A law counts once. -/
mutual
def uptoBulk {H : Type} : DataW H → Nat
  | .lit (.string bytes) => bytes.length + 1
  | .lit _ => 1
  | .nil => 1
  | .ptr d => uptoBulk d + 1
  | .slice elems spare => uptoBulkAll elems + uptoBulkAll spare + 1
  | .agg parts => uptoBulkAll parts + 1
  | .iface _ d => uptoBulk d + 1
  | .map entries => uptoBulkEntries entries + 1
  | .held _ => 1
def uptoBulkAll {H : Type} : List (DataW H) → Nat
  | [] => 0
  | d :: r => uptoBulk d + uptoBulkAll r
def uptoBulkEntries {H : Type} : List (Lit × DataW H) → Nat
  | [] => 0
  | x :: r => uptoBulkEntry x + uptoBulkEntries r
def uptoBulkEntry {H : Type} : Lit × DataW H → Nat
  | (.string bytes, d) => bytes.length + uptoBulk d + 1
  | (_, d) => uptoBulk d + 1
 end
def uptoSmall : (H : Type) → List (DataW H) → Bool := fun _ ds => decide (uptoBulkAll ds ≤ 1048576)
def OpenSpec.upto (s : _root_.Go.ChangeSpec) : _root_.Go.OpenSpec := { _root_.Go.OpenSpec.ofChange s with cond := some uptoSmall }

/-- 'laws.FnExactFieldOk', WHERE WHAT IT READS IS OF BULK AT MOST 1048576: true; the input reads as it did. -/
def fnExactFieldOkUptoRow : OpenClaim := { program := "ytapmiocpkddbfaa", sum := "f37c4227c28ccbc2a2bf0596e610b45c090f14cf40e84e2f8f8088333edaaf68", func := "loop.example/g00834/laws.FnExactFieldOk", spec := "fnExactFieldOk", unfollowed := true, recurses := true, apart := false, narrowed := true }
def FnExactFieldOkUptoSaid : Prop := fnExactFieldOkUptoRow.holds Try.pinned (OpenSpec.upto fnExactFieldOkSpec)

/-- 'laws.FnExactClubsOf', WHERE WHAT IT READS IS OF BULK AT MOST 1048576: true; the input reads as it did. -/
def fnExactClubsOfUptoRow : OpenClaim := { program := "ytapmiocpkddbfaa", sum := "f37c4227c28ccbc2a2bf0596e610b45c090f14cf40e84e2f8f8088333edaaf68", func := "loop.example/g00834/laws.FnExactClubsOf", spec := "fnExactClubsOf", unfollowed := true, recurses := true, apart := false, narrowed := true }
def FnExactClubsOfUptoSaid : Prop := fnExactClubsOfUptoRow.holds Try.pinned (OpenSpec.upto fnExactClubsOfSpec)

/-- 'laws.FnExactOfClub', WHERE WHAT IT READS IS OF BULK AT MOST 1048576: true; the input reads as it did. -/
def fnExactOfClubUptoRow : OpenClaim := { program := "ytapmiocpkddbfaa", sum := "f37c4227c28ccbc2a2bf0596e610b45c090f14cf40e84e2f8f8088333edaaf68", func := "loop.example/g00834/laws.FnExactOfClub", spec := "fnExactOfClub", unfollowed := true, recurses := true, apart := false, narrowed := true }
def FnExactOfClubUptoSaid : Prop := fnExactOfClubUptoRow.holds Try.pinned (OpenSpec.upto fnExactOfClubSpec)

/-- 'laws.FnExactSeedOrder', WHERE WHAT IT READS IS OF BULK AT MOST 1048576: true; the input reads as it did. -/
def fnExactSeedOrderUptoRow : OpenClaim := { program := "ytapmiocpkddbfaa", sum := "f37c4227c28ccbc2a2bf0596e610b45c090f14cf40e84e2f8f8088333edaaf68", func := "loop.example/g00834/laws.FnExactSeedOrder", spec := "fnExactSeedOrder", unfollowed := true, recurses := true, apart := false, narrowed := true }
def FnExactSeedOrderUptoSaid : Prop := fnExactSeedOrderUptoRow.holds Try.pinned (OpenSpec.upto fnExactSeedOrderSpec)

/-- 'laws.FnExactFaultOf', WHERE WHAT IT READS IS OF BULK AT MOST 1048576: true; the input reads as it did. -/
def fnExactFaultOfUptoRow : OpenClaim := { program := "ytapmiocpkddbfaa", sum := "f37c4227c28ccbc2a2bf0596e610b45c090f14cf40e84e2f8f8088333edaaf68", func := "loop.example/g00834/laws.FnExactFaultOf", spec := "fnExactFaultOf", unfollowed := true, recurses := true, apart := false, narrowed := true }
def FnExactFaultOfUptoSaid : Prop := fnExactFaultOfUptoRow.holds Try.pinned (OpenSpec.upto fnExactFaultOfSpec)

/-- 'laws.FnRules', WHERE WHAT IT READS IS OF BULK AT MOST 1048576: true; the input reads as it did. -/
def fnRulesUptoRow : OpenClaim := { program := "ytapmiocpkddbfaa", sum := "f37c4227c28ccbc2a2bf0596e610b45c090f14cf40e84e2f8f8088333edaaf68", func := "loop.example/g00834/laws.FnRules", spec := "fnRules", unfollowed := true, recurses := true, apart := false, narrowed := true }
def FnRulesUptoSaid : Prop := fnRulesUptoRow.holds Try.pinned (OpenSpec.upto fnRulesSpec)

/-- 'laws.FnExactNoteOk', WHERE WHAT IT READS IS OF BULK AT MOST 1048576: true; the input reads as it did. -/
def fnExactNoteOkUptoRow : OpenClaim := { program := "ytapmiocpkddbfaa", sum := "f37c4227c28ccbc2a2bf0596e610b45c090f14cf40e84e2f8f8088333edaaf68", func := "loop.example/g00834/laws.FnExactNoteOk", spec := "fnExactNoteOk", unfollowed := true, recurses := true, apart := false, narrowed := true }
def FnExactNoteOkUptoSaid : Prop := fnExactNoteOkUptoRow.holds Try.pinned (OpenSpec.upto fnExactNoteOkSpec)

/-- 'laws.FnGames', WHERE WHAT IT READS IS OF BULK AT MOST 1048576: true; the input reads as it did. -/
def fnGamesUptoRow : OpenClaim := { program := "ytapmiocpkddbfaa", sum := "f37c4227c28ccbc2a2bf0596e610b45c090f14cf40e84e2f8f8088333edaaf68", func := "loop.example/g00834/laws.FnGames", spec := "fnGames", unfollowed := true, recurses := true, apart := false, narrowed := true }
def FnGamesUptoSaid : Prop := fnGamesUptoRow.holds Try.pinned (OpenSpec.upto fnGamesSpec)

/-- 'laws.FnExactUpTo', WHERE WHAT IT READS IS OF BULK AT MOST 1048576: true; the input reads as it did. -/
def fnExactUpToUptoRow : OpenClaim := { program := "ytapmiocpkddbfaa", sum := "f37c4227c28ccbc2a2bf0596e610b45c090f14cf40e84e2f8f8088333edaaf68", func := "loop.example/g00834/laws.FnExactUpTo", spec := "fnExactUpTo", unfollowed := true, recurses := true, apart := false, narrowed := true }
def FnExactUpToUptoSaid : Prop := fnExactUpToUptoRow.holds Try.pinned (OpenSpec.upto fnExactUpToSpec)

/-- 'laws.FnExactNotesOk', WHERE WHAT IT READS IS OF BULK AT MOST 1048576: true; the input reads as it did. -/
def fnExactNotesOkUptoRow : OpenClaim := { program := "ytapmiocpkddbfaa", sum := "f37c4227c28ccbc2a2bf0596e610b45c090f14cf40e84e2f8f8088333edaaf68", func := "loop.example/g00834/laws.FnExactNotesOk", spec := "fnExactNotesOk", unfollowed := true, recurses := true, apart := false, narrowed := true }
def FnExactNotesOkUptoSaid : Prop := fnExactNotesOkUptoRow.holds Try.pinned (OpenSpec.upto fnExactNotesOkSpec)

/-- 'laws.FnExactBookOk', WHERE WHAT IT READS IS OF BULK AT MOST 1048576: true; the input reads as it did. -/
def fnExactBookOkUptoRow : OpenClaim := { program := "ytapmiocpkddbfaa", sum := "f37c4227c28ccbc2a2bf0596e610b45c090f14cf40e84e2f8f8088333edaaf68", func := "loop.example/g00834/laws.FnExactBookOk", spec := "fnExactBookOk", unfollowed := true, recurses := true, apart := false, narrowed := true }
def FnExactBookOkUptoSaid : Prop := fnExactBookOkUptoRow.holds Try.pinned (OpenSpec.upto fnExactBookOkSpec)

/-- 'laws.FnExactPadZeros', WHERE WHAT IT READS IS OF BULK AT MOST 1048576: true; the input reads as it did. -/
def fnExactPadZerosUptoRow : OpenClaim := { program := "ytapmiocpkddbfaa", sum := "f37c4227c28ccbc2a2bf0596e610b45c090f14cf40e84e2f8f8088333edaaf68", func := "loop.example/g00834/laws.FnExactPadZeros", spec := "fnExactPadZeros", inPlace := ["internal/abi.NoEscape", "internal/bytealg.MakeNoZero"], apart := false, narrowed := true }
def FnExactPadZerosUptoSaid : Prop := fnExactPadZerosUptoRow.holds Try.pinned (OpenSpec.upto fnExactPadZerosSpec)

end Rows
end Go.Proofs.Ytapmiocpkddbfaa
