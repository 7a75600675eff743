/- Whatever the two rows: AddRows of the program and of the reference answer alike; no condition. -/
import Derived.Test.YtgjolkpplhcjoaaSayFnExactAddRows
import Derived.Test.YtgjolkpplhcjoaaPureKit
namespace Go.Proofs.Ytgjolkpplhcjoaa.Pure
open Go.RowKit Go.Proofs.Ytgjolkpplhcjoaa.MFnExactAddRows Go.Proofs.Ytgjolkpplhcjoaa.PureKit Go.Proofs.YtgjolkpplhcjoaaW.PrintWords Go.Proofs.YtgjolkpplhcjoaaW.PrintLast
set_option linter.unusedSimpArgs false
set_option linter.unusedVariables false
theorem FnExactAddRows : FnExactAddRows_pure := by
  intro a0 a1 a2 a3 a4 a5 a6 b0 b1 b2 b3 b4 b5 b6 _ _ _ _ _ _ _ _ _ _ _ _ _ _
  unfold laws_FnExactAddRows.f laws_toRow.f spec_AddRows.f impl_AddRows.f laws_eqRow.f
  simp only [Option.bind_some, if_true]

end Go.Proofs.Ytgjolkpplhcjoaa.Pure
