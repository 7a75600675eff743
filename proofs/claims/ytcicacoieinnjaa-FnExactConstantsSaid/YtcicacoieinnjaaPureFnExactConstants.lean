/- Every exported constant has the value that the law names: the law answers true; no condition. -/
import Derived.Test.YtcicacoieinnjaaPFnExactConstantsx1
import Derived.Test.YtcicacoieinnjaaPureKit
namespace Go.Proofs.Ytcicacoieinnjaa.Pure
open Go.RowKit Go.Proofs.Ytcicacoieinnjaa.PFnExactConstants Go.Proofs.Ytcicacoieinnjaa.PureKit Go.Proofs.YtcicacoieinnjaaW.PrintWords Go.Proofs.YtcicacoieinnjaaW.PrintLast
set_option linter.unusedSimpArgs false
set_option linter.unusedVariables false
theorem FnExactConstants : laws_FnExactConstants.Pure := rfl

end Go.Proofs.Ytcicacoieinnjaa.Pure
