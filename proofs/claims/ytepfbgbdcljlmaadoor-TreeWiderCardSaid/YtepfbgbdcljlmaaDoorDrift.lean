/- Package drift, walked. -/
import Derived.Test.YtepfbgbdcljlmaaDoorSpan
namespace Go.Proofs.YtepfbgbdcljlmaaDoor
open Go.RowKit
set_option linter.unusedVariables false
set_option linter.unusedSimpArgs false
