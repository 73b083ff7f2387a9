/- Package drift, walked. -/
import Derived.Test.YtmdadjmlmohjcaaDoorSpan
namespace Go.Proofs.YtmdadjmlmohjcaaDoor
open Go.RowKit
set_option linter.unusedVariables false
set_option linter.unusedSimpArgs false
