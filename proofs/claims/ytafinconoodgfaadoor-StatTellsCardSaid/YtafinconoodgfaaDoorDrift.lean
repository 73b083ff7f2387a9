/- Package drift, walked. -/
import Derived.Test.YtafinconoodgfaaDoorSpan
namespace Go.Proofs.YtafinconoodgfaaDoor
open Go.RowKit
set_option linter.unusedVariables false
set_option linter.unusedSimpArgs false
