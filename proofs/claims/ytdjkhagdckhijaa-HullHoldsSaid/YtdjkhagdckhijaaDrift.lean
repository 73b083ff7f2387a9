/- Package drift, walked. -/
import Derived.Test.YtdjkhagdckhijaaSpan
namespace Go.Proofs.Ytdjkhagdckhijaa
open Go.RowKit
set_option linter.unusedVariables false
set_option linter.unusedSimpArgs false
