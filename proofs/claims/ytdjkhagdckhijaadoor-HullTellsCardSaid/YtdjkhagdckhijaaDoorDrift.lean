/- Package drift, walked. -/
import Derived.Test.YtdjkhagdckhijaaDoorSpan
namespace Go.Proofs.YtdjkhagdckhijaaDoor
open Go.RowKit
set_option linter.unusedVariables false
set_option linter.unusedSimpArgs false
