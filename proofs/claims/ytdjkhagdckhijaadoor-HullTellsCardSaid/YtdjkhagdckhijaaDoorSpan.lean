/- Package span, walked: each function returns what its plain namesake says, and writes nothing that was there. -/
import Derived.Test.YtdjkhagdckhijaaDoorBase
namespace Go.Proofs.YtdjkhagdckhijaaDoor
open Go.RowKit
set_option linter.unusedVariables false
set_option linter.unusedSimpArgs false
