/- The reference's small functions (spans, drift, probes), walked: each computes what its plain namesake does. -/
import Derived.Test.YtldlandcjegikaaGreatDoorHK1
namespace Go.Proofs.YtldlandcjegikaaGreatDoor
open Go.RowKit
set_option linter.unusedVariables false
set_option linter.unusedSimpArgs false
end Go.Proofs.YtldlandcjegikaaGreatDoor
