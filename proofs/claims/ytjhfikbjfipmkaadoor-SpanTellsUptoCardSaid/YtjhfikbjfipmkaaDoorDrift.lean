/- Package drift, walked. -/
import Derived.Test.YtjhfikbjfipmkaaDoorSpan
namespace Go.Proofs.YtjhfikbjfipmkaaDoor
open Go.RowKit
set_option linter.unusedVariables false
set_option linter.unusedSimpArgs false
