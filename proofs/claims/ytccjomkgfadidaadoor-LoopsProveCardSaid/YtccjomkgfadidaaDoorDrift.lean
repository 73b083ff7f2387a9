/- Package drift, walked. -/
import Derived.Test.YtccjomkgfadidaaDoorSpan
namespace Go.Proofs.YtccjomkgfadidaaDoor
open Go.RowKit
set_option linter.unusedVariables false
set_option linter.unusedSimpArgs false
