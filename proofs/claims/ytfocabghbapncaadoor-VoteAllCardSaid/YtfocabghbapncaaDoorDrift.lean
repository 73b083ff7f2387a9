/- Package drift, walked. -/
import Derived.Test.YtfocabghbapncaaDoorSpan
namespace Go.Proofs.YtfocabghbapncaaDoor
open Go.RowKit
set_option linter.unusedVariables false
set_option linter.unusedSimpArgs false
