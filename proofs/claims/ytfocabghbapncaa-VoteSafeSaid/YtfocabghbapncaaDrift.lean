/- Package drift, walked. -/
import Derived.Test.YtfocabghbapncaaSpan
namespace Go.Proofs.Ytfocabghbapncaa
open Go.RowKit
set_option linter.unusedVariables false
set_option linter.unusedSimpArgs false
