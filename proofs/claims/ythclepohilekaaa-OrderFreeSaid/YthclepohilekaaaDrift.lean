/- Package drift, walked. -/
import Derived.Test.YthclepohilekaaaSpan
namespace Go.Proofs.Ythclepohilekaaa
open Go.RowKit
set_option linter.unusedVariables false
set_option linter.unusedSimpArgs false
