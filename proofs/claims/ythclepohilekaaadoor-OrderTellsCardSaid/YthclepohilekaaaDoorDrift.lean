/- Package drift, walked. -/
import Derived.Test.YthclepohilekaaaDoorSpan
namespace Go.Proofs.YthclepohilekaaaDoor
open Go.RowKit
set_option linter.unusedVariables false
set_option linter.unusedSimpArgs false
