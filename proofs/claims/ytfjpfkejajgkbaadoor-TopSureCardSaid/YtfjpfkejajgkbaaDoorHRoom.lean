/- loops.Room, noonref1.Room, walked. -/
import Derived.Test.YtfjpfkejajgkbaaDoorHLoops
namespace Go.Proofs.YtfjpfkejajgkbaaDoor
open Go.RowKit
set_option linter.unusedVariables false
set_option linter.unusedSimpArgs false
end Go.Proofs.YtfjpfkejajgkbaaDoor
