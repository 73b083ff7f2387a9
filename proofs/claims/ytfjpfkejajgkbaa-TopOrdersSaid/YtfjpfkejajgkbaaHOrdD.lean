/- order.ahead, order.Surely, noonref2.Events, walked. -/
import Derived.Test.YtfjpfkejajgkbaaHOrdC
namespace Go.Proofs.Ytfjpfkejajgkbaa
open Go.RowKit
set_option linter.unusedVariables false
set_option linter.unusedSimpArgs false
end Go.Proofs.Ytfjpfkejajgkbaa
