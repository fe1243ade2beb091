import Derived.Test.YtbiaempeegfdkaaGreatPAQ
import Derived.Test.YtbiaempeegfdkaaGreatPAL
import Derived.WideShapes
import Derived.OpenShut
import Derived.Lib.SmallJoins
set_option linter.unusedVariables false
set_option linter.unusedSimpArgs false
set_option maxHeartbeats 16000000
namespace Go.Proofs.YtbiaempeegfdkaaGreat
open Go.RowKit Go.Tg Go.Maps
end Go.Proofs.YtbiaempeegfdkaaGreat
