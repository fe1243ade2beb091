import Derived.Test.YtgoahafndefhgaaGreatTAG
import Derived.Test.YtgoahafndefhgaaGreatTAE
import Derived.Test.YtgoahafndefhgaaGreatTAC
import Derived.Test.YtgoahafndefhgaaGreatTAA
set_option linter.unusedVariables false
set_option linter.unusedSimpArgs false
set_option maxHeartbeats 16000000
namespace Go.Proofs.YtgoahafndefhgaaGreat
open Go.RowKit Go.Tg Go.Maps
end Go.Proofs.YtgoahafndefhgaaGreat
