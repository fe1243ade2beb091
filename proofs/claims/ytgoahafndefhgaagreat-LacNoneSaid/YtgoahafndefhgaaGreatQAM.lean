import Derived.Test.YtgoahafndefhgaaGreatQAL
import Derived.Deep.Slices
import Derived.ChangeSame
import Derived.DataReads
set_option linter.unusedVariables false
set_option linter.unusedSimpArgs false
set_option maxHeartbeats 16000000
namespace Go.Proofs.YtgoahafndefhgaaGreat
open Go.RowKit Go.Tg Go.Maps
end Go.Proofs.YtgoahafndefhgaaGreat
