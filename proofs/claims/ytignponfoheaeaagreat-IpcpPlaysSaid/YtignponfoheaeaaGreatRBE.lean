import Derived.Test.YtignponfoheaeaaGreatRBC
import Derived.Test.YtignponfoheaeaaGreatRAY
set_option linter.unusedVariables false
set_option linter.unusedSimpArgs false
set_option maxHeartbeats 16000000
namespace Go.Proofs.YtignponfoheaeaaGreat
open Go.RowKit Go.Tg Go.Maps
section
variable {w : World} {S : Nat -> Prop} {B : NegB} {C : NegC} {st : NSt} {X : NegX}
end
end Go.Proofs.YtignponfoheaeaaGreat
