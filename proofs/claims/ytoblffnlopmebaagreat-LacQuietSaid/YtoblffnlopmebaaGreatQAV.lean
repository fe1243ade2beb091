import Derived.Test.YtoblffnlopmebaaGreatQAR
import Derived.Test.YtoblffnlopmebaaGreatQAA
import Derived.Great.Walk
set_option linter.unusedVariables false
set_option linter.unusedSimpArgs false
set_option maxHeartbeats 16000000
namespace Go.Proofs.YtoblffnlopmebaaGreat
open Go.RowKit Go.Tg Go.Maps
section
variable {w : World} {S : Nat -> Prop} {B : NegB} {C : NegC} {st : NSt} {X : NegX} {jb : Nat}
end
end Go.Proofs.YtoblffnlopmebaaGreat
