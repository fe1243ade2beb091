import Derived.Test.YtoblffnlopmebaaGreatQAD
import Derived.Test.YtoblffnlopmebaaGreatQAB
import Derived.Outline
import Derived.Deep.LoopGhost
set_option linter.unusedVariables false
set_option linter.unusedSimpArgs false
set_option maxHeartbeats 16000000
namespace Go.Proofs.YtoblffnlopmebaaGreat
open Go.RowKit Go.Tg Go.Maps
open Classical in
noncomputable def mixM (left : Value -> Prop) (m1 m2 : Value -> Option Value) : Value -> Option Value := fun k => if left k then m1 k else (m2 k).or (m1 k)
end Go.Proofs.YtoblffnlopmebaaGreat
