import Derived.Test.YtbiaempeegfdkaaGreatQAK
import Derived.Deep.Slices
import Derived.ChangeSame
import Derived.DataReads
set_option linter.unusedVariables false
set_option linter.unusedSimpArgs false
set_option maxHeartbeats 16000000
namespace Go.Proofs.YtbiaempeegfdkaaGreat
open Go.RowKit Go.Tg Go.Maps
theorem list4 {α : Type} {l : List α} (h : l.length = 4) : ∃ a b c d, l = [a, b, c, d] := by
 match l, h with
 | [a, b, c, d], _ => exact ⟨a, b, c, d, rfl⟩
end Go.Proofs.YtbiaempeegfdkaaGreat
