import Derived.Test.YtoblffnlopmebaaGreatRows
import Derived.WalkKit
import Derived.ProofKit
import Derived.OpenShut
import Derived.ShutString
import Derived.ChangeOld
import Derived.Below
import Derived.SliceStrings
import Derived.Lib.SmallJoins
/- What holds of the program alone. -/
namespace Go.Proofs.YtoblffnlopmebaaGreat.progF
open Go.ChangeShapes Go.WideShapes Go.ChangeAt Go.RowKit
theorem b1 : (laidOutB Tryz.pinned.checked.prog) = true := by kernel_rfl
theorem b2 : (mapsRowed Tryz.pinned.checked.prog) = true := by kernel_rfl
theorem b6 : ((Tryz.pinned.checked.prog.stops == [])) = true := by kernel_rfl
theorem b8 : ((Tryz.pinned.checked.prog.stopKnobs == [])) = true := by kernel_rfl
theorem b24 : (Tryz.pinned.checked.prog.stopsHeard) = true := by kernel_rfl
theorem b25 : (Tryz.pinned.checked.prog.mayEnter) = true := by kernel_rfl
end Go.Proofs.YtoblffnlopmebaaGreat.progF
