import Derived.Test.YtoblffnlopmebaaGreatQAS
import Derived.Test.YtoblffnlopmebaaGreatQAN
import Derived.WideShapes
import Derived.OpenShut
import Derived.Lib.SmallJoins
set_option linter.unusedVariables false
set_option linter.unusedSimpArgs false
set_option maxHeartbeats 16000000
namespace Go.Proofs.YtoblffnlopmebaaGreat
open Go.RowKit Go.Tg Go.Maps
theorem u8_of (n : Int) (h : (Lit.int .u8 n).wf = true) : ∃ x : UInt8, n = (x.toNat : Int) := by
 have h1 : 0 <= n /\ n <= 255 := by
  simp [Lit.wf, IntKind.min, IntKind.max, IntKind.signed, IntKind.bits] at h
  exact ⟨h.1, by omega⟩
 refine ⟨UInt8.ofNat n.toNat, ?_⟩; rw [UInt8.toNat_ofNat']; omega
end Go.Proofs.YtoblffnlopmebaaGreat
