import Derived.Test.YtoblffnlopmebaaGreatQAA
import Derived.Test.YtoblffnlopmebaaGreatQAG
set_option linter.unusedVariables false
set_option linter.unusedSimpArgs false
set_option maxHeartbeats 16000000
namespace Go.Proofs.YtoblffnlopmebaaGreat
open Go.RowKit Go.Tg Go.Maps
set_option maxRecDepth 100000 in
theorem len64_nil (w : World) : Calls Tryz.prog 136 #[.int .u64 0] w fun e w' => e = .returned (.int .i64 0) /\ w = w' := by
 go_enter Tryz.func136, Tryz.ntmps136; go_wp2_with fail; go_ret; exact ⟨by kernel_rfl, rfl⟩
theorem len_nil (w : World) : Calls Tryz.prog 77 #[.int .u64 0] w fun e w' => e = .returned (.int .i64 0) /\ w = w' := by
 go_enter Tryz.func77, Tryz.ntmps77; go_wp2_with fail; refine (len64_nil _).mono ?_; rintro e w1 ⟨rfl, rfl⟩; go_wp2_with fail; go_ret; exact ⟨rfl, rfl⟩
end Go.Proofs.YtoblffnlopmebaaGreat
