import Derived.Test.YtgoahafndefhgaaGreatQAA
import Derived.Test.YtgoahafndefhgaaGreatQAF
import Derived.Test.YtgoahafndefhgaaGreatQAI
set_option linter.unusedVariables false
set_option linter.unusedSimpArgs false
set_option maxHeartbeats 16000000
namespace Go.Proofs.YtgoahafndefhgaaGreat
open Go.RowKit Go.Tg Go.Maps
set_option maxRecDepth 100000 in
theorem insO_nil (w : World) : Calls Tryz.prog 283 #[.slice none 0 0, .int .i64 0, .int .i64 0] w fun e w' => e = .returned (.tuple #[]) /\ w = w' := by
 go_enter Tryz.func283, Tryz.ntmps283; go_wp2_with fail; refine wp_loop_rounds 1 ?_; rw [rounds_succ]; go_wp2_with fail
 go_end0
 exact ⟨rfl, rfl⟩
set_option maxRecDepth 100000 in
theorem pdqO_nil (n : Int) (w : World) : Calls Tryz.prog 187 #[.slice none 0 0, .int .i64 0, .int .i64 0, .int .i64 n] w fun e w' => e = .returned (.tuple #[]) /\ w = w' := by
 have HI := H_ (insO_nil w); go_enter Tryz.func187, Tryz.ntmps187; go_wp2_with fail; refine wp_loop_rounds 1 ?_; rw [rounds_succ]; go_wp2_with fail; refine HI.out.mono ?_; rintro e w1 ⟨rfl, rfl⟩; go_wp2_with fail; refine bodyPost_ret (results_none rfl _ _ _) rfl ?_; exact ⟨rfl, rfl⟩
set_option maxRecDepth 100000 in
theorem sortO_nil (w : World) : Calls Tryz.prog 97 #[.slice none 0 0] w fun e w' => e = .returned (.tuple #[]) /\ w = w' := by
 have HI := H_ (fun n => pdqO_nil n w); have HL := H_ (len_nil w); go_enter Tryz.func97, Tryz.ntmps97; go_wp2_with fail; refine HL.out.mono ?_; rintro e w1 ⟨rfl, rfl⟩; go_wp2_with fail; refine (HI.out _).mono ?_; rintro e w1 ⟨rfl, rfl⟩; go_wp2_with fail
 go_end0
 exact ⟨rfl, rfl⟩
end Go.Proofs.YtgoahafndefhgaaGreat
