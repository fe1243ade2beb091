import Derived.Test.YtgoahafndefhgaaGreatQAA
import Derived.Test.YtgoahafndefhgaaGreatQAF
set_option linter.unusedVariables false
set_option linter.unusedSimpArgs false
set_option maxHeartbeats 16000000
namespace Go.Proofs.YtgoahafndefhgaaGreat
open Go.RowKit Go.Tg Go.Maps
set_option maxRecDepth 100000 in
theorem len64_nil (w : World) : Calls Tryz.prog 279 #[.int .u64 0] w fun e w' => e = .returned (.int .i64 0) /\ w = w' := by
 go_enter Tryz.func279, Tryz.ntmps279; go_wp2_with fail; go_ret; exact ⟨by kernel_rfl, rfl⟩
theorem len_nil (w : World) : Calls Tryz.prog 181 #[.int .u64 0] w fun e w' => e = .returned (.int .i64 0) /\ w = w' := by
 go_enter Tryz.func181, Tryz.ntmps181; go_wp2_with fail; refine (len64_nil _).mono ?_; rintro e w1 ⟨rfl, rfl⟩; go_wp2_with fail; go_ret; exact ⟨rfl, rfl⟩
set_option maxRecDepth 100000 in
theorem insS_nil (c : Value) (hc : c.oneCell' = true) (w : World) : Calls Tryz.prog 270 #[.slice none 0 0, .int .i64 0, .int .i64 0, c] w fun e w' => e = .returned (.tuple #[]) /\ w = w' := by
 go_enter Tryz.func270, Tryz.ntmps270; go_wp2_with fail; refine wp_loop_rounds 1 ?_; rw [rounds_succ]; go_wp2_with fail
 go_end0
 exact ⟨rfl, rfl⟩
set_option maxRecDepth 100000 in
theorem pdqS_nil (c : Value) (hc : c.oneCell' = true) (n : Int) (w : World) : Calls Tryz.prog 180 #[.slice none 0 0, .int .i64 0, .int .i64 0, .int .i64 n, c] w fun e w' => e = .returned (.tuple #[]) /\ w = w' := by
 have HI := H_ (insS_nil c hc w); go_enter Tryz.func180, Tryz.ntmps180; go_wp2_with fail; refine wp_loop_rounds 1 ?_; rw [rounds_succ]; go_wp2_with fail; refine HI.out.mono ?_; rintro e w1 ⟨rfl, rfl⟩; go_wp2_with fail; refine bodyPost_ret (results_none rfl _ _ _) rfl ?_; exact ⟨rfl, rfl⟩
set_option maxRecDepth 100000 in
theorem sortS_nil (c : Value) (hc : c.oneCell' = true) (w : World) : Calls Tryz.prog 90 #[.slice none 0 0, c] w fun e w' => e = .returned (.tuple #[]) /\ w = w' := by
 have HI := H_ (fun n => pdqS_nil c hc n w); have HL := H_ (len_nil w); go_enter Tryz.func90, Tryz.ntmps90; go_wp2_with fail; refine HL.out.mono ?_; rintro e w1 ⟨rfl, rfl⟩; go_wp2_with fail; refine (HI.out _).mono ?_; rintro e w1 ⟨rfl, rfl⟩; go_wp2_with fail
 go_end0
 exact ⟨rfl, rfl⟩
end Go.Proofs.YtgoahafndefhgaaGreat
