import Derived.Test.YtbiaempeegfdkaaGreatPAO
import Derived.Test.YtbiaempeegfdkaaGreatPAA
import Derived.Great.Walk
set_option linter.unusedVariables false
set_option linter.unusedSimpArgs false
set_option maxHeartbeats 16000000
namespace Go.Proofs.YtbiaempeegfdkaaGreat
open Go.RowKit Go.Tg Go.Maps
section
variable {w : World} {S : Nat -> Prop} {B : NegB} {C : NegC} {st : NSt} {X : NegX} {jb : Nat}
theorem Ups_at (h : NegAt w S B C st X) : Calls Tryz.prog 60 #[.pointer (some ⟨B.nb, 0, none⟩)] w fun e w' => e = .returned (.tuple #[.int .i64 st.ups, .int .i64 st.downs]) /\ Below w.heap.size w w' := by
 have g0 : w.cell? ⟨B.nb, 17, none⟩ = some (.int .i64 st.ups) := h.cell 17; have g1 : w.cell? ⟨B.nb, 18, none⟩ = some (.int .i64 st.downs) := h.cell 18; have H := H_ (nnone_at h); clear h; go_enter Tryz.func60, Tryz.ntmps60
 go_wp2_with (go_at_call 79; refine H.out.mono ?_; rintro e w1 ⟨rfl, rfl⟩)
 go_quiet (fail)
 go_wp2_with fail; go_ret2; exact ⟨rfl, belowN (Below.refl _ _) _⟩
end
end Go.Proofs.YtbiaempeegfdkaaGreat
