import Derived.Test.YtkfcjcbjefpliaaProg
import Derived.Test.YtkfcjcbjefpliaaTgSlice
import Derived.Test.YtkfcjcbjefpliaaTgAny
import Derived.Outline
import Derived.Deep.LoopGhost
import Derived.Deep.QuietTactic
import Derived.BigQuiet
import Derived.StillTailTactics
import Derived.Deep.RegionHeld3
import Derived.Laws.ResultCell
namespace Go.Proofs.Ytkfcjcbjefpliaa
open Go.RowKit Go.Tg Go.Maps

def pairV (a b : Int) : Value := .agg #[.int .i64 a, .int .i64 b]
def dgV (f t : Int) (d : ByteArray) : Value := .agg #[.int .i64 f, .int .i64 t, .string d]

set_option maxHeartbeats 400000 in
theorem pair_any (f t : Int) (d : ByteArray) (w : World) :
    Calls Try.prog 21 #[.agg #[.int .i64 f, .int .i64 t, .string d]] w fun e w' => e = .returned (.agg #[.int .i64 f, .int .i64 t]) ∧ Keep (fun _ => False) w w' := by
  go_enter Try.func21, Try.ntmps21
  go_wp2
  refine bodyPost_ret (v := .agg #[.int .i64 f, .int .i64 t]) (by simp [results, Try.results21, go_sem]) rfl ⟨rfl, ((Keep.refl _ _).alloc _).alloc _⟩
end Go.Proofs.Ytkfcjcbjefpliaa
