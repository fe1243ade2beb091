import Derived.Test.YtignponfoheaeaaGreatProg
import Derived.Test.YtignponfoheaeaaGreatTgLit
import Derived.KernelRfl
namespace Go.Proofs.YtignponfoheaeaaGreat
open Go.RowKit Go.Tg Go.Maps

theorem laidOut : laidOutB Tryz.prog = true := by kernel_rfl
theorem kt48 : Tryz.prog.keyTypeAt 3 127 = true := by kernel_rfl
theorem sz48 : decide (127 < Tryz.prog.types.size) = true := by kernel_rfl
theorem wd48 : (match Tryz.prog.underlying 127 with | some (.array _ _) | some (.struct _) => true | _ => false) = true := by kernel_rfl
set_option maxRecDepth 100000 in
theorem keyed48 : Keyed Tryz.prog 127 := Keyed.of_law (deep_law_laid laidOut (m := 3) (by omega) (of_decide_eq_true sz48) kt48 wd48)

theorem kv48 (a b : Int) (ha : (Lit.int .i64 a).wf = true) (hb : (Lit.int .i64 b).wf = true) : KV Tryz.prog 127 (keyV a b) := by
  unfold KV keyV
  have h1 : Tryz.prog.keyType 127 = true := by kernel_rfl
  have h3 : (Value.agg #[Value.int .i64 a, Value.int .i64 b]).formed Tryz.prog 127 = true := by kernel_rfl
  have h2 : (Tryz.prog.keyLits (Tryz.prog.types.size + 1) 127 (Value.agg #[Value.int .i64 a, Value.int .i64 b]).cells.toList) = some [.int .i64 a, .int .i64 b] := by
    obtain ⟨d, hd⟩ : ∃ d, Tryz.prog.types.size + 1 = d + 2 := ⟨Tryz.prog.types.size - 1, by kernel_rfl⟩
    have c48 : Tryz.prog.cellsOf 127 = 2 := by kernel_rfl
    have c3 : Tryz.prog.cellsOf 3 = 1 := by kernel_rfl
    have cs : (Value.agg #[Value.int .i64 a, Value.int .i64 b]).cells.toList = [Value.int .i64 a, Value.int .i64 b] := rfl
    rw [hd, cs]
    generalize hwa : (Lit.int .i64 a).wf = wa at ha
    generalize hwb : (Lit.int .i64 b).wf = wb at hb
    subst ha hb
    simp [Program.keyLits, Tryz.underlying127, Tryz.underlying3, c48, c3, hwa, hwb]
  simp only [keyOf, Tryz.underlying127, h1, h2, h3]
  exact ⟨_, rfl⟩

theorem tabT : TabTypes Tryz.prog 124 127 122 43 3 where
  keyed := keyed48
  ht := Tryz.underlying124
  kv := kv48
  bK w a b := by kernel_rfl
  bE w n sa sl sc := by kernel_rfl
  bS1 w a := by kernel_rfl
  bS2 w a b := by kernel_rfl
  bS3 w a b c := by kernel_rfl
  zE w := by kernel_rfl
end Go.Proofs.YtignponfoheaeaaGreat
