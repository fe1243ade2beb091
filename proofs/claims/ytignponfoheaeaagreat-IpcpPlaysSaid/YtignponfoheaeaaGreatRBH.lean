import Derived.Test.YtignponfoheaeaaGreatRBG
import Derived.Test.YtignponfoheaeaaGreatRBD
set_option linter.unusedVariables false
set_option linter.unusedSimpArgs false
set_option maxHeartbeats 16000000
namespace Go.Proofs.YtignponfoheaeaaGreat
open Go.RowKit Go.Tg Go.Maps
set_option maxRecDepth 100000 in
theorem four_arg {H : Type} {enc : TypeId × Value -> H} {w : World} {base : Nat} {spare : Nat -> Bool} {held : Bool} {r : Reach} {b0 : Nat} {v : Value} {d : DataW H} {p : List MemPlace}
 (hv : Value.okWide Tryz.prog w r b0 112 v) (h : DataW.Trod enc Tryz.prog w base spare held 112 v d p) : ∃ n0 n1 n2 n3 : Int, v = .agg #[.int .i64 n0, .int .i64 n1, .int .i64 n2, .int .i64 n3] := by
 have c5 : Tryz.prog.cellsOf 3 = 1 := by kernel_rfl
 have c4 : Tryz.prog.cellsOf 112 = 4 := by kernel_rfl
 obtain ⟨cs, rfl, hsz⟩ : ∃ cs, v = .agg cs /\ cs.size = Tryz.prog.cellsOf 112 := by
  simp only [Value.okWide, Tryz.underlying112] at hv; obtain ⟨cs, h1, h2, _⟩ := hv; exact ⟨cs, h1, h2⟩
 obtain ⟨a, b, c, e, rfl⟩ := Go.Joins.array4 (hsz.trans c4); obtain ⟨fuel, hf⟩ := h; obtain ⟨xs, m, _, _, _, hl, hat⟩ := DataW.trod_array Tryz.underlying112 hf; obtain ⟨y0, y1, y2, y3, rfl⟩ := list4 hl; have f0 := hat 0 (by omega); have f1 := hat 1 (by omega); have f2 := hat 2 (by omega); have f3 := hat 3 (by omega); rw [c5] at f0 f1 f2 f3; obtain ⟨n0, e0, -, h0⟩ := DataW.trod_int (x := y0) Tryz.underlying3 f0; obtain ⟨n1, e1, -, h1⟩ := DataW.trod_int (x := y1) Tryz.underlying3 f1; obtain ⟨n2, e2, -, h2⟩ := DataW.trod_int (x := y2) Tryz.underlying3 f2; obtain ⟨n3, e3, -, h3⟩ := DataW.trod_int (x := y3) Tryz.underlying3 f3; simp [Value.cells] at e0 e1 e2 e3
 subst e0 e1 e2 e3; exact ⟨_, _, _, _, rfl⟩
end Go.Proofs.YtignponfoheaeaaGreat
