import Derived.Test.YtgoahafndefhgaaGreatSAC
import Derived.Test.YtgoahafndefhgaaGreatQAW
import Derived.Test.YtgoahafndefhgaaGreatSAB
import Derived.Test.YtgoahafndefhgaaGreatSAA
set_option linter.unusedVariables false
set_option linter.unusedSimpArgs false
set_option maxHeartbeats 16000000
namespace Go.Proofs.YtgoahafndefhgaaGreat
open Go.RowKit Go.Tg Go.Maps Go.WideShapes
set_option maxRecDepth 100000 in
theorem cfg27_c {H : Type} {enc : TypeId × Value -> H} {w : World} {base : Nat} {spare : Nat -> Bool} {held : Bool} {r : Reach} {b0 : Nat} {v : Value} {d : DataW H} {p : List MemPlace}
 (hv : Value.okWide Tryz.prog w r b0 35 v) (h : DataW.Trod enc Tryz.prog w base spare held 35 v d p) : ∃ c : XCfg, v = .agg c.cells /\ I64 c.auth /\ c.name.size <= maxLen /\ c.secret.size <= maxLen := by
 obtain ⟨s0, s1, n0, n1, n2, n3, n4, n5, n6, n7, n8, n9, n10, n11, n12, b0, b1, u0, u1, u2, u3, u4, u5, u6, u7, u8, u9, u10, u11, u12, u13, u14, u15, t0, t1, t2, t3, t4, rfl, m0, m1, -, hI, -, -, -, -, -, -, -, -, -, -, -, -, -, -, -, -⟩ := cfg27_arg hv h; exact ⟨⟨s0, s1, n0, n1, n2, n3, n4, n5, n6, n7, n8, n9, n10, n11, n12, b0, b1, ⟨u0, u1, u2, u3⟩, ⟨u4, u5, u6, u7⟩, ⟨u8, u9, u10, u11⟩, ⟨u12, u13, u14, u15⟩, t0, t1, t2, t3, t4⟩, rfl, hI, m0, m1⟩
end Go.Proofs.YtgoahafndefhgaaGreat
