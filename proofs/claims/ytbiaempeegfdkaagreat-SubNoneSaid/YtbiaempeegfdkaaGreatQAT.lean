import Derived.Test.YtbiaempeegfdkaaGreatQAP
import Derived.Test.YtbiaempeegfdkaaGreatQAL
import Derived.WideShapes
import Derived.OpenShut
import Derived.Lib.SmallJoins
set_option linter.unusedVariables false
set_option linter.unusedSimpArgs false
set_option maxHeartbeats 16000000
namespace Go.Proofs.YtbiaempeegfdkaaGreat
open Go.RowKit Go.Tg Go.Maps
theorem u8_of (n : Int) (h : (Lit.int .u8 n).wf = true) : ∃ x : UInt8, n = (x.toNat : Int) := by
 have h1 : 0 <= n /\ n <= 255 := by
  simp [Lit.wf, IntKind.min, IntKind.max, IntKind.signed, IntKind.bits] at h
  exact ⟨h.1, by omega⟩
 refine ⟨UInt8.ofNat n.toNat, ?_⟩; rw [UInt8.toNat_ofNat']; omega
set_option maxRecDepth 100000 in
theorem ad_arg {H : Type} {enc : TypeId × Value -> H} {w : World} {base : Nat} {spare : Nat -> Bool} {held : Bool} {r : Reach} {b0 : Nat} {v : Value} {d : DataW H} {p : List MemPlace}
 (hv : Value.okWide Tryz.prog w r b0 23 v) (h : DataW.Trod enc Tryz.prog w base spare held 23 v d p) : ∃ x : Ad, v = x.v := by
 have c5 : Tryz.prog.cellsOf 5 = 1 := by kernel_rfl
 have c4 : Tryz.prog.cellsOf 23 = 4 := by kernel_rfl
 obtain ⟨cs, rfl, hsz⟩ : ∃ cs, v = .agg cs /\ cs.size = Tryz.prog.cellsOf 23 := by
  simp only [Value.okWide, Tryz.underlying23] at hv; obtain ⟨cs, h1, h2, _⟩ := hv; exact ⟨cs, h1, h2⟩
 obtain ⟨a, b, c, e, rfl⟩ := Go.Joins.array4 (hsz.trans c4); obtain ⟨fuel, hf⟩ := h; obtain ⟨xs, m, _, _, _, hl, hat⟩ := DataW.trod_array Tryz.underlying23 hf; obtain ⟨y0, y1, y2, y3, rfl⟩ := list4 hl; have f0 := hat 0 (by omega); have f1 := hat 1 (by omega); have f2 := hat 2 (by omega); have f3 := hat 3 (by omega); rw [c5] at f0 f1 f2 f3; obtain ⟨n0, e0, -, h0⟩ := DataW.trod_int (x := y0) Tryz.underlying5 f0; obtain ⟨n1, e1, -, h1⟩ := DataW.trod_int (x := y1) Tryz.underlying5 f1; obtain ⟨n2, e2, -, h2⟩ := DataW.trod_int (x := y2) Tryz.underlying5 f2; obtain ⟨n3, e3, -, h3⟩ := DataW.trod_int (x := y3) Tryz.underlying5 f3; simp [Value.cells] at e0 e1 e2 e3
 subst e0 e1 e2 e3; obtain ⟨x0, rfl⟩ := u8_of _ h0; obtain ⟨x1, rfl⟩ := u8_of _ h1; obtain ⟨x2, rfl⟩ := u8_of _ h2; obtain ⟨x3, rfl⟩ := u8_of _ h3; exact ⟨⟨x0, x1, x2, x3⟩, rfl⟩
end Go.Proofs.YtbiaempeegfdkaaGreat
