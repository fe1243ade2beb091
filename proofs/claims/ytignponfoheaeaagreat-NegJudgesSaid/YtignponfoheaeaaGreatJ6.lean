import Derived.Test.YtignponfoheaeaaGreatJ5
import Derived.Test.YtignponfoheaeaaGreatO
import Derived.WideShapes
import Derived.ChangeAt
import Derived.OpenShut
/- NegJudges, its arguments. -/
namespace Go.Proofs.YtignponfoheaeaaGreat
open Go.RowKit Go.Tg Go.Maps Go.WideShapes

theorem array5 {α : Type} {cs : Array α} (h : cs.size = 5) : ∃ a b c d e, cs = #[a, b, c, d, e] := by
  obtain ⟨l⟩ := cs
  obtain ⟨a, b, c, d, e, rfl⟩ := list5 (show l.length = 5 from h)
  exact ⟨a, b, c, d, e, rfl⟩

set_option maxRecDepth 100000 in
theorem rule_arg {H : Type} {enc : TypeId × Value → H} {w : World} {base : Nat} {spare : Nat → Bool} {held : Bool} {r : Reach} {b0 : Nat} {v : Value} {d : DataW H} {p : List MemPlace}
    (hv : Value.okWide Tryz.prog w r b0 64 v) (h : DataW.Trod enc Tryz.prog w base spare held 64 v d p) : ∃ c : Rl, v = .agg #[.int .i64 c.t, .int .i64 c.len, .int .i64 c.min, .int .i64 c.max, .string c.s] := by
  have hs := Tryz.underlying64
  obtain ⟨cs, rfl, hsz⟩ := okWide_struct hs hv
  have h5 : Tryz.prog.cellsOf 64 = 5 := by kernel_rfl
  have h1 : Tryz.prog.cellsOf 3 = 1 := by kernel_rfl
  have h9 : Tryz.prog.cellsOf 9 = 1 := by kernel_rfl
  obtain ⟨c0, c1, c2, c3, c4, rfl⟩ := array5 (hsz.trans h5)
  obtain ⟨fuel, hf⟩ := h
  obtain ⟨xs, n, -, -, -, hlen, hf⟩ := DataW.trod_struct hs hf
  obtain ⟨y0, y1, y2, y3, y4, rfl⟩ := list5 (show xs.length = 5 from hlen)
  have e0 : DataW.trod enc Tryz.prog w base spare held n 3 ((([c0, c1, c2, c3, c4] : List Value).drop 0).take (Tryz.prog.cellsOf 3)) = some y0 := hf 0 _ rfl
  have e1 : DataW.trod enc Tryz.prog w base spare held n 3 ((([c0, c1, c2, c3, c4] : List Value).drop 1).take (Tryz.prog.cellsOf 3)) = some y1 := hf 1 _ rfl
  have e2 : DataW.trod enc Tryz.prog w base spare held n 3 ((([c0, c1, c2, c3, c4] : List Value).drop 2).take (Tryz.prog.cellsOf 3)) = some y2 := hf 2 _ rfl
  have e3 : DataW.trod enc Tryz.prog w base spare held n 3 ((([c0, c1, c2, c3, c4] : List Value).drop 3).take (Tryz.prog.cellsOf 3)) = some y3 := hf 3 _ rfl
  have e4 : DataW.trod enc Tryz.prog w base spare held n 9 ((([c0, c1, c2, c3, c4] : List Value).drop 4).take (Tryz.prog.cellsOf 9)) = some y4 := hf 4 _ rfl
  rw [h1] at e0 e1 e2 e3
  rw [h9] at e4
  obtain ⟨n0, k0, -, w0⟩ := DataW.trod_int (x := y0) Tryz.underlying3 (by simpa using e0)
  obtain ⟨n1, k1, -, w1⟩ := DataW.trod_int (x := y1) Tryz.underlying3 (by simpa using e1)
  obtain ⟨n2, k2, -, w2⟩ := DataW.trod_int (x := y2) Tryz.underlying3 (by simpa using e2)
  obtain ⟨n3, k3, -, w3⟩ := DataW.trod_int (x := y3) Tryz.underlying3 (by simpa using e3)
  obtain ⟨n4, k4, -, w4⟩ := DataW.trod_string (x := y4) Tryz.underlying9 (by simpa using e4)
  simp only [List.cons.injEq, and_true] at k0 k1 k2 k3 k4
  subst k0 k1 k2 k3 k4
  exact ⟨⟨n0, n1, n2, n3, n4⟩, rfl⟩
theorem nil_cap {a : Option Addr} {l c : Nat} (h : a = none → c = 0) : ∀ n c', Value.slice a l c = .slice none n c' → c' = 0 := by
  intro n c' e
  cases e
  exact h rfl
end Go.Proofs.YtignponfoheaeaaGreat
