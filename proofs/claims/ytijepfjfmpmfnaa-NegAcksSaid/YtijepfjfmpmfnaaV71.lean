import Derived.Test.YtijepfjfmpmfnaaV38
/- Steps: an argument of type []Op; Small. -/
namespace Go.Proofs.Ytijepfjfmpmfnaa
open Go.RowKit Go.Tg Go.Maps

structure OpM where
  k : Int
  n : Int
  p : Pk
  a : List Opt
  b : List Opt
abbrev OpV := OpM × Value × Value × Value
def opCells (x : OpV) : List Value := [.int .i64 x.1.k, .int .i64 x.1.n, .int .i64 x.1.p.code, .int .i64 x.1.p.id, x.2.1, .string x.1.p.d, x.2.2.1, x.2.2.2]
structure OpIn (w : World) (ok : Nat → Prop) (x : OpV) : Prop where
  p : Opts w ok x.2.1 x.1.p.o
  a : Opts w ok x.2.2.1 x.1.a
  b : Opts w ok x.2.2.2 x.1.b
  wf : (∀ o ∈ x.1.p.o, I64 o.t ∧ o.v.size ≤ maxLen) ∧ x.1.p.d.size ≤ maxLen ∧ (∀ o ∈ x.1.a, o.v.size ≤ maxLen) ∧ (∀ o ∈ x.1.b, o.v.size ≤ maxLen)
/-- Steps in memory. -/
structure OpsAt (w : World) (ok : Nat → Prop) (v : Value) (L : List OpV) : Prop where
  row : Rec 8 w ok v (L.map opCells)
  each : ∀ x ∈ L, OpIn w ok x

theorem list8 {α : Type} {l : List α} (h : l.length = 8) : ∃ a b c d e f g i, l = [a, b, c, d, e, f, g, i] := by
  match l, h with
  | [a, b, c, d, e, f, g, i], _ => exact ⟨a, b, c, d, e, f, g, i, rfl⟩

set_option maxHeartbeats 2000000 in
theorem ops_of {H : Type} {enc : TypeId × Value → H} {w : World} {base : Nat} {spare : Nat → Bool} {held : Bool} {fuel : Nat} {a : Option Addr} {len cap : Nat} {x : DataW H × List MemPlace}
    (h : DataW.trod enc Try.prog w base spare held fuel 55 [.slice a len cap] = some x) : ∃ L : List OpV, L.length = len ∧ OpsAt w (fun _ => True) (.slice a len cap) L := by
  have cE : Try.prog.cellsOf 59 = 8 := by kernel_rfl
  have cP : Try.prog.cellsOf 37 = 4 := by kernel_rfl
  have c3 : Try.prog.cellsOf 3 = 1 := by kernel_rfl
  have c9 : Try.prog.cellsOf 9 = 1 := by kernel_rfl
  have cO : Try.prog.cellsOf 27 = 1 := by kernel_rfl
  rcases Go.Deep.open_slice Try.underlying55 h with ⟨hcs, _⟩ | ⟨p, l, c, m, n, D, Pl, hcs, hb, hl, hm, hmm, hx, hi⟩
  · simp at hcs
    obtain ⟨rfl, rfl, rfl⟩ := hcs
    exact ⟨[], rfl, Rec.nil _ _ _, fun x hx => absurd hx List.not_mem_nil⟩
  · simp at hcs
    obtain ⟨rfl, rfl, rfl⟩ := hcs
    have hlm : len ≤ m := by rw [hmm]; split <;> omega
    rw [cE] at hi
    have key : ∀ i, i < len → ∃ o : OpV, (∀ j u, (opCells o)[j]? = some u → w.cell? (p.add (i * 8 + j)) = some u) ∧ OpIn w (fun _ => True) o := by
      intro i hil
      obtain ⟨cs', hc, ht⟩ := hi i (by omega)
      obtain ⟨xs, n', _, _, hlen, hxl, hf⟩ := DataW.trod_struct Try.underlying59 ht
      obtain ⟨_, hcl, hat⟩ := World.cells?_some hc
      obtain ⟨v0, v1, v2, v3, v4, v5, v6, v7, rfl⟩ := list8 hcl
      have e0 := hat 0 (by omega)
      have e1 := hat 1 (by omega)
      have e2 := hat 2 (by omega)
      have e3 := hat 3 (by omega)
      have e4 := hat 4 (by omega)
      have e5 := hat 5 (by omega)
      have e6 := hat 6 (by omega)
      have e7 := hat 7 (by omega)
      rw [Go.Deep.add_add] at e0 e1 e2 e3 e4 e5 e6 e7
      have f0 : DataW.trod enc Try.prog w base spare held n' 3 (([v0, v1, v2, v3, v4, v5, v6, v7].drop 0).take (Try.prog.cellsOf 3)) = xs[0]? := hf 0 _ rfl
      have f1 : DataW.trod enc Try.prog w base spare held n' 3 (([v0, v1, v2, v3, v4, v5, v6, v7].drop 1).take (Try.prog.cellsOf 3)) = xs[1]? := hf 1 _ rfl
      have f2 : DataW.trod enc Try.prog w base spare held n' 37 (([v0, v1, v2, v3, v4, v5, v6, v7].drop 2).take (Try.prog.cellsOf 37)) = xs[2]? := hf 2 _ rfl
      have f3 : DataW.trod enc Try.prog w base spare held n' 27 (([v0, v1, v2, v3, v4, v5, v6, v7].drop 6).take (Try.prog.cellsOf 27)) = xs[3]? := hf 3 _ rfl
      have f4 : DataW.trod enc Try.prog w base spare held n' 27 (([v0, v1, v2, v3, v4, v5, v6, v7].drop 7).take (Try.prog.cellsOf 27)) = xs[4]? := hf 4 _ rfl
      rw [c3] at f0 f1
      rw [cP] at f2
      rw [cO] at f3 f4
      have hs : xs.length = 5 := hxl
      obtain ⟨y0, y1, y2, y3, y4, rfl⟩ := list5 hs
      obtain ⟨k0, hk0, -, hw0⟩ := DataW.trod_int Try.underlying3 (x := y0) f0
      obtain ⟨k1, hk1, -, hw1⟩ := DataW.trod_int Try.underlying3 (x := y1) f1
      simp only [List.drop_zero, List.drop_succ_cons, List.take_succ_cons, List.take_zero, List.cons.injEq, and_true] at hk0 hk1
      subst hk0 hk1
      simp only [List.drop_zero, List.drop_succ_cons, List.take_succ_cons, List.take_zero, List.getElem?_cons_succ, List.getElem?_cons_zero] at f2 f3 f4
      obtain ⟨zs, n2, _, _, zlen, zxl, zf⟩ := DataW.trod_struct Try.underlying37 f2
      have g0 : DataW.trod enc Try.prog w base spare held n2 3 (([v2, v3, v4, v5].drop 0).take (Try.prog.cellsOf 3)) = zs[0]? := zf 0 _ rfl
      have g1 : DataW.trod enc Try.prog w base spare held n2 3 (([v2, v3, v4, v5].drop 1).take (Try.prog.cellsOf 3)) = zs[1]? := zf 1 _ rfl
      have g2 : DataW.trod enc Try.prog w base spare held n2 27 (([v2, v3, v4, v5].drop 2).take (Try.prog.cellsOf 27)) = zs[2]? := zf 2 _ rfl
      have g3 : DataW.trod enc Try.prog w base spare held n2 9 (([v2, v3, v4, v5].drop 3).take (Try.prog.cellsOf 9)) = zs[3]? := zf 3 _ rfl
      rw [c3] at g0 g1
      rw [cO] at g2
      rw [c9] at g3
      have hzs : zs.length = 4 := zxl
      obtain ⟨z0, z1, z2, z3, rfl⟩ := list4 hzs
      obtain ⟨k2, hk2, -, -⟩ := DataW.trod_int Try.underlying3 (x := z0) g0
      obtain ⟨k3, hk3, -, -⟩ := DataW.trod_int Try.underlying3 (x := z1) g1
      obtain ⟨k5, hk5, -, hw5⟩ := DataW.trod_string Try.underlying9 (x := z3) g3
      simp only [List.drop_zero, List.drop_succ_cons, List.take_succ_cons, List.take_zero, List.cons.injEq, and_true] at hk2 hk3 hk5
      subst hk2 hk3 hk5
      simp only [List.drop_zero, List.drop_succ_cons, List.take_succ_cons, List.take_zero, List.getElem?_cons_succ, List.getElem?_cons_zero] at g2
      obtain ⟨a2, l2, c2, rfl⟩ : ∃ a l c, v4 = .slice a l c := by
        rcases Go.Deep.open_slice Try.underlying27 g2 with ⟨h, _⟩ | ⟨p, l, c, _, _, _, _, h, _⟩ <;> simp at h <;> exact ⟨_, _, _, h⟩
      obtain ⟨a3, l3, c3', rfl⟩ : ∃ a l c, v6 = .slice a l c := by
        rcases Go.Deep.open_slice Try.underlying27 f3 with ⟨h, _⟩ | ⟨p, l, c, _, _, _, _, h, _⟩ <;> simp at h <;> exact ⟨_, _, _, h⟩
      obtain ⟨a4, l4, c4, rfl⟩ : ∃ a l c, v7 = .slice a l c := by
        rcases Go.Deep.open_slice Try.underlying27 f4 with ⟨h, _⟩ | ⟨p, l, c, _, _, _, _, h, _⟩ <;> simp at h <;> exact ⟨_, _, _, h⟩
      obtain ⟨op, -, ho2, ho3, -⟩ := opts_of g2
      obtain ⟨oa, -, ha2, ha3, -⟩ := opts_of f3
      obtain ⟨ob, -, hb2, hb3, -⟩ := opts_of f4
      refine ⟨(⟨k0, k1, ⟨k2, k3, op, k5⟩, oa, ob⟩, .slice a2 l2 c2, .slice a3 l3 c3', .slice a4 l4 c4), fun j u hu => ?_, ⟨ho2, ha2, hb2, ho3, hw5, fun o ho => (ha3 o ho).2, fun o ho => (hb3 o ho).2⟩⟩
      match j, hu with
      | 0, hu => cases hu; exact e0
      | 1, hu => cases hu; exact e1
      | 2, hu => cases hu; exact e2
      | 3, hu => cases hu; exact e3
      | 4, hu => cases hu; exact e4
      | 5, hu => cases hu; exact e5
      | 6, hu => cases hu; exact e6
      | 7, hu => cases hu; exact e7
      | j + 8, hu => simp [opCells] at hu
    obtain ⟨L, hll, hp⟩ := build_list _ len key
    have hml : (L.map opCells).length = len := by rw [List.length_map, hll]
    refine ⟨L, hll, ⟨fun y hy => ?_, some p, cap, by rw [hml], by rw [hml]; exact hl, hm, ?_⟩, fun o ho => ?_⟩
    · simp only [List.mem_map] at hy; obtain ⟨o, _, rfl⟩ := hy; rfl
    · by_cases hz : len = 0
      · left
        have : L = [] := List.eq_nil_of_length_eq_zero (by omega)
        subst this; rfl
      · right
        obtain ⟨bb, off, spot⟩ := p
        have h0 := (hp 0 (by omega)).1 0 _ rfl
        have hn : spot = none := by
          cases spot with
          | none => rfl
          | some s =>
            exfalso
            simp only [Nat.zero_mul, Addr.add, World.cell?, if_true, Option.isSome_some] at h0
            split at h0 <;> cases h0
        subst hn
        simp only [Addr.add_lit] at h0
        refine ⟨bb, off, rfl, ?_, trivial, ?_⟩
        · unfold World.cell? at h0
          by_cases hlt : bb < w.heap.size
          · exact hlt
          · have : w.heap[bb]? = none := by simp; omega
            simp [this] at h0
        · intro i hi j u hu
          have hi' : i < L.length := by rw [hml] at hi; omega
          have e : (L.map opCells)[i] = opCells L[i] := by simp
          rw [e] at hu
          have := (hp i hi').1 j u hu
          rw [Addr.add_lit, ← Nat.add_assoc] at this
          exact this
    · obtain ⟨i, hi, rfl⟩ := List.getElem_of_mem ho
      exact (hp i hi).2
end Go.Proofs.Ytijepfjfmpmfnaa
