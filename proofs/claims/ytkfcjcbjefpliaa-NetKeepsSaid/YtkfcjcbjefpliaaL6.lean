import Derived.Test.YtkfcjcbjefpliaaL5
import Derived.Deep.Slices
import Derived.ChangeSame
import Derived.DataReads
namespace Go.Proofs.Ytkfcjcbjefpliaa
open Go.RowKit Go.Tg

def cellInt : Option Value → Int
  | some (.int _ n) => n
  | _ => 0
def cellStr : Option Value → ByteArray
  | some (.string s) => s
  | _ => ⟨#[]⟩

theorem list5 {α : Type} {l : List α} (h : l.length = 5) : ∃ a b c d e, l = [a, b, c, d, e] := by
  match l, h with
  | [a, b, c, d, e], _ => exact ⟨a, b, c, d, e, rfl⟩

theorem ops_of {H : Type} {enc : TypeId × Value → H} {w : World} {base : Nat} {spare : Nat → Bool} {held : Bool} {fuel : Nat} {a : Option Addr} {len cap : Nat} {x : DataW H × List MemPlace}
    (h : DataW.trod enc Try.prog w base spare held fuel 34 [.slice a len cap] = some x) : len ≤ maxLen ∧ ∃ K A D, OpAt w a len K A D := by
  have c36 : Try.prog.cellsOf 36 = 5 := by kernel_rfl
  have c3 : Try.prog.cellsOf 3 = 1 := by kernel_rfl
  have c9 : Try.prog.cellsOf 9 = 1 := by kernel_rfl
  rcases Go.Deep.open_slice Try.underlying34 h with ⟨hcs, _⟩ | ⟨p, l, c, m, n, D, Pl, hcs, hb, hl, hm, hmm, hx, hi⟩
  · simp at hcs
    obtain ⟨rfl, rfl, rfl⟩ := hcs
    exact ⟨Nat.zero_le _, fun _ => 0, fun _ => 0, fun _ => ⟨#[]⟩, fun i hi => absurd hi (Nat.not_lt_zero _)⟩
  · simp at hcs
    obtain ⟨rfl, rfl, rfl⟩ := hcs
    have hlm : len ≤ m := by rw [hmm]; split <;> omega
    rw [c36] at hi
    have key : ∀ i, i < len → ∃ kd ad d, w.cell? (p.add (i * 5)) = some (.int .i64 kd) ∧ w.cell? (p.add (i * 5 + 1)) = some (.int .i64 ad) ∧ w.cell? (p.add (i * 5 + 4)) = some (.string d) ∧ d.size ≤ maxLen := by
      intro i hil
      obtain ⟨cs', hc, ht⟩ := hi i (by omega)
      obtain ⟨xs, n', _, _, hlen, hxl, hf⟩ := DataW.trod_struct Try.underlying36 ht
      obtain ⟨_, hcl, hat⟩ := World.cells?_some hc
      obtain ⟨v0, v1, v2, v3, v4, rfl⟩ := list5 hcl
      have e0 := hat 0 (by omega)
      have e1 := hat 1 (by omega)
      have e4 := hat 4 (by omega)
      rw [Go.Deep.add_add] at e0 e1 e4
      have f0 : DataW.trod enc Try.prog w base spare held n' 3 (([v0, v1, v2, v3, v4].drop 0).take (Try.prog.cellsOf 3)) = xs[0]? := hf 0 _ rfl
      have f1 : DataW.trod enc Try.prog w base spare held n' 3 (([v0, v1, v2, v3, v4].drop 1).take (Try.prog.cellsOf 3)) = xs[1]? := hf 1 _ rfl
      have f4 : DataW.trod enc Try.prog w base spare held n' 9 (([v0, v1, v2, v3, v4].drop 4).take (Try.prog.cellsOf 9)) = xs[4]? := hf 4 _ rfl
      rw [c3] at f0 f1
      rw [c9] at f4
      have hs : xs.length = 5 := hxl
      obtain ⟨y0, y1, y2, y3, y4, rfl⟩ := list5 hs
      obtain ⟨k0, hk0, -, -⟩ := DataW.trod_int Try.underlying3 (x := y0) f0
      obtain ⟨k1, hk1, -, -⟩ := DataW.trod_int Try.underlying3 (x := y1) f1
      obtain ⟨s4, hs4, -, hsz⟩ := DataW.trod_string Try.underlying9 (x := y4) f4
      simp only [List.drop_zero, List.drop_succ_cons, List.take_succ_cons, List.take_zero, List.cons.injEq, and_true] at hk0 hk1 hs4
      subst hk0 hk1 hs4
      exact ⟨k0, k1, s4, e0, e1, e4, hsz⟩
    refine ⟨Nat.le_trans hl hm, fun i => cellInt (w.cell? (p.add (i * 5))), fun i => cellInt (w.cell? (p.add (i * 5 + 1))), fun i => cellStr (w.cell? (p.add (i * 5 + 4))), ?_⟩
    intro i hil
    obtain ⟨kd, ad, d, h0, h1, h4, hsz⟩ := key i hil
    obtain ⟨bb, off, spot⟩ := p
    have hn : spot = none := by
      cases spot with
      | none => rfl
      | some s =>
        exfalso
        obtain ⟨_, _, _, g0, _⟩ := key 0 (by omega)
        simp only [Nat.zero_mul, Addr.add, World.cell?, if_true, Option.isSome_some] at g0
        split at g0 <;> cases g0
    subst hn
    simp only [Addr.add_lit] at h0 h1 h4 ⊢
    simp only [← Nat.add_assoc] at h1 h4 ⊢
    refine ⟨bb, off, rfl, ?_, by rw [h0]; rfl, by rw [h1]; rfl, by rw [h4]; rfl, by rw [h4]; exact hsz⟩
    unfold World.cell? at h0
    by_cases hlt : bb < w.heap.size
    · exact hlt
    · have : w.heap[bb]? = none := by simp; omega
      simp [this] at h0
end Go.Proofs.Ytkfcjcbjefpliaa
