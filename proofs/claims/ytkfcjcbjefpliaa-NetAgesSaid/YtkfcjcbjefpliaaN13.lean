import Derived.Test.YtkfcjcbjefpliaaN12
import Derived.Deep.RegionLaw
import Derived.Laws.IdiomCopy
namespace Go.Proofs.Ytkfcjcbjefpliaa
open Go.RowKit Go.Tg Go.Maps Go.Sort

theorem setCells_blk {g : Nat} {T : TypeId} : ∀ (vs : List Value) (o : Nat) (w : World) (cur : Array Value), w.heap[g]? = some (.cells cur T (0, 0)) →
    ∃ cur', (w.setCells g o vs).heap[g]? = some (.cells cur' T (0, 0)) ∧ cur'.size = cur.size ∧ ∀ j, j < cur.size → cur'[j]? = if o ≤ j ∧ j < o + vs.length then vs[j - o]? else cur[j]? := by
  intro vs
  induction vs with
  | nil => intro o w cur h; exact ⟨cur, h, rfl, fun j _ => by rw [if_neg (by simp)]⟩
  | cons v vs ih =>
    intro o w cur h
    obtain ⟨cur', h1, h2, h3⟩ := ih (o + 1) (w.setCell ⟨g, o, none⟩ v) _ (blk_setCell h)
    refine ⟨cur', h1, by simpa using h2, fun j hj => ?_⟩
    rw [h3 j (by simpa using hj)]
    by_cases e : j = o
    · subst e
      rw [if_neg (by omega), if_pos (by simp)]
      simp [hj]
    · by_cases h4 : o + 1 ≤ j ∧ j < o + 1 + vs.length
      · rw [if_pos h4, if_pos (by simp; omega)]
        obtain ⟨d, hd⟩ : ∃ d, j - o = d + 1 := ⟨j - o - 1, by omega⟩
        rw [hd, show j - (o + 1) = d from by omega]
        rfl
      · rw [if_neg h4, if_neg (by simp; omega)]
        simp [Array.getElem?_setIfInBounds, Ne.symm e]
theorem setCells_keep {g : Nat} : ∀ (vs : List Value) (o : Nat) (w : World), Keep (· = g) w (w.setCells g o vs) := by
  intro vs
  induction vs with
  | nil => intro o w; exact Keep.refl _ _
  | cons v vs ih => intro o w; exact ((Keep.refl _ _).setB _ _).trans (ih _ _)

theorem run_clear_gram (w : World) (ty : TypeId) (b o c : Nat) (hc : ∀ j, j < 4 → (w.cell? ⟨b, o + j, none⟩).isSome = true) (hf : ∀ j, j < 4 → w.frozen? ⟨b, o + j, none⟩ = false) :
    (Builtin.clear_ #[48] ty #[.slice (some ⟨b, o, none⟩) 1 c]).run Try.prog w = .ok (.tuple #[]) (w.setCells b o [.int .i64 0, .int .i64 0, .string (ByteArray.mk #[]), .int .i64 0]) := by
  have hv : ∀ w, (zeroValue 63).run Try.prog w = .ok (.agg #[.int .i64 0, .int .i64 0, .string (ByteArray.mk #[]), .int .i64 0]) w := fun w => by kernel_rfl
  have hz : (Builtin.zeroCells (Value.agg #[.int .i64 0, .int .i64 0, .string (ByteArray.mk #[]), .int .i64 0]).cells 1).toList = [.int .i64 0, .int .i64 0, .string (ByteArray.mk #[]), .int .i64 0] := by kernel_rfl
  have hst := run_storeCells_cells (P := Try.prog) b o [.int .i64 0, .int .i64 0, .string (ByteArray.mk #[]), .int .i64 0] 0 w (by simpa using hc) (by simpa using hf) (by intro v hv'; simp at hv'; rcases hv' with rfl | rfl | rfl <;> rfl)
  simp only [Nat.add_zero] at hst
  simp [Builtin.clear_, run_underlying Try.underlying48, hv, hz, hst]

theorem flat_drop (l : List Gram) (k : Nat) : (flat l).drop (k * 4) = flat (l.drop k) := by
  induction l generalizing k with
  | nil => simp [flat]
  | cons g l ih =>
    cases k with
    | zero => simp
    | succ k =>
      show (g.cells ++ flat l).drop ((k + 1) * 4) = _
      rw [show (k + 1) * 4 = g.cells.length + k * 4 from by show _ = 4 + _; omega, List.drop_append, Nat.add_sub_cancel_left, ih, List.drop_eq_nil_of_le (by omega)]
      rfl
theorem flat_take (l : List Gram) (k : Nat) : (flat l).take (k * 4) = flat (l.take k) := by
  induction l generalizing k with
  | nil => simp [flat]
  | cons g l ih =>
    cases k with
    | zero => simp [flat]
    | succ k =>
      show (g.cells ++ flat l).take ((k + 1) * 4) = _
      rw [show (k + 1) * 4 = g.cells.length + k * 4 from by show _ = 4 + _; omega, List.take_length_add_append, ih]
      rfl
end Go.Proofs.Ytkfcjcbjefpliaa
