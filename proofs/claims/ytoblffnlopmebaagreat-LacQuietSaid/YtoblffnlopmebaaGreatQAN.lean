import Derived.Test.YtoblffnlopmebaaGreatQAM
import Derived.Deep.Slices
import Derived.ChangeSame
import Derived.DataReads
set_option linter.unusedVariables false
set_option linter.unusedSimpArgs false
set_option maxHeartbeats 16000000
namespace Go.Proofs.YtoblffnlopmebaaGreat
open Go.RowKit Go.Tg Go.Maps
theorem build_list {α : Type} (P : Nat -> α -> Prop) : ∀ (n : Nat), (∀ i, i < n -> ∃ x, P i x) -> ∃ l : List α, l.length = n /\ ∀ i (h : i < l.length), P i l[i] := by
 intro n
 induction n with
 | zero => intro _; exact ⟨[], rfl, fun i h => absurd h (Nat.not_lt_zero _)⟩
 | succ n ih =>
  intro h; obtain ⟨l, hl, hp⟩ := ih (fun i hi => h i (by omega)); obtain ⟨x, hx⟩ := h n (by omega); refine ⟨l ++ [x], by simp [hl], fun i hi => ?_⟩
  by_cases hin : i < l.length
  . rw [List.getElem_append_left hin]; exact hp i hin
  . have : i = n := by simp at hi; omega
    subst this; rw [List.getElem_append_right (by omega)]; simp [hl]
    exact hx
end Go.Proofs.YtoblffnlopmebaaGreat
