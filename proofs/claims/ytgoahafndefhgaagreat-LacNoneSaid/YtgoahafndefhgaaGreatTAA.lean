import Derived.Test.YtgoahafndefhgaaGreatQAB
set_option linter.unusedVariables false
set_option linter.unusedSimpArgs false
set_option maxHeartbeats 16000000
namespace Go.Tg
open Go Go.RowKit Go.Maps Go.MapKept
open Go.ChangeMaps (setBlock)
section
variable {P : Program} {K E T : TypeId} {w : World} {b : Nat} {m : Value -> Option Value}
theorem MapAt.same (h : MapAt P K w b m) {w' : World} (he : w'.heap[b]? = w.heap[b]?) : MapAt P K w' b m := by
 obtain ⟨es, clock, hb, r⟩ := h; exact ⟨es, clock, he.trans hb, r⟩
theorem MapAt.congr (h : MapAt P K w b m) {m' : Value -> Option Value} (hm : ∀ k, m' k = m k) : MapAt P K w b m' := by
 have : m' = m := funext hm; exact this ▸ h
end
end Go.Tg
namespace Go.Tg
open Go Go.RowKit Go.Maps Go.MapKept
open Go.ChangeMaps (setBlock)
section
variable {P : Program} {ops : Array Oper} {Q : Exit -> Act -> World -> Prop}
theorem unl_set {n : Nat} {listed : Array Bool} {i : Nat} (hi : i < n) (hl : listed.getD i true = false) : unl n (listed.setIfInBounds i true) < unl n listed := by
 have hsz : i < listed.size := by
  rcases Nat.lt_or_ge i listed.size with h | h
  . exact h
  . simp [Array.getElem?_eq_none h] at hl
 unfold unl
 have : (List.range n).filter (fun j => !(listed.setIfInBounds i true).getD j true) = ((List.range n).filter fun j => !listed.getD j true).filter (fun j => !(j == i)) := by
  rw [List.filter_filter]
  congr 1
  funext j
  by_cases hji : j = i
  . subst hji; simp [hsz]
  . rw [getD_set_ne true (Ne.symm hji)]; simp [hji]
 rw [this, List.length_filter_lt_length_iff_exists]; exact ⟨i, List.mem_filter.2 ⟨List.mem_range.2 hi, by simpa using hl⟩, by simp⟩
theorem all_listed (hm : mono ops = true) {listed : Array Bool} (hs : listed.size = ops.size) (hr : Region.ready .any ops listed = []) : ∀ i, i < ops.size -> listed.getD i false = true := by
 intro i
 induction i using Nat.strongRecOn with
 | _ i ih =>
  intro hi
  cases hl : listed.getD i true with
  | true =>
   have : i < listed.size := by omega
   simp [this] at hl ⊢; exact hl
  | false =>
   exfalso
   have hmem : i ∈ Region.ready .any ops listed := by
    rw [mem_ready]; refine ⟨hl, ops[i], by simp [hi], fun e he _ => ?_⟩; have := List.all_eq_true.1 hm i (List.mem_range.2 hi); simp only [Array.getElem?_eq_getElem hi] at this; have h2 := Array.all_eq_true_iff_forall_mem.1 this e he; simp only [decide_eq_true_eq] at h2; exact ih e.on h2 (by omega)
   rw [hr] at hmem; cases hmem
end
end Go.Tg
