import Derived.Test.YtijepfjfmpmfnaaV73
import Derived.Test.YtijepfjfmpmfnaaV72
/- What is acked fits (plain Lean); one option of a row. -/
namespace Go.Proofs.Ytijepfjfmpmfnaa
open Go.RowKit Go.Tg Go.Maps

theorem rej_nil (has : Int → Bool) : ∀ (l pre : List Opt), (rejP has pre l).length = 0 → ∀ o ∈ l, has o.t = true
  | [], _, _, _, h => by cases h
  | x :: l, pre, h0, o, h => by
    simp only [rejP, List.length_append] at h0
    rcases List.mem_cons.1 h with h | h
    · subst h
      have h1 : (if rejOne has pre o then [o] else []).length = 0 := by omega
      by_cases hr : rejOne has pre o = true
      · rw [if_pos hr] at h1; cases h1
      · unfold rejOne at hr
        simp only [Bool.or_eq_true, Bool.not_eq_true', not_or, Bool.not_eq_false] at hr
        exact hr.2
    · exact rej_nil has l (pre ++ [x]) (by omega) o h
theorem judge_all (rs : List Rl) (l : List Opt) (h : (judgeS rs l).1 = 2) : ∀ o ∈ l, (findR rs o.t).isSome = true ∧ fitsR (ruleOf rs o.t) o.v = true := by
  unfold judgeS answerS at h
  by_cases h1 : (rejP (fun k => (findR rs k).isSome) [] l).length ≠ 0
  · rw [if_pos h1] at h; cases h
  · rw [if_neg h1] at h
    by_cases h2 : (nakP (fun o => fitsR (ruleOf rs o.t) o.v) (fun k => (ruleOf rs k).s) l).length ≠ 0
    · rw [if_pos h2] at h; cases h
    · intro o ho
      refine ⟨rej_nil (fun k => (findR rs k).isSome) l [] (by omega) o ho, ?_⟩
      by_cases hf : fitsR (ruleOf rs o.t) o.v = true
      · exact hf
      · exfalso
        apply h2
        unfold nakP
        rw [List.length_map]
        intro h0
        have : o ∈ l.filter (fun o => !fitsR (ruleOf rs o.t) o.v) := List.mem_filter.2 ⟨ho, by simpa using hf⟩
        rw [List.eq_nil_of_length_eq_zero h0] at this
        cases this
theorem find_one (r : Rl) (t : Int) (h : (findR [r] t).isSome = true) : r.t = t ∧ ruleOf [r] t = r := by
  have e : (r.t == t) = true := by
    unfold findR at h
    rw [List.find?_isSome] at h
    obtain ⟨x, hx, hxt⟩ := h
    rw [List.mem_singleton.1 hx] at hxt
    exact hxt
  refine ⟨by simpa using e, ?_⟩
  unfold ruleOf findR
  rw [show ([r].find? fun r => r.t == t) = some r from List.find?_cons_of_pos e]
  rfl
theorem judge_rule (r : Rl) (l : List Opt) (h : (judgeS [r] l).1 = 2) : ∀ o ∈ l, o.t = r.t ∧ fitsR r o.v = true := fun o ho => by
  obtain ⟨h1, h2⟩ := judge_all [r] l h o ho
  obtain ⟨e1, e2⟩ := find_one r o.t h1
  rw [e2] at h2
  exact ⟨e1.symm, h2⟩

section
variable {k : Nat} {w : World} {ok : Nat → Prop} {xs : List (List Value)}
/-- One record of a row, as a row. -/
theorem Rec.one {b off n c : Nat} (h : Rec k w ok (.slice (some ⟨b, off, none⟩) n c) xs) (i : Nat) (hi : i < xs.length) : Rec k w ok (.slice (some ⟨b, off + i * k, none⟩) 1 (c - i)) [xs[i]] := by
  obtain ⟨h0, sa, c', hv, hc, hm, h | ⟨b', off', hs, hb, hb', hr⟩⟩ := h
  · subst h; exact absurd hi (Nat.not_lt_zero _)
  · cases hv
    cases hs
    refine ⟨fun x hx => by rw [List.mem_singleton.1 hx]; exact h0 _ (List.getElem_mem hi), _, _, rfl, by show 1 ≤ c - i; omega, by omega, Or.inr ⟨b, off + i * k, rfl, hb, hb', fun j hj q u hu => ?_⟩⟩
    obtain rfl : j = 0 := by simp at hj; omega
    have := hr i hi q u hu
    rw [Nat.zero_mul, Nat.add_zero]
    exact this
end
theorem Opts.one {w : World} {ok : Nat → Prop} {b off n c : Nat} {l : List Opt} (h : Opts w ok (.slice (some ⟨b, off, none⟩) n c) l) (i : Nat) (hi : i < l.length) : Opts w ok (.slice (some ⟨b, off + i * 2, none⟩) 1 (c - i)) [l[i]] := by
  have := Rec.one h i (by rw [optL_len]; exact hi)
  unfold Opts optL at *
  simpa using this
end Go.Proofs.Ytijepfjfmpmfnaa
