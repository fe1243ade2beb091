import Derived.Test.YtijepfjfmpmfnaaV38
namespace Go.Proofs.Ytijepfjfmpmfnaa
open Go.RowKit Go.Tg Go.Maps

/-! What NegOrder asks, in plain Lean. -/
inductive Sub (R : Opt → Opt → Prop) : List Opt → List Opt → Prop
  | nil (l : List Opt) : Sub R l []
  | skip {x : Opt} {l o : List Opt} : Sub R l o → Sub R (x :: l) o
  | take {x y : Opt} {l o : List Opt} : R x y → Sub R l o → Sub R (x :: l) (y :: o)
theorem Sub.tail {R : Opt → Opt → Prop} {l : List Opt} {y : Opt} {o : List Opt} (h : Sub R l (y :: o)) : Sub R l o := by
  generalize hz : y :: o = z at h
  induction h with
  | nil => cases hz
  | skip _ ih => exact .skip (ih hz)
  | take _ h _ => cases hz; exact .skip h
theorem Sub.hit {R : Opt → Opt → Prop} {l : List Opt} {x y : Opt} {o : List Opt} (h : Sub R (x :: l) (y :: o)) : Sub R l o := by
  cases h with
  | skip h => exact h.tail
  | take _ h => exact h
theorem Sub.miss {R : Opt → Opt → Prop} {l : List Opt} {x y : Opt} {o : List Opt} (h : Sub R (x :: l) (y :: o)) (hn : ¬ R x y) : Sub R l (y :: o) := by
  cases h with
  | skip h => exact h
  | take hr _ => exact absurd hr hn
theorem Sub.end' {R : Opt → Opt → Prop} {o : List Opt} (h : Sub R [] o) : o = [] := by
  cases h; rfl
theorem Sub.mono {R R' : Opt → Opt → Prop} {l o : List Opt} (h : Sub R l o) (hr : ∀ x y, R x y → R' x y) : Sub R' l o := by
  induction h with
  | nil l => exact .nil l
  | skip _ ih => exact .skip ih
  | take h1 _ ih => exact .take (hr _ _ h1) ih

theorem rej_sub (has : Int → Bool) : ∀ (l pre : List Opt), Sub (fun x y => x = y) l (rejP has pre l) := by
  intro l
  induction l with
  | nil => intro pre; exact .nil _
  | cons x l ih =>
    intro pre
    unfold rejP
    by_cases h : rejOne has pre x = true
    · rw [if_pos h]; exact .take rfl (ih _)
    · rw [if_neg h]; exact .skip (ih _)
theorem nak_sub (fits : Opt → Bool) (inst : Int → ByteArray) : ∀ (l : List Opt), Sub (fun x y => x.t = y.t) l (nakP fits inst l) := by
  intro l
  induction l with
  | nil => exact .nil _
  | cons x l ih =>
    unfold nakP at ih ⊢
    by_cases h : fits x = true
    · rw [List.filter_cons_of_neg (by simp [h])]; exact .skip ih
    · rw [List.filter_cons_of_pos (by simpa using h)]; exact .take rfl ih

/-- What the law compares: the type, and of what is rejected the value too. -/
def RelO (c : Int) (x y : Opt) : Prop := x.t = y.t ∧ (c = 3 ∨ x.v = y.v)
theorem judge_code (rs : List Rl) (l : List Opt) : (judgeS rs l).1 = 2 ∨ (judgeS rs l).1 = 3 ∨ (judgeS rs l).1 = 4 := by
  unfold judgeS answerS
  repeat' split
  · exact .inr (.inr rfl)
  · exact .inr (.inl rfl)
  · exact .inl rfl
theorem judge_some (rs : List Rl) (l : List Opt) (h : (judgeS rs l).1 ≠ 2) : (judgeS rs l).2.length ≠ 0 := by
  unfold judgeS answerS at h ⊢
  repeat' split
  · assumption
  · assumption
  · rename_i h1 h2; rw [if_neg h1, if_neg h2] at h; exact absurd rfl h
theorem judge_ack (rs : List Rl) (l : List Opt) (h : (judgeS rs l).1 = 2) : (judgeS rs l).2 = l ∧ (rejP (fun k => (findR rs k).isSome) [] l).length = 0 := by
  unfold judgeS answerS at h ⊢
  by_cases h1 : (rejP (fun k => (findR rs k).isSome) [] l).length ≠ 0
  · rw [if_pos h1] at h; cases h
  · rw [if_neg h1] at h ⊢
    by_cases h2 : (nakP (fun o => fitsR (ruleOf rs o.t) o.v) (fun k => (ruleOf rs k).s) l).length ≠ 0
    · rw [if_pos h2] at h; cases h
    · rw [if_neg h2]; exact ⟨rfl, by omega⟩
theorem judge_more (rs : List Rl) (l : List Opt) (o : Opt) (h : (judgeS rs l).1 = 2) (ho : (findR rs o.t).isSome = false) : (judgeS rs (l ++ [o])).1 = 4 ∧ (judgeS rs (l ++ [o])).2.length = 1 := by
  have h1 := (judge_ack rs l h).2
  have h2 : rejP (fun k => (findR rs k).isSome) [] (l ++ [o]) = [o] := by
    rw [rejP_snoc, List.eq_nil_of_length_eq_zero h1]
    have : rejOne (fun k => (findR rs k).isSome) ([] ++ l) o = true := by unfold rejOne; simp only [ho]; simp
    rw [if_pos this]; rfl
  unfold judgeS answerS
  rw [if_pos (by rw [h2]; simp)]
  exact ⟨rfl, by rw [h2]; rfl⟩
theorem judge_sub (rs : List Rl) (l : List Opt) (h : (judgeS rs l).1 ≠ 2) : Sub (RelO (judgeS rs l).1) l (judgeS rs l).2 := by
  unfold judgeS answerS at h ⊢
  by_cases h1 : (rejP (fun k => (findR rs k).isSome) [] l).length ≠ 0
  · rw [if_pos h1]; exact (rej_sub _ l []).mono (fun x y e => by subst e; exact ⟨rfl, .inr rfl⟩)
  · rw [if_neg h1] at h ⊢
    by_cases h2 : (nakP (fun o => fitsR (ruleOf rs o.t) o.v) (fun k => (ruleOf rs k).s) l).length ≠ 0
    · rw [if_pos h2]
      have h3 := nak_sub (fun o => fitsR (ruleOf rs o.t) o.v) (fun k => (ruleOf rs k).s) l
      exact Sub.mono (R' := RelO 3) h3 (fun x y e => ⟨e, .inl rfl⟩)
    · rw [if_neg h2] at h; exact absurd rfl h
theorem find_none (rs : List Rl) (k : Int) (h : ∀ r ∈ rs, r.t ≠ k) : (findR rs k).isSome = false := by
  unfold findR
  rw [List.find?_eq_none.2 (fun r hr => by simpa using h r hr)]
  rfl

/-- 'append(.., l...)' of options. -/
theorem wpl_append_opts {B : Nat} {w : World} {ops : Array Oper} {rest : List Oper} {o : Oper} {a : Act} {Q : Exit → Act → World → Prop} {ok : Nat → Prop} (hgd : o.guard = none) (s x : Operand)
    (ho : o.op = .call { callee := .builtin .append, args := #[s, x], argTypes := #[27, 27] }) (v : Value) (l : List Opt) (hs : a.eval s = v) (hown : ORow w B v l)
    (xv : Value) (l' : List Opt) (hx : a.eval x = xv) (hr : Opts w ok xv l') (hnil : ∀ n c, xv = .slice none n c → c = 0) (hlen : l.length + l'.length ≤ 1000000) (hW : B ≤ w.heap.size)
    (h : ∀ v' w', ORow w' B v' (l ++ l') → Keep (fun k => v.ownBlock = some k) w w' → (v'.ownBlock = v.ownBlock ∨ v'.ownBlock = some w.heap.size) → wpList Try.prog ops Q rest (a.put o.dst v') w') : wpList Try.prog ops Q (o :: rest) a w := by
  obtain ⟨i, z, hi, hz, hsz, hby, hzs⟩ := opt_info
  obtain ⟨sa, c, rfl, hc, hm⟩ := hr.form
  cases sa with
  | none =>
    have h0 := hnil _ _ rfl
    subst h0
    have e : l' = [] := List.eq_nil_of_length_eq_zero (by omega)
    subst e
    refine wpList_append_own_none hgd s x 27 ho B 46 i 2 Try.underlying27 hi v l.length (optL l).flatten hs hown hx ?_
    exact h v w (by rw [List.append_nil]; exact hown) (Keep.refl _ _) (Or.inl rfl)
  | some ad =>
    have hfl := hr.flat (by decide)
    have hl2 : (optL l').flatten.length = l'.length * 2 := by rw [flatten_len _ (optL_k l'), optL_len]
    refine wpList_append_own_at (P := Try.prog) (w := w) hgd s x 27 ho B 46 i z 2 24 Try.underlying27 hi hz hsz hby hzs (by decide) v l.length (optL l).flatten hs hown ad l'.length c (optL l').flatten hx hl2 hfl (opt_bytes l') (by unfold maxLen; omega) (by omega) hW ?_
    intro v' w' h1 h2 _ h3
    exact h v' w' (by unfold ORow; rw [optL_app, List.length_append]; exact h1) (keep_of_grown h2) h3
end Go.Proofs.Ytijepfjfmpmfnaa
