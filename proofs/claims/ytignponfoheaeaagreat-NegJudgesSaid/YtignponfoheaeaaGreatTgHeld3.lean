import Derived.Test.YtignponfoheaeaaGreatTgHeld2
/- Drawn regions: which operations keep S is told by a list H; an operation that looks at no world is taken at any time. (No program here.) -/
namespace Go.Tg
open Go

section
variable {P : Program} {ops : Array Oper} {Q : Exit → Act → World → Prop} {md : Region.Mode} {S : World → Prop} {H : Nat → Bool}

/-- S must hold behind the operations of H alone. -/
def wpAnyH (P : Program) (md : Region.Mode) (ops : Array Oper) (Q : Exit → Act → World → Prop) (S : World → Prop) (H : Nat → Bool) : Nat → Array Bool → Act → World → Prop
  | 0, listed, a, w => Region.ready md ops listed = [] ∧ Q .normal a w
  | fuel + 1, listed, a, w =>
    (Region.ready md ops listed = [] → Q .normal a w) ∧
    ∀ i ∈ Region.ready md ops listed, wpOp P ops Q i (fun a' w' => (H i = true → S w') ∧ wpAnyH P md ops Q S H fuel (listed.setIfInBounds i true) a' w') a w

theorem wpAny_of_H : ∀ (fuel : Nat) (listed : Array Bool) (a : Act) (w : World), wpAnyH P md ops Q S H fuel listed a w → wpAny P md ops Q fuel listed a w
  | 0, _, _, _, h => h
  | fuel + 1, _, _, _, h => ⟨h.1, fun i hi => wpOp_mono (fun a' w' h' => wpAny_of_H fuel _ a' w' h'.2) (h.2 i hi)⟩

theorem wpAnyH_first {T : World → Prop} {i : Nat} {oi : Oper} {v : Value} (hi : ops[i]? = some oi) (hsel : ∀ (j : Nat) (o : Oper) cs b, ops[j]? = some o → o.op ≠ .select cs b)
    (hQ : ∀ c a w, Q (.panic c) (a.put oi.dst v) w → Q (.panic c) a w) :
    ∀ (fuel : Nat) (listed : Array Bool) (a : Act) (w : World),
      (∀ j oj, ops[j]? = some oj → j ≠ i → listed.getD j true = false → (∀ e ∈ oj.after, Region.binds md e = true → e.on ≠ i) → oi.apart ops oj = true) →
      ((H i = false ∧ ∀ w, T w) ∨ ((∀ w, S w → T w) ∧ ∀ j oj, ops[j]? = some oj → H j = false → j ≠ i → listed.getD j true = false → ∃ e ∈ oj.after, Region.binds md e = true ∧ e.on = i)) →
      i ∈ Region.ready md ops listed → YieldsIf P ops T oi v a → T w → (H i = true → S w) →
      wpAnyH P md ops Q S H fuel (listed.setIfInBounds i true) (a.put oi.dst v) w → wpAnyH P md ops Q S H (fuel + 1) listed a w := by
  intro fuel
  induction fuel with
  | zero =>
    intro listed a w _ _ hr hy hS hSS K
    refine ⟨fun h => (by rw [h] at hr; cases hr), fun j hj => ?_⟩
    by_cases hji : j = i
    · subst hji; exact hy.wpOp hi hS ⟨hSS, K⟩
    · have := ready_mono hj hji
      rw [K.1] at this
      cases this
  | succ fuel ih =>
    intro listed a w hfree hT hr hy hS hSS K
    have hun := (mem_ready.1 hr).1
    refine ⟨fun h => (by rw [h] at hr; cases hr), fun j hj => ?_⟩
    by_cases hji : j = i
    · subst hji; exact hy.wpOp hi hS ⟨hSS, K⟩
    · have h1 := K.2 j (ready_mono hj hji)
      obtain ⟨hjun, oj, hoj, hall⟩ := mem_ready.1 hj
      have hnot : ∀ e ∈ oj.after, Region.binds md e = true → e.on ≠ i := fun e he hb heq => by
        have h1 := hall e he hb
        rw [heq, getD_both hun] at h1
        cases h1
      have hTS : ∀ w', (H j = true → S w') → T w' ∧ (H i = true → S w') := fun w' h => by
        rcases hT with ⟨h0, hT⟩ | ⟨hT, hw⟩
        · exact ⟨hT w', fun h => absurd h (by rw [h0]; decide)⟩
        · have hjn : H j = true := by
            cases hH : H j with
            | true => rfl
            | false =>
              obtain ⟨e, he, hb, hon⟩ := hw j oj hoj hH hji hjun
              exact absurd hon (hnot e he hb)
          exact ⟨hT w' (h hjn), fun _ => h hjn⟩
      have h2 := wpOp_putIf hoj (hfree j oj hoj hji hjun hnot) (fun cs b => hsel i oi cs b hi) (fun cs b => hsel j oj cs b hoj) hQ hy h1
      have hshrink : ∀ k, (listed.setIfInBounds j true).getD k true = false → listed.getD k true = false := fun k hun => by
        by_cases hjk : j = k
        · subst hjk; exact hjun
        · rw [getD_set_ne true hjk] at hun; exact hun
      have hfree' : ∀ k ok, ops[k]? = some ok → k ≠ i → (listed.setIfInBounds j true).getD k true = false →
          (∀ e ∈ ok.after, Region.binds md e = true → e.on ≠ i) → oi.apart ops ok = true := fun k ok hk hki hun hno => hfree k ok hk hki (hshrink k hun) hno
      have hT' : (H i = false ∧ ∀ w, T w) ∨ ((∀ w, S w → T w) ∧ ∀ k ok, ops[k]? = some ok → H k = false → k ≠ i → (listed.setIfInBounds j true).getD k true = false → ∃ e ∈ ok.after, Region.binds md e = true ∧ e.on = i) :=
        hT.imp id (fun h => ⟨h.1, fun k ok hk hH hki hun => h.2 k ok hk hH hki (hshrink k hun)⟩)
      refine wpOp_mono (fun a' w' h3 => ⟨h3.2.1, ih (listed.setIfInBounds j true) a' w' hfree' hT' (ready_mono hr (Ne.symm hji)) h3.1 (hTS w' h3.2.1).1 (hTS w' h3.2.1).2 ?_⟩) h2
      rw [Array.setIfInBounds_comm _ _ hji]
      exact h3.2.2

/-- What is left outside H waits for i. -/
def waitH (md : Region.Mode) (ops : Array Oper) (H : Nat → Bool) (listed : Array Bool) (i : Nat) : Bool := (List.range ops.size).all fun j => H j || decide (j = i) || listed.getD j true || Region.waitsFor md ops j i
theorem waitH_spec {i : Nat} {listed : Array Bool} (h : waitH md ops H listed i = true) (j : Nat) (oj : Oper) (hj : ops[j]? = some oj) (hH : H j = false) (hji : j ≠ i) (hun : listed.getD j true = false) : ∃ e ∈ oj.after, Region.binds md e = true ∧ e.on = i := by
  simp only [waitH, List.all_eq_true, List.mem_range, Bool.or_eq_true, decide_eq_true_eq] at h
  rcases h j (Array.getElem?_eq_some_iff.1 hj).1 with ((h1 | h1) | h1) | h1
  · rw [hH] at h1; cases h1
  · exact absurd h1 hji
  · rw [hun] at h1; cases h1
  · obtain ⟨o', ho', he⟩ := Region.waitsFor_spec h1
    have : o' = oj := Option.some.inj (ho'.symm.trans hj)
    subst this
    exact he

theorem wpAnyH_seq : ∀ (l : List Oper) (k : Nat) (listed : Array Bool) (a : Act) (w : World), (∀ j, k ≤ j → H j = false) → (∀ j, l[j]? = ops[k + j]?) →
    Region.seqB md ops l.length k listed = true → wpList P ops Q l a w → wpAnyH P md ops Q S H l.length listed a w
  | [], _, _, _, _, _, _, hB, h => ⟨by simpa [Region.seqB] using hB, h⟩
  | o :: l, k, listed, a, w, hnk, hl, hB, h => by
    have h0 : ops[k]? = some o := by simpa using (hl 0).symm
    simp only [List.length_cons, Region.seqB, Bool.and_eq_true, decide_eq_true_eq] at hB
    refine ⟨fun h1 => (by rw [hB.1] at h1; cases h1), fun i hi => ?_⟩
    rw [hB.1] at hi
    have hik : i = k := by simpa using hi
    subst hik
    have hw : wpOp P ops Q i (wpList P ops Q l) a w := by unfold wpOp; simp only [h0]; exact h
    exact wpOp_mono (fun a' w' h' => ⟨fun h => absurd h (by rw [hnk i (Nat.le_refl _)]; decide), wpAnyH_seq l (i + 1) _ a' w' (fun j hj => hnk j (by omega)) (fun j => by have := hl (j + 1); simpa [Nat.add_assoc, Nat.add_comm 1 j] using this) hB.2 h'⟩) hw

/-- The beginning. -/
theorem wp_region_H {id : Nat} {a : Act} {w : World} (H : Nat → Bool) (S : World → Prop) (hm : P.follows .mixedOrders = true)
    (h : wpAnyH P .any ops Q S H ops.size (Array.replicate ops.size false) a w.drew) : (Code.region id ops true).wp P Q a w :=
  wp_region_any hm (wpAny_of_H _ _ _ _ h)
end

section
variable {P : Program} {L : List Oper} {Q : Exit → Act → World → Prop} {md : Region.Mode} {S : World → Prop} {H : Nat → Bool} {fuel : Nat} {listed : Array Bool} {a : Act} {w : World}

/-- Number i looks at S alone, and is taken first. -/
theorem wpAnyH_at (i : Nat) {oi : Oper} {rest : List Oper} {v : Value} (ho : L.drop i = oi :: rest)
    (hs : (Region.noSelect L.toArray && waitH md L.toArray H listed i) = true)
    (hf : Region.free md L.toArray listed i = true) (hr : (Region.ready md L.toArray listed).contains i = true)
    (hQ : ∀ c a w, Q (.panic c) (a.put oi.dst v) w → Q (.panic c) a w) (hy : YieldsIf P L.toArray S oi v a) (hS : S w)
    (h : wpAnyH P md L.toArray Q S H fuel (listed.setIfInBounds i true) (a.put oi.dst v) w) : wpAnyH P md L.toArray Q S H (fuel + 1) listed a w := by
  simp only [Bool.and_eq_true] at hs
  have hi := at_drop ho
  exact wpAnyH_first hi (Region.noSelect_spec hs.1) hQ fuel listed a w (Region.free_spec hi hf) (.inr ⟨fun _ h => h, waitH_spec hs.2⟩) (by simpa using hr) hy hS (fun _ => hS) h
/-- Number i looks at no world. -/
theorem wpAnyH_pure (i : Nat) {oi : Oper} {rest : List Oper} {v : Value} (ho : L.drop i = oi :: rest)
    (hs : (Region.noSelect L.toArray && !H i) = true)
    (hf : Region.free md L.toArray listed i = true) (hr : (Region.ready md L.toArray listed).contains i = true)
    (hQ : ∀ c a w, Q (.panic c) (a.put oi.dst v) w → Q (.panic c) a w) (hy : YieldsIf P L.toArray (fun _ => True) oi v a)
    (h : wpAnyH P md L.toArray Q S H fuel (listed.setIfInBounds i true) (a.put oi.dst v) w) : wpAnyH P md L.toArray Q S H (fuel + 1) listed a w := by
  simp only [Bool.and_eq_true, Bool.not_eq_true'] at hs
  have hi := at_drop ho
  exact wpAnyH_first hi (Region.noSelect_spec hs.1) hQ fuel listed a w (Region.free_spec hi hf) (.inl ⟨hs.2, fun _ => trivial⟩) (by simpa using hr) hy trivial (fun h => absurd h (by rw [hs.2]; decide)) h

/-- What one operation leaves to be shown. -/
def wpStepH (P : Program) (md : Region.Mode) (L : List Oper) (Q : Exit → Act → World → Prop) (S : World → Prop) (H : Nat → Bool) (fuel : Nat) (listed : Array Bool) (i : Nat) (o : Oper) (a : Act) (w : World) : Prop :=
  ∀ K' : Act → World → Prop, Shut (∀ a w, (H i = true → S w) → wpAnyH P md L.toArray Q S H fuel (listed.setIfInBounds i true) a w → K' a w) → if Region.wanted o (yielded L.toArray a.tmps) = true then Oper.wp P o a w K' Q else K' (a.put o.dst undef) w
theorem wpStepH.op {i : Nat} {o : Oper} {rest : List Oper} (ho : L.drop i = o :: rest) (h : wpStepH P md L Q S H fuel listed i o a w) :
    wpOp P L.toArray Q i (fun a' w' => (H i = true → S w') ∧ wpAnyH P md L.toArray Q S H fuel (listed.setIfInBounds i true) a' w') a w :=
  wpOp_step (at_drop ho) (fun K' hK => h K' (fun a w hS hW => hK a w ⟨hS, hW⟩))
theorem wpAnyH_1 (i : Nat) {o : Oper} {rest : List Oper} (ho : L.drop i = o :: rest) (hr : Region.ready md L.toArray listed = [i])
    (h : wpStepH P md L Q S H fuel listed i o a w) : wpAnyH P md L.toArray Q S H (fuel + 1) listed a w := by
  refine ⟨fun h0 => (by rw [h0] at hr; cases hr), fun l hl => ?_⟩
  rw [hr] at hl
  have hli : l = i := by simpa using hl
  subst hli
  exact h.op ho
theorem wpAnyH_2 (i j : Nat) {o o' : Oper} {rest rest' : List Oper} (ho : L.drop i = o :: rest) (ho' : L.drop j = o' :: rest') (hr : Region.ready md L.toArray listed = [i, j])
    (h : wpStepH P md L Q S H fuel listed i o a w) (h' : wpStepH P md L Q S H fuel listed j o' a w) : wpAnyH P md L.toArray Q S H (fuel + 1) listed a w := by
  refine ⟨fun h0 => (by rw [h0] at hr; cases hr), fun l hl => ?_⟩
  rw [hr] at hl
  have hli : l = i ∨ l = j := by simpa using hl
  rcases hli with rfl | rfl
  · exact h.op ho
  · exact h'.op ho'
/-- From k on in the text's order. -/
theorem wpAnyH_end {f : Nat} (k : Nat) (hk : ∀ j, k ≤ j → H j = false) (hf : f = (L.drop k).length) (hB : Region.seqB md L.toArray f k listed = true) (h : wpList P L.toArray Q (L.drop k) a w) :
    wpAnyH P md L.toArray Q S H f listed a w := by
  subst hf
  exact wpAnyH_seq (L.drop k) k listed a w hk (fun j => by simp [List.getElem?_drop]) hB h
end

/-- From a up to b. -/
def rgH (a b : Nat) (j : Nat) : Bool := decide (a ≤ j) && decide (j < b)
theorem rgH_end (a b : Nat) : ∀ j, b ≤ j → rgH a b j = false := fun j h => by simp [rgH]; omega
end Go.Tg
