import Derived.Test.YtignponfoheaeaaGreatTgTable
namespace Go.Tg
open Go Go.RowKit Go.Maps Go.MapKept
open Go.ChangeMaps (setBlock)

/-! A region that draws its order, by an invariant over what has been done. -/
section
variable {P : Program} {ops : Array Oper} {Q : Exit → Act → World → Prop}

def unl (n : Nat) (listed : Array Bool) : Nat := ((List.range n).filter fun i => !listed.getD i true).length

theorem unl_set {n : Nat} {listed : Array Bool} {i : Nat} (hi : i < n) (hl : listed.getD i true = false) : unl n (listed.setIfInBounds i true) < unl n listed := by
  have hsz : i < listed.size := by
    rcases Nat.lt_or_ge i listed.size with h | h
    · exact h
    · simp [Array.getElem?_eq_none h] at hl
  unfold unl
  have : (List.range n).filter (fun j => !(listed.setIfInBounds i true).getD j true) = ((List.range n).filter fun j => !listed.getD j true).filter (fun j => !(j == i)) := by
    rw [List.filter_filter]
    congr 1
    funext j
    by_cases hji : j = i
    · subst hji; simp [hsz]
    · rw [getD_set_ne true (Ne.symm hji)]
      simp [hji]
  rw [this, List.length_filter_lt_length_iff_exists]
  exact ⟨i, List.mem_filter.2 ⟨List.mem_range.2 hi, by simpa using hl⟩, by simp⟩

def mono (ops : Array Oper) : Bool := (List.range ops.size).all fun i => match ops[i]? with
  | some o => o.after.all fun e => decide (e.on < i)
  | none => true

theorem all_listed (hm : mono ops = true) {listed : Array Bool} (hs : listed.size = ops.size) (hr : Region.ready .any ops listed = []) : ∀ i, i < ops.size → listed.getD i false = true := by
  intro i
  induction i using Nat.strongRecOn with
  | _ i ih =>
    intro hi
    cases hl : listed.getD i true with
    | true =>
      have : i < listed.size := by omega
      simp [this] at hl ⊢; exact hl
    | false =>
      exfalso
      have hmem : i ∈ Region.ready .any ops listed := by
        rw [mem_ready]
        refine ⟨hl, ops[i], by simp [hi], fun e he _ => ?_⟩
        have := List.all_eq_true.1 hm i (List.mem_range.2 hi)
        simp only [Array.getElem?_eq_getElem hi] at this
        have h2 := Array.all_eq_true_iff_forall_mem.1 this e he
        simp only [decide_eq_true_eq] at h2
        exact ih e.on h2 (by omega)
      rw [hr] at hmem
      cases hmem

theorem wpAny_inv (hm : mono ops = true) (I : Array Bool → Act → World → Prop)
    (step : ∀ listed i a w, listed.size = ops.size → I listed a w → i ∈ Region.ready .any ops listed → i < ops.size → wpOp P ops Q i (I (listed.setIfInBounds i true)) a w)
    (fin : ∀ listed a w, I listed a w → (∀ i, i < ops.size → listed.getD i false = true) → Q .normal a w) :
    ∀ (fuel : Nat) (listed : Array Bool) (a : Act) (w : World), listed.size = ops.size → unl ops.size listed ≤ fuel → I listed a w → wpAny P .any ops Q fuel listed a w := by
  intro fuel
  induction fuel with
  | zero =>
    intro listed a w hs hu hI
    have hr : Region.ready .any ops listed = [] := by
      rw [List.eq_nil_iff_forall_not_mem]
      intro i hi
      obtain ⟨h0, o, ho, _⟩ := mem_ready.1 hi
      have hlt := (Array.getElem?_eq_some_iff.1 ho).1
      have := unl_set hlt h0
      omega
    exact ⟨hr, fin listed a w hI (all_listed hm hs hr)⟩
  | succ fuel ih =>
    intro listed a w hs hu hI
    refine ⟨fun hr => fin listed a w hI (all_listed hm hs hr), fun i hi => ?_⟩
    obtain ⟨h0, o, ho, _⟩ := mem_ready.1 hi
    have hlt := (Array.getElem?_eq_some_iff.1 ho).1
    refine wpOp_mono (fun a' w' h => ih _ a' w' (by simpa using hs) ?_ h) (step listed i a w hs hI hi hlt)
    have := unl_set hlt h0
    omega

theorem wp_region_inv {id : Nat} {a : Act} {w : World} (hf : P.follows .mixedOrders = true) (hm : mono ops = true) (I : Array Bool → Act → World → Prop)
    (h0 : I (Array.replicate ops.size false) a w.drew)
    (step : ∀ listed i a w, listed.size = ops.size → I listed a w → i ∈ Region.ready .any ops listed → i < ops.size → wpOp P ops Q i (I (listed.setIfInBounds i true)) a w)
    (fin : ∀ listed a w, I listed a w → (∀ i, i < ops.size → listed.getD i false = true) → Q .normal a w) : (Code.region id ops true).wp P Q a w := by
  refine wp_region_any hf (wpAny_inv hm I step fin _ _ _ _ (by simp) ?_ h0)
  unfold unl
  exact Nat.le_trans (List.length_filter_le _ _) (by simp)

def needs (ops : Array Oper) (i : Nat) (js : List Nat) : Bool :=
  match ops[i]? with
  | some o => js.all fun j => o.after.any fun e => e.on == j && Region.binds .any e
  | none => false

theorem needs_ready {listed : Array Bool} {i : Nat} {js : List Nat} (h : needs ops i js = true) (hr : i ∈ Region.ready .any ops listed) : ∀ j ∈ js, listed.getD j false = true := by
  obtain ⟨_, o, ho, hall⟩ := mem_ready.1 hr
  intro j hj
  simp only [needs, ho] at h
  have := List.all_eq_true.1 h j hj
  obtain ⟨e, he, hb⟩ := Array.any_eq_true'.1 this
  simp only [Bool.and_eq_true, beq_iff_eq] at hb
  exact hb.1 ▸ hall e he hb.2

theorem op_val {i : Nat} {o : Oper} {K : Act → World → Prop} {a : Act} {w w' : World} {v : Value} (ho : ops[i]? = some o) (hg : o.guard = none)
    (hr : (execOp a.eval o).run P w = .ok (.value v) w') (h : K (a.put o.dst v) w') : wpOp P ops Q i K a w := by
  unfold wpOp
  simp only [ho, Region.wanted, hg, if_true]
  left
  unfold Oper.wp
  rw [hr]
  exact h
theorem op_skip {i : Nat} {o : Oper} {K : Act → World → Prop} {a : Act} {w w' : World} (ho : ops[i]? = some o) (hg : o.guard = none)
    (hr : (execOp a.eval o).run P w = .ok .skip w') (h : K (a.put o.dst undef) w') : wpOp P ops Q i K a w := by
  unfold wpOp
  simp only [ho, Region.wanted, hg, if_true]
  left
  unfold Oper.wp
  rw [hr]
  exact h
end
end Go.Tg
