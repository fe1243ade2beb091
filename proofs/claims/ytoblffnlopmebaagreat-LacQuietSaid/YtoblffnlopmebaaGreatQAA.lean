import Derived.StillTail
import Derived.OrdersHeld
import Derived.Deep.RegionHeld
set_option linter.unusedVariables false
set_option linter.unusedSimpArgs false
set_option maxHeartbeats 16000000
namespace Go.Tg
open Go
section
variable {P : Program} {ops : Array Oper} {Q : Exit -> Act -> World -> Prop} {md : Region.Mode} {S : World -> Prop} {n : Nat}
def wpAnyN (P : Program) (md : Region.Mode) (ops : Array Oper) (Q : Exit -> Act -> World -> Prop) (S : World -> Prop) (n : Nat) : Nat -> Array Bool -> Act -> World -> Prop
 | 0, listed, a, w => Region.ready md ops listed = [] /\ Q .normal a w
 | fuel + 1, listed, a, w =>
  (Region.ready md ops listed = [] -> Q .normal a w) /\
  ∀ i ∈ Region.ready md ops listed, wpOp P ops Q i (fun a' w' => (i < n -> S w') /\ wpAnyN P md ops Q S n fuel (listed.setIfInBounds i true) a' w') a w
theorem wpAny_of_N : ∀ (fuel : Nat) (listed : Array Bool) (a : Act) (w : World), wpAnyN P md ops Q S n fuel listed a w -> wpAny P md ops Q fuel listed a w
 | 0, _, _, _, h => h
 | fuel + 1, _, _, _, h => ⟨h.1, fun i hi => wpOp_mono (fun a' w' h' => wpAny_of_N fuel _ a' w' h'.2) (h.2 i hi)⟩
theorem wpAnyN_first {T : World -> Prop} {i : Nat} {oi : Oper} {v : Value} (hi : ops[i]? = some oi) (hsel : ∀ (j : Nat) (o : Oper) cs b, ops[j]? = some o -> o.op ≠ .select cs b)
 (hT : (n <= i /\ ∀ w, T w) \/ ((∀ w, S w -> T w) /\ ∀ j oj, ops[j]? = some oj -> n <= j -> ∃ e ∈ oj.after, Region.binds md e = true /\ e.on = i))
 (hQ : ∀ c a w, Q (.panic c) (a.put oi.dst v) w -> Q (.panic c) a w) :
 ∀ (fuel : Nat) (listed : Array Bool) (a : Act) (w : World),
  (∀ j oj, ops[j]? = some oj -> j ≠ i -> listed.getD j true = false -> (∀ e ∈ oj.after, Region.binds md e = true -> e.on ≠ i) -> oi.apart ops oj = true) ->
  i ∈ Region.ready md ops listed -> YieldsIf P ops T oi v a -> T w -> (i < n -> S w) ->
  wpAnyN P md ops Q S n fuel (listed.setIfInBounds i true) (a.put oi.dst v) w -> wpAnyN P md ops Q S n (fuel + 1) listed a w := by
 intro fuel
 induction fuel with
 | zero =>
  intro listed a w _ hr hy hS hSS H; refine ⟨fun h => (by rw [h] at hr; cases hr), fun j hj => ?_⟩
  by_cases hji : j = i
  . subst hji; exact hy.wpOp hi hS ⟨hSS, H⟩
  . have := ready_mono hj hji; rw [H.1] at this; cases this
 | succ fuel ih =>
  intro listed a w hfree hr hy hS hSS H; have hun := (mem_ready.1 hr).1; refine ⟨fun h => (by rw [h] at hr; cases hr), fun j hj => ?_⟩
  by_cases hji : j = i
  . subst hji; exact hy.wpOp hi hS ⟨hSS, H⟩
  . have h1 := H.2 j (ready_mono hj hji); obtain ⟨hjun, oj, hoj, hall⟩ := mem_ready.1 hj
    have hnot : ∀ e ∈ oj.after, Region.binds md e = true -> e.on ≠ i := fun e he hb heq => by
     have h1 := hall e he hb; rw [heq, getD_both hun] at h1; cases h1
    have hTS : ∀ w', (j < n -> S w') -> T w' /\ (i < n -> S w') := fun w' h => by
     rcases hT with ⟨h0, hT⟩ | ⟨hT, hw⟩
     . exact ⟨hT w', fun h => absurd h (by omega)⟩
     . have hjn : j < n := by
        rcases Nat.lt_or_ge j n with h | h
        . exact h
        . obtain ⟨e, he, hb, hon⟩ := hw j oj hoj h; exact absurd hon (hnot e he hb)
       exact ⟨hT w' (h hjn), fun _ => h hjn⟩
    have h2 := wpOp_putIf hoj (hfree j oj hoj hji hjun hnot) (fun cs b => hsel i oi cs b hi) (fun cs b => hsel j oj cs b hoj) hQ hy h1
    have hfree' : ∀ k ok, ops[k]? = some ok -> k ≠ i -> (listed.setIfInBounds j true).getD k true = false ->
     (∀ e ∈ ok.after, Region.binds md e = true -> e.on ≠ i) -> oi.apart ops ok = true := fun k ok hk hki hun hno => by
     refine hfree k ok hk hki ?_ hno
     by_cases hjk : j = k
     . subst hjk; exact hjun
     . rw [getD_set_ne true hjk] at hun; exact hun
    refine wpOp_mono (fun a' w' h3 => ⟨h3.2.1, ih (listed.setIfInBounds j true) a' w' hfree' (ready_mono hr (Ne.symm hji)) h3.1 (hTS w' h3.2.1).1 (hTS w' h3.2.1).2 ?_⟩) h2; rw [Array.setIfInBounds_comm _ _ hji]; exact h3.2.2
def waitB (md : Region.Mode) (ops : Array Oper) (n i : Nat) : Bool := (List.range ops.size).all fun j => decide (j < n) || Region.waitsFor md ops j i
theorem waitB_spec {i : Nat} (h : waitB md ops n i = true) (j : Nat) (oj : Oper) (hj : ops[j]? = some oj) (hn : n <= j) : ∃ e ∈ oj.after, Region.binds md e = true /\ e.on = i := by
 simp only [waitB, List.all_eq_true, List.mem_range, Bool.or_eq_true, decide_eq_true_eq] at h
 rcases h j (Array.getElem?_eq_some_iff.1 hj).1 with h1 | h1
 . omega
 . obtain ⟨o', ho', he⟩ := Region.waitsFor_spec h1; have : o' = oj := Option.some.inj (ho'.symm.trans hj); subst this; exact he
theorem wpAnyN_take {i : Nat} {oi : Oper} {v : Value} {fuel : Nat} {listed : Array Bool} {a : Act} {w : World} (hi : ops[i]? = some oi)
 (hs : (Region.noSelect ops && waitB md ops n i) = true)
 (hf : Region.free md ops listed i = true) (hr : (Region.ready md ops listed).contains i = true)
 (hQ : ∀ c a w, Q (.panic c) (a.put oi.dst v) w -> Q (.panic c) a w) (hy : YieldsIf P ops S oi v a) (hS : S w)
 (h : wpAnyN P md ops Q S n fuel (listed.setIfInBounds i true) (a.put oi.dst v) w) : wpAnyN P md ops Q S n (fuel + 1) listed a w := by
 simp only [Bool.and_eq_true] at hs; exact wpAnyN_first hi (Region.noSelect_spec hs.1) (.inr ⟨fun _ h => h, waitB_spec hs.2⟩) hQ fuel listed a w (Region.free_spec hi hf) (by simpa using hr) hy hS (fun _ => hS) h
theorem wpAnyN_late {i : Nat} {oi : Oper} {v : Value} {fuel : Nat} {listed : Array Bool} {a : Act} {w : World} (hi : ops[i]? = some oi)
 (hs : (Region.noSelect ops && decide (n <= i)) = true)
 (hf : Region.free md ops listed i = true) (hr : (Region.ready md ops listed).contains i = true)
 (hQ : ∀ c a w, Q (.panic c) (a.put oi.dst v) w -> Q (.panic c) a w) (hy : YieldsIf P ops (fun _ => True) oi v a)
 (h : wpAnyN P md ops Q S n fuel (listed.setIfInBounds i true) (a.put oi.dst v) w) : wpAnyN P md ops Q S n (fuel + 1) listed a w := by
 simp only [Bool.and_eq_true, decide_eq_true_eq] at hs; exact wpAnyN_first hi (Region.noSelect_spec hs.1) (.inl ⟨hs.2, fun _ => trivial⟩) hQ fuel listed a w (Region.free_spec hi hf) (by simpa using hr) hy trivial (fun h => absurd h (by omega)) h
theorem wpAnyN_one {fuel : Nat} {listed : Array Bool} {a : Act} {w : World} {i : Nat} {o : Oper} (ho : ops[i]? = some o) (hr : Region.ready md ops listed = [i])
 (h : ∀ K' : Act -> World -> Prop, Shut (∀ a w, (i < n -> S w) -> wpAnyN P md ops Q S n fuel (listed.setIfInBounds i true) a w -> K' a w) -> if Region.wanted o (yielded ops a.tmps) = true then Oper.wp P o a w K' Q else K' (a.put o.dst undef) w) :
 wpAnyN P md ops Q S n (fuel + 1) listed a w := by
 refine ⟨fun h0 => (by rw [hr] at h0; cases h0), fun j hj => ?_⟩; rw [hr] at hj; have hji : j = i := by simpa using hj
 subst hji; exact wpOp_step ho (fun K' hK => h K' (fun a w hS hW => hK a w ⟨hS, hW⟩))
theorem wpAnyN_seq : ∀ (l : List Oper) (k : Nat) (listed : Array Bool) (a : Act) (w : World), n <= k -> (∀ j, l[j]? = ops[k + j]?) ->
 Region.seqB md ops l.length k listed = true -> wpList P ops Q l a w -> wpAnyN P md ops Q S n l.length listed a w
 | [], _, _, _, _, _, _, hB, h => ⟨by simpa [Region.seqB] using hB, h⟩
 | o :: l, k, listed, a, w, hnk, hl, hB, h => by
  have h0 : ops[k]? = some o := by simpa using (hl 0).symm
  simp only [List.length_cons, Region.seqB, Bool.and_eq_true, decide_eq_true_eq] at hB; refine ⟨fun h1 => (by rw [hB.1] at h1; cases h1), fun i hi => ?_⟩; rw [hB.1] at hi; have hik : i = k := by simpa using hi
  subst hik; have hw : wpOp P ops Q i (wpList P ops Q l) a w := by unfold wpOp; simp only [h0]; exact h
  exact wpOp_mono (fun a' w' h' => ⟨fun h => absurd h (by omega), wpAnyN_seq l (i + 1) _ a' w' (by omega) (fun j => by have := hl (j + 1); simpa [Nat.add_assoc, Nat.add_comm 1 j] using this) hB.2 h'⟩) hw
theorem wpAnyN_end {L : List Oper} {f : Nat} {listed : Array Bool} {a : Act} {w : World} (k : Nat) (hk : n <= k) (hf : f = (L.drop k).length) (hB : Region.seqB md L.toArray f k listed = true) (h : wpList P L.toArray Q (L.drop k) a w) :
 wpAnyN P md L.toArray Q S n f listed a w := by
 subst hf; exact wpAnyN_seq (L.drop k) k listed a w hk (fun j => by simp [List.getElem?_drop]) hB h
theorem wp_region_N {id : Nat} {a : Act} {w : World} (n : Nat) (S : World -> Prop) (hm : P.follows .mixedOrders = true)
 (h : wpAnyN P .any ops Q S n ops.size (Array.replicate ops.size false) a w.drew) : (Code.region id ops true).wp P Q a w :=
 wp_region_any hm (wpAny_of_N _ _ _ _ h)
end
end Go.Tg
namespace Go.Tg
open Go
section
variable {P : Program} {L : List Oper} {Q : Exit -> Act -> World -> Prop} {md : Region.Mode} {S : World -> Prop} {n : Nat} {fuel : Nat} {listed : Array Bool} {a : Act} {w : World}
theorem at_drop {i : Nat} {o : Oper} {rest : List Oper} (h : L.drop i = o :: rest) : L.toArray[i]? = some o := by
 have : (L.drop i)[0]? = some o := by rw [h]; rfl
 rw [List.getElem?_drop] at this
 simpa using this
def wpStep (P : Program) (md : Region.Mode) (L : List Oper) (Q : Exit -> Act -> World -> Prop) (S : World -> Prop) (n fuel : Nat) (listed : Array Bool) (i : Nat) (o : Oper) (a : Act) (w : World) : Prop :=
 ∀ K' : Act -> World -> Prop, Shut (∀ a w, (i < n -> S w) -> wpAnyN P md L.toArray Q S n fuel (listed.setIfInBounds i true) a w -> K' a w) -> if Region.wanted o (yielded L.toArray a.tmps) = true then Oper.wp P o a w K' Q else K' (a.put o.dst undef) w
end
end Go.Tg
namespace Go.Tg
open Go
section
variable {P : Program} {ops : Array Oper} {Q : Exit -> Act -> World -> Prop} {md : Region.Mode} {S : World -> Prop} {H : Nat -> Bool}
def wpAnyH (P : Program) (md : Region.Mode) (ops : Array Oper) (Q : Exit -> Act -> World -> Prop) (S : World -> Prop) (H : Nat -> Bool) : Nat -> Array Bool -> Act -> World -> Prop
 | 0, listed, a, w => Region.ready md ops listed = [] /\ Q .normal a w
 | fuel + 1, listed, a, w =>
  (Region.ready md ops listed = [] -> Q .normal a w) /\
  ∀ i ∈ Region.ready md ops listed, wpOp P ops Q i (fun a' w' => (H i = true -> S w') /\ wpAnyH P md ops Q S H fuel (listed.setIfInBounds i true) a' w') a w
theorem wpAny_of_H : ∀ (fuel : Nat) (listed : Array Bool) (a : Act) (w : World), wpAnyH P md ops Q S H fuel listed a w -> wpAny P md ops Q fuel listed a w
 | 0, _, _, _, h => h
 | fuel + 1, _, _, _, h => ⟨h.1, fun i hi => wpOp_mono (fun a' w' h' => wpAny_of_H fuel _ a' w' h'.2) (h.2 i hi)⟩
theorem wpAnyH_first {T : World -> Prop} {i : Nat} {oi : Oper} {v : Value} (hi : ops[i]? = some oi) (hsel : ∀ (j : Nat) (o : Oper) cs b, ops[j]? = some o -> o.op ≠ .select cs b)
 (hQ : ∀ c a w, Q (.panic c) (a.put oi.dst v) w -> Q (.panic c) a w) :
 ∀ (fuel : Nat) (listed : Array Bool) (a : Act) (w : World),
  (∀ j oj, ops[j]? = some oj -> j ≠ i -> listed.getD j true = false -> (∀ e ∈ oj.after, Region.binds md e = true -> e.on ≠ i) -> oi.apart ops oj = true) ->
  ((H i = false /\ ∀ w, T w) \/ ((∀ w, S w -> T w) /\ ∀ j oj, ops[j]? = some oj -> H j = false -> j ≠ i -> listed.getD j true = false -> ∃ e ∈ oj.after, Region.binds md e = true /\ e.on = i)) ->
  i ∈ Region.ready md ops listed -> YieldsIf P ops T oi v a -> T w -> (H i = true -> S w) ->
  wpAnyH P md ops Q S H fuel (listed.setIfInBounds i true) (a.put oi.dst v) w -> wpAnyH P md ops Q S H (fuel + 1) listed a w := by
 intro fuel
 induction fuel with
 | zero =>
  intro listed a w _ _ hr hy hS hSS K; refine ⟨fun h => (by rw [h] at hr; cases hr), fun j hj => ?_⟩
  by_cases hji : j = i
  . subst hji; exact hy.wpOp hi hS ⟨hSS, K⟩
  . have := ready_mono hj hji; rw [K.1] at this; cases this
 | succ fuel ih =>
  intro listed a w hfree hT hr hy hS hSS K; have hun := (mem_ready.1 hr).1; refine ⟨fun h => (by rw [h] at hr; cases hr), fun j hj => ?_⟩
  by_cases hji : j = i
  . subst hji; exact hy.wpOp hi hS ⟨hSS, K⟩
  . have h1 := K.2 j (ready_mono hj hji); obtain ⟨hjun, oj, hoj, hall⟩ := mem_ready.1 hj
    have hnot : ∀ e ∈ oj.after, Region.binds md e = true -> e.on ≠ i := fun e he hb heq => by
     have h1 := hall e he hb; rw [heq, getD_both hun] at h1; cases h1
    have hTS : ∀ w', (H j = true -> S w') -> T w' /\ (H i = true -> S w') := fun w' h => by
     rcases hT with ⟨h0, hT⟩ | ⟨hT, hw⟩
     . exact ⟨hT w', fun h => absurd h (by rw [h0]; decide)⟩
     . have hjn : H j = true := by
        cases hH : H j with
        | true => rfl
        | false =>
         obtain ⟨e, he, hb, hon⟩ := hw j oj hoj hH hji hjun; exact absurd hon (hnot e he hb)
       exact ⟨hT w' (h hjn), fun _ => h hjn⟩
    have h2 := wpOp_putIf hoj (hfree j oj hoj hji hjun hnot) (fun cs b => hsel i oi cs b hi) (fun cs b => hsel j oj cs b hoj) hQ hy h1
    have hshrink : ∀ k, (listed.setIfInBounds j true).getD k true = false -> listed.getD k true = false := fun k hun => by
     by_cases hjk : j = k
     . subst hjk; exact hjun
     . rw [getD_set_ne true hjk] at hun; exact hun
    have hfree' : ∀ k ok, ops[k]? = some ok -> k ≠ i -> (listed.setIfInBounds j true).getD k true = false ->
     (∀ e ∈ ok.after, Region.binds md e = true -> e.on ≠ i) -> oi.apart ops ok = true := fun k ok hk hki hun hno => hfree k ok hk hki (hshrink k hun) hno
    have hT' : (H i = false /\ ∀ w, T w) \/ ((∀ w, S w -> T w) /\ ∀ k ok, ops[k]? = some ok -> H k = false -> k ≠ i -> (listed.setIfInBounds j true).getD k true = false -> ∃ e ∈ ok.after, Region.binds md e = true /\ e.on = i) :=
     hT.imp id (fun h => ⟨h.1, fun k ok hk hH hki hun => h.2 k ok hk hH hki (hshrink k hun)⟩)
    refine wpOp_mono (fun a' w' h3 => ⟨h3.2.1, ih (listed.setIfInBounds j true) a' w' hfree' hT' (ready_mono hr (Ne.symm hji)) h3.1 (hTS w' h3.2.1).1 (hTS w' h3.2.1).2 ?_⟩) h2; rw [Array.setIfInBounds_comm _ _ hji]; exact h3.2.2
def waitH (md : Region.Mode) (ops : Array Oper) (H : Nat -> Bool) (listed : Array Bool) (i : Nat) : Bool := (List.range ops.size).all fun j => H j || decide (j = i) || listed.getD j true || Region.waitsFor md ops j i
theorem waitH_spec {i : Nat} {listed : Array Bool} (h : waitH md ops H listed i = true) (j : Nat) (oj : Oper) (hj : ops[j]? = some oj) (hH : H j = false) (hji : j ≠ i) (hun : listed.getD j true = false) : ∃ e ∈ oj.after, Region.binds md e = true /\ e.on = i := by
 simp only [waitH, List.all_eq_true, List.mem_range, Bool.or_eq_true, decide_eq_true_eq] at h
 rcases h j (Array.getElem?_eq_some_iff.1 hj).1 with ((h1 | h1) | h1) | h1
 . rw [hH] at h1; cases h1
 . exact absurd h1 hji
 . rw [hun] at h1; cases h1
 . obtain ⟨o', ho', he⟩ := Region.waitsFor_spec h1; have : o' = oj := Option.some.inj (ho'.symm.trans hj); subst this; exact he
theorem wpAnyH_seq : ∀ (l : List Oper) (k : Nat) (listed : Array Bool) (a : Act) (w : World), (∀ j, k <= j -> H j = false) -> (∀ j, l[j]? = ops[k + j]?) ->
 Region.seqB md ops l.length k listed = true -> wpList P ops Q l a w -> wpAnyH P md ops Q S H l.length listed a w
 | [], _, _, _, _, _, _, hB, h => ⟨by simpa [Region.seqB] using hB, h⟩
 | o :: l, k, listed, a, w, hnk, hl, hB, h => by
  have h0 : ops[k]? = some o := by simpa using (hl 0).symm
  simp only [List.length_cons, Region.seqB, Bool.and_eq_true, decide_eq_true_eq] at hB; refine ⟨fun h1 => (by rw [hB.1] at h1; cases h1), fun i hi => ?_⟩; rw [hB.1] at hi; have hik : i = k := by simpa using hi
  subst hik; have hw : wpOp P ops Q i (wpList P ops Q l) a w := by unfold wpOp; simp only [h0]; exact h
  exact wpOp_mono (fun a' w' h' => ⟨fun h => absurd h (by rw [hnk i (Nat.le_refl _)]; decide), wpAnyH_seq l (i + 1) _ a' w' (fun j hj => hnk j (by omega)) (fun j => by have := hl (j + 1); simpa [Nat.add_assoc, Nat.add_comm 1 j] using this) hB.2 h'⟩) hw
theorem wp_region_H {id : Nat} {a : Act} {w : World} (H : Nat -> Bool) (S : World -> Prop) (hm : P.follows .mixedOrders = true)
 (h : wpAnyH P .any ops Q S H ops.size (Array.replicate ops.size false) a w.drew) : (Code.region id ops true).wp P Q a w :=
 wp_region_any hm (wpAny_of_H _ _ _ _ h)
end
section
variable {P : Program} {L : List Oper} {Q : Exit -> Act -> World -> Prop} {md : Region.Mode} {S : World -> Prop} {H : Nat -> Bool} {fuel : Nat} {listed : Array Bool} {a : Act} {w : World}
theorem wpAnyH_at (i : Nat) {oi : Oper} {rest : List Oper} {v : Value} (ho : L.drop i = oi :: rest)
 (hs : (Region.noSelect L.toArray && waitH md L.toArray H listed i) = true)
 (hf : Region.free md L.toArray listed i = true) (hr : (Region.ready md L.toArray listed).contains i = true)
 (hQ : ∀ c a w, Q (.panic c) (a.put oi.dst v) w -> Q (.panic c) a w) (hy : YieldsIf P L.toArray S oi v a) (hS : S w)
 (h : wpAnyH P md L.toArray Q S H fuel (listed.setIfInBounds i true) (a.put oi.dst v) w) : wpAnyH P md L.toArray Q S H (fuel + 1) listed a w := by
 simp only [Bool.and_eq_true] at hs; have hi := at_drop ho; exact wpAnyH_first hi (Region.noSelect_spec hs.1) hQ fuel listed a w (Region.free_spec hi hf) (.inr ⟨fun _ h => h, waitH_spec hs.2⟩) (by simpa using hr) hy hS (fun _ => hS) h
theorem wpAnyH_pure (i : Nat) {oi : Oper} {rest : List Oper} {v : Value} (ho : L.drop i = oi :: rest)
 (hs : (Region.noSelect L.toArray && !H i) = true)
 (hf : Region.free md L.toArray listed i = true) (hr : (Region.ready md L.toArray listed).contains i = true)
 (hQ : ∀ c a w, Q (.panic c) (a.put oi.dst v) w -> Q (.panic c) a w) (hy : YieldsIf P L.toArray (fun _ => True) oi v a)
 (h : wpAnyH P md L.toArray Q S H fuel (listed.setIfInBounds i true) (a.put oi.dst v) w) : wpAnyH P md L.toArray Q S H (fuel + 1) listed a w := by
 simp only [Bool.and_eq_true, Bool.not_eq_true'] at hs; have hi := at_drop ho; exact wpAnyH_first hi (Region.noSelect_spec hs.1) hQ fuel listed a w (Region.free_spec hi hf) (.inl ⟨hs.2, fun _ => trivial⟩) (by simpa using hr) hy trivial (fun h => absurd h (by rw [hs.2]; decide)) h
def wpStepH (P : Program) (md : Region.Mode) (L : List Oper) (Q : Exit -> Act -> World -> Prop) (S : World -> Prop) (H : Nat -> Bool) (fuel : Nat) (listed : Array Bool) (i : Nat) (o : Oper) (a : Act) (w : World) : Prop :=
 ∀ K' : Act -> World -> Prop, Shut (∀ a w, (H i = true -> S w) -> wpAnyH P md L.toArray Q S H fuel (listed.setIfInBounds i true) a w -> K' a w) -> if Region.wanted o (yielded L.toArray a.tmps) = true then Oper.wp P o a w K' Q else K' (a.put o.dst undef) w
theorem wpStepH.op {i : Nat} {o : Oper} {rest : List Oper} (ho : L.drop i = o :: rest) (h : wpStepH P md L Q S H fuel listed i o a w) :
 wpOp P L.toArray Q i (fun a' w' => (H i = true -> S w') /\ wpAnyH P md L.toArray Q S H fuel (listed.setIfInBounds i true) a' w') a w :=
 wpOp_step (at_drop ho) (fun K' hK => h K' (fun a w hS hW => hK a w ⟨hS, hW⟩))
theorem wpAnyH_1 (i : Nat) {o : Oper} {rest : List Oper} (ho : L.drop i = o :: rest) (hr : Region.ready md L.toArray listed = [i])
 (h : wpStepH P md L Q S H fuel listed i o a w) : wpAnyH P md L.toArray Q S H (fuel + 1) listed a w := by
 refine ⟨fun h0 => (by rw [h0] at hr; cases hr), fun l hl => ?_⟩; rw [hr] at hl; have hli : l = i := by simpa using hl
 subst hli; exact h.op ho
theorem wpAnyH_2 (i j : Nat) {o o' : Oper} {rest rest' : List Oper} (ho : L.drop i = o :: rest) (ho' : L.drop j = o' :: rest') (hr : Region.ready md L.toArray listed = [i, j])
 (h : wpStepH P md L Q S H fuel listed i o a w) (h' : wpStepH P md L Q S H fuel listed j o' a w) : wpAnyH P md L.toArray Q S H (fuel + 1) listed a w := by
 refine ⟨fun h0 => (by rw [h0] at hr; cases hr), fun l hl => ?_⟩; rw [hr] at hl; have hli : l = i \/ l = j := by simpa using hl
 rcases hli with rfl | rfl
 . exact h.op ho
 . exact h'.op ho'
theorem wpAnyH_end {f : Nat} (k : Nat) (hk : ∀ j, k <= j -> H j = false) (hf : f = (L.drop k).length) (hB : Region.seqB md L.toArray f k listed = true) (h : wpList P L.toArray Q (L.drop k) a w) :
 wpAnyH P md L.toArray Q S H f listed a w := by
 subst hf; exact wpAnyH_seq (L.drop k) k listed a w hk (fun j => by simp [List.getElem?_drop]) hB h
theorem hatH (i : Nat) {oi : Oper} {rest : List Oper} {v : Value} (ho : L.drop i = oi :: rest) (hy : ∀ W, S W -> (execOp a.eval oi).run P W = .ok (.value v) W) (hS : S w)
 (h : wpAnyH P md L.toArray Q S H fuel (listed.setIfInBounds i true) (a.put oi.dst v) w)
 (hs : (Region.noSelect L.toArray && waitH md L.toArray H listed i) = true := by kernel_rfl) (hf : Region.free md L.toArray listed i = true := by kernel_rfl) (hr : (Region.ready md L.toArray listed).contains i = true := by kernel_rfl)
 (hQ : ∀ c a w, Q (.panic c) (a.put oi.dst v) w -> Q (.panic c) a w := by exact fun _ _ _ h => h) (hw : Region.wanted oi (yielded L.toArray a.tmps) = true := by rfl) : wpAnyH P md L.toArray Q S H (fuel + 1) listed a w := wpAnyH_at i ho hs hf hr hQ (Or.inl ⟨hw, hy⟩) hS h
theorem hatP (i : Nat) {oi : Oper} {rest : List Oper} {v : Value} (ho : L.drop i = oi :: rest) (hy : ∀ W : World, True -> (execOp a.eval oi).run P W = .ok (.value v) W)
 (h : wpAnyH P md L.toArray Q S H fuel (listed.setIfInBounds i true) (a.put oi.dst v) w)
 (hs : (Region.noSelect L.toArray && !H i) = true := by kernel_rfl) (hf : Region.free md L.toArray listed i = true := by kernel_rfl) (hr : (Region.ready md L.toArray listed).contains i = true := by kernel_rfl)
 (hQ : ∀ c a w, Q (.panic c) (a.put oi.dst v) w -> Q (.panic c) a w := by exact fun _ _ _ h => h) (hw : Region.wanted oi (yielded L.toArray a.tmps) = true := by rfl) : wpAnyH P md L.toArray Q S H (fuel + 1) listed a w := wpAnyH_pure i ho hs hf hr hQ (Or.inl ⟨hw, hy⟩) h
theorem hskp (i : Nat) {oi : Oper} {rest : List Oper} (ho : L.drop i = oi :: rest) (hS : S w)
 (h : wpAnyH P md L.toArray Q S H fuel (listed.setIfInBounds i true) (a.put oi.dst undef) w)
 (hs : (Region.noSelect L.toArray && waitH md L.toArray H listed i) = true := by kernel_rfl) (hf : Region.free md L.toArray listed i = true := by kernel_rfl) (hr : (Region.ready md L.toArray listed).contains i = true := by kernel_rfl)
 (hQ : ∀ c a w, Q (.panic c) (a.put oi.dst undef) w -> Q (.panic c) a w := by exact fun _ _ _ h => h) (hw : Region.wanted oi (yielded L.toArray a.tmps) = false := by rfl) : wpAnyH P md L.toArray Q S H (fuel + 1) listed a w := wpAnyH_at i ho hs hf hr hQ (Or.inr ⟨hw, rfl⟩) hS h
theorem hskP (i : Nat) {oi : Oper} {rest : List Oper} (ho : L.drop i = oi :: rest)
 (h : wpAnyH P md L.toArray Q S H fuel (listed.setIfInBounds i true) (a.put oi.dst undef) w)
 (hs : (Region.noSelect L.toArray && !H i) = true := by kernel_rfl) (hf : Region.free md L.toArray listed i = true := by kernel_rfl) (hr : (Region.ready md L.toArray listed).contains i = true := by kernel_rfl)
 (hQ : ∀ c a w, Q (.panic c) (a.put oi.dst undef) w -> Q (.panic c) a w := by exact fun _ _ _ h => h) (hw : Region.wanted oi (yielded L.toArray a.tmps) = false := by rfl) : wpAnyH P md L.toArray Q S H (fuel + 1) listed a w := wpAnyH_pure i ho hs hf hr hQ (Or.inr ⟨hw, rfl⟩) h
theorem hone (i : Nat) {o : Oper} {rest : List Oper} (ho : L.drop i = o :: rest) (h : ∀ K' : Act -> World -> Prop, Shut (∀ a w, (H i = true -> S w) -> wpAnyH P md L.toArray Q S H fuel (listed.setIfInBounds i true) a w -> K' a w) -> Oper.wp P o a w K' Q)
 (hr : Region.ready md L.toArray listed = [i] := by kernel_rfl) (hw : Region.wanted o (yielded L.toArray a.tmps) = true := by rfl) : wpAnyH P md L.toArray Q S H (fuel + 1) listed a w :=
 wpAnyH_1 i ho hr (fun K hK => by rw [if_pos hw]; exact h K hK)
end
def rgH (a b : Nat) (j : Nat) : Bool := decide (a <= j) && decide (j < b)
theorem rgH_end (a b : Nat) : ∀ j, b <= j -> rgH a b j = false := fun j h => by simp [rgH]; omega
theorem hend {P : Program} {L : List Oper} {Q : Exit -> Act -> World -> Prop} {md : Region.Mode} {S : World -> Prop} {x y f : Nat} {listed : Array Bool} {a : Act} {w : World} (k : Nat) (h : wpList P L.toArray Q (L.drop k) a w)
 (hk : y <= k := by omega) (hf : f = (L.drop k).length := by rfl) (hB : Region.seqB md L.toArray f k listed = true := by kernel_rfl) : wpAnyH P md L.toArray Q S (rgH x y) f listed a w := wpAnyH_end k (fun j hj => rgH_end _ _ j (Nat.le_trans hk hj)) hf hB h
end Go.Tg
