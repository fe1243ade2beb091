import Derived.Test.YtoblffnlopmebaaGreatQAB
import Derived.Test.YtoblffnlopmebaaGreatQAA
set_option linter.unusedVariables false
set_option linter.unusedSimpArgs false
set_option maxHeartbeats 16000000
namespace Go.Tg
open Go
def putAll : List Oper -> Nat -> (Nat -> Value) -> Act -> Act
 | [], _, _, a => a
 | o :: l, k, vals, a => putAll l (k + 1) vals (a.put o.dst (vals k))
def headB (L : List Oper) (n m : Nat) : Bool :=
 (List.range n).all fun i => match L[i]? with
  | some o => o.guard.isNone && (match o.dst with
   | some d => decide (d < m) && (List.range n).all (fun j => match L[j]? with
    | some p => decide (i = j) || p.dst != some d
    | none => true)
   | none => false) && (List.range n).all (fun j => match L[j]? with
    | some p => (match p.dst with | some d => !(o.looksAt L.toArray).contains d || Region.waitsFor .any L.toArray i j | none => true)
    | none => true)
  | none => false
def tailB (L : List Oper) (n : Nat) : Bool :=
 (List.range L.length).all fun j => decide (j < n) || (List.range j).any (fun k => decide (n <= k) && Region.waitsFor .any L.toArray j k) ||
  (List.range n).all (fun i => Region.waitsFor .any L.toArray j i || (List.range n).any (fun k => decide (i < k) && Region.waitsFor .any L.toArray k i))
def upto (n m : Nat) : Array Bool := (List.replicate n true ++ List.replicate (m - n) false).toArray
def factsB (L : List Oper) (n m : Nat) : Bool :=
 Region.noSelect L.toArray && mono L.toArray && decide (n <= L.length) && headB L n m && tailB L n && Region.seqB .any L.toArray (L.length - n) n (upto n L.length)
section
variable {P : Program} {L : List Oper} {Q : Exit -> Act -> World -> Prop} {n : Nat} {a0 : Act} {w0 : World} {R : World -> World -> Prop} {F : Nat -> Value -> World -> Prop}
def StepOk (P : Program) (L : List Oper) (Q : Exit -> Act -> World -> Prop) (n : Nat) (a0 : Act) (w0 : World) (R : World -> World -> Prop) (F : Nat -> Value -> World -> Prop) (i : Nat) (o : Oper) : Prop :=
 ∀ (vals : Nat -> Value) (w : World), R w0 w -> (∀ j, Region.waitsFor .any L.toArray i j = true -> j < n -> F j (vals j) w) ->
  ∀ K : Act -> World -> Prop, Shut (∀ v w', R w w' -> F i v w' -> K ((putAll (L.take n) 0 vals a0).put o.dst v) w') -> Oper.wp P o (putAll (L.take n) 0 vals a0) w K Q
def StepsOk (P : Program) (L : List Oper) (Q : Exit -> Act -> World -> Prop) (n : Nat) (a0 : Act) (w0 : World) (R : World -> World -> Prop) (F : Nat -> Value -> World -> Prop) : Nat -> List Oper -> Prop
 | _, [] => True
 | i, o :: l => StepOk P L Q n a0 w0 R F i o /\ StepsOk P L Q n a0 w0 R F (i + 1) l
theorem StepsOk.get : ∀ (l : List Oper) (i : Nat), StepsOk P L Q n a0 w0 R F i l -> ∀ (j : Nat) (o : Oper), l[j]? = some o -> StepOk P L Q n a0 w0 R F (i + j) o
 | [], _, _, j, o, h => by simp at h
 | x :: l, i, h, 0, o, hj => by simp at hj; subst hj; exact h.1
 | x :: l, i, h, j + 1, o, hj => by
  have := StepsOk.get l (i + 1) h.2 j o (by simpa using hj)
  rwa [show i + 1 + j = i + (j + 1) by omega] at this
theorem putAll_defers : ∀ (l : List Oper) (k : Nat) (vals : Nat -> Value) (a : Act), (putAll l k vals a).defers = a.defers
 | [], _, _, _ => rfl
 | o :: l, k, vals, a => by
  unfold putAll; rw [putAll_defers l]; cases o.dst <;> rfl
theorem putF_size (a : Act) (d : Option Tmp) (v : Value) : (a.put d v).tmps.size = a.tmps.size := by cases d <;> simp [Act.put]
theorem putAll_size : ∀ (l : List Oper) (k : Nat) (vals : Nat -> Value) (a : Act), (putAll l k vals a).tmps.size = a.tmps.size
 | [], _, _, _ => rfl
 | o :: l, k, vals, a => by unfold putAll; rw [putAll_size l, putF_size]
theorem put_out {a : Act} {d : Option Tmp} {v : Value} {t : Tmp} (h : d ≠ some t) : (a.put d v).tmps[t]? = a.tmps[t]? := by
 cases d with
 | none => rfl
 | some d => simp only [Act.put]; rw [Array.getElem?_setIfInBounds_ne (fun e => h (by rw [e]))]
theorem put_in {a : Act} {v : Value} {t : Tmp} (h : t < a.tmps.size) : (a.put (some t) v).tmps[t]? = some v := by
 simp [Act.put, h]
theorem putAll_out : ∀ (l : List Oper) (k : Nat) (vals : Nat -> Value) (a : Act) (t : Tmp), (∀ (j : Nat) (o : Oper), l[j]? = some o -> o.dst ≠ some t) -> (putAll l k vals a).tmps[t]? = a.tmps[t]?
 | [], _, _, _, _, _ => rfl
 | o :: l, k, vals, a, t, h => by
  unfold putAll; rw [putAll_out l (k + 1) vals _ t (fun j o' hj => h (j + 1) o' (by simpa using hj)), put_out (h 0 o rfl)]
theorem putAll_in : ∀ (l : List Oper) (k : Nat) (vals : Nat -> Value) (a : Act) (t : Tmp) (i : Nat) (o : Oper), l[i]? = some o -> o.dst = some t -> t < a.tmps.size ->
 (∀ j o', l[j]? = some o' -> j ≠ i -> o'.dst ≠ some t) -> (putAll l k vals a).tmps[t]? = some (vals (k + i))
 | [], _, _, _, _, i, o, h, _, _, _ => by simp at h
 | x :: l, k, vals, a, t, 0, o, h, ht, hs, hd => by
  simp at h; subst h
  unfold putAll; rw [putAll_out l (k + 1) vals _ t (fun j o' hj => hd (j + 1) o' (by simpa using hj) (by omega)), ht, put_in hs]; rfl
 | x :: l, k, vals, a, t, i + 1, o, h, ht, hs, hd => by
  unfold putAll; rw [putAll_in l (k + 1) vals _ t i o (by simpa using h) ht (by rw [putF_size]; exact hs) (fun j o' hj hne => hd (j + 1) o' (by simpa using hj) (by omega))]
  congr 1; congr 1; omega
structure FInv (L : List Oper) (n : Nat) (a0 : Act) (w0 : World) (R : World -> World -> Prop) (F : Nat -> Value -> World -> Prop) (listed : Array Bool) (a : Act) (w : World) (vals : Nat -> Value) : Prop where
 sz : listed.size = L.length
 tail : ∀ j, n <= j -> j < L.length -> listed.getD j true = false
 clos : ∀ i, listed.getD i false = true -> ∀ j, Region.waitsFor .any L.toArray i j = true -> listed.getD j false = true
 rel : R w0 w
 facts : ∀ i, i < n -> listed.getD i false = true -> F i (vals i) w
 df : a.defers = a0.defers
 asz : a.tmps.size = a0.tmps.size
 ain : ∀ i, i < n -> listed.getD i false = true -> ∀ o t, L[i]? = some o -> o.dst = some t -> a.tmps[t]? = some (vals i)
 aout : ∀ t, (∀ i, i < n -> listed.getD i false = true -> ∀ o, L[i]? = some o -> o.dst ≠ some t) -> a.tmps[t]? = a0.tmps[t]?
theorem waits_of {i j : Nat} {o : Oper} (ho : L.toArray[i]? = some o) (h : Region.waitsFor .any L.toArray i j = true) : ∃ e ∈ o.after, Region.binds .any e = true /\ e.on = j := by
 obtain ⟨o', h1, h2⟩ := Region.waitsFor_spec h; have : o' = o := Option.some.inj (h1.symm.trans ho); subst this; exact h2
theorem head_spec {m i : Nat} (h : headB L n m = true) (hi : i < n) : ∃ o d, L[i]? = some o /\ o.guard = none /\ o.dst = some d /\ d < m /\ (∀ j p, j < n -> L[j]? = some p -> j ≠ i -> p.dst ≠ some d) /\
 (∀ j p t, j < n -> L[j]? = some p -> p.dst = some t -> t ∈ o.looksAt L.toArray -> Region.waitsFor .any L.toArray i j = true) := by
 have h := List.all_eq_true.1 h i (List.mem_range.2 hi)
 cases ho : L[i]? with
 | none => simp [ho] at h
 | some o =>
  simp only [ho] at h
  cases hd : o.dst with
  | none => simp [hd] at h
  | some d =>
   simp only [hd, Bool.and_eq_true, decide_eq_true_eq] at h; obtain ⟨⟨h1, h2, h3⟩, h4⟩ := h; refine ⟨o, d, rfl, Option.isNone_iff_eq_none.1 h1, hd, h2, fun j p hj hp hne => ?_, fun j p t hj hp ht hm => ?_⟩
   . have := List.all_eq_true.1 h3 j (List.mem_range.2 hj); simp only [hp, Bool.or_eq_true, decide_eq_true_eq] at this
     rcases this with h | h
     . exact absurd h.symm hne
     . simpa using h
   . have := List.all_eq_true.1 h4 j (List.mem_range.2 hj); simp only [hp, ht, Bool.or_eq_true] at this
     rcases this with h | h
     . simp at h; exact absurd hm h
     . exact h
theorem tail_not {listed : Array Bool} {j : Nat} (hb : tailB L n = true) (htl : ∀ j, n <= j -> j < L.length -> listed.getD j true = false) (hc : ∀ i, listed.getD i false = true -> ∀ j, Region.waitsFor .any L.toArray i j = true -> listed.getD j false = true)
 (hj : j ∈ Region.ready .any L.toArray listed) (hnj : n <= j) : ∀ i, i < n -> listed.getD i false = true := by
 obtain ⟨h0, o, ho, hall⟩ := mem_ready.1 hj; have hjl : j < L.length := by have := (Array.getElem?_eq_some_iff.1 ho).1; simpa using this
 have hw : ∀ k, Region.waitsFor .any L.toArray j k = true -> listed.getD k false = true := fun k hk => by
  obtain ⟨e, he, hb, rfl⟩ := waits_of ho hk; exact hall e he hb
 have h := List.all_eq_true.1 hb j (List.mem_range.2 hjl); simp only [Bool.or_eq_true, decide_eq_true_eq] at h
 rcases h with (h | h) | h
 . omega
 . obtain ⟨k, hk, hk2⟩ := List.any_eq_true.1 h; simp only [Bool.and_eq_true, decide_eq_true_eq] at hk2; have h1 := hw k hk2.2; have h2 := htl k hk2.1 (by have := List.mem_range.1 hk; omega); rw [Array.getD_eq_getD_getElem?] at h1 h2
   cases hx : listed[k]? with
   | none => simp [hx] at h1
   | some b => simp [hx] at h1 h2; rw [h1] at h2; cases h2
 . have key : ∀ d i, i < n -> n - i <= d -> listed.getD i false = true := by
    intro d
    induction d with
    | zero => intro i hi hd; omega
    | succ d ih =>
     intro i hi hd; have := List.all_eq_true.1 h i (List.mem_range.2 hi); simp only [Bool.or_eq_true] at this
     rcases this with h1 | h1
     . exact hw i h1
     . obtain ⟨k, hk, hk2⟩ := List.any_eq_true.1 h1; simp only [Bool.and_eq_true, decide_eq_true_eq] at hk2; have hkn := List.mem_range.1 hk; exact hc k (ih k hkn (by omega)) i hk2.2
   exact fun i hi => key n i hi (by omega)
theorem upto_of {listed : Array Bool} (hs : listed.size = L.length) (hn : n <= L.length) (h1 : ∀ i, i < n -> listed.getD i false = true) (h2 : ∀ j, n <= j -> j < L.length -> listed.getD j true = false) : listed = upto n L.length := by
 apply Array.ext_getElem?
 intro i; unfold upto; simp only [List.getElem?_toArray]
 by_cases hi : i < n
 . have := h1 i hi; rw [Array.getD_eq_getD_getElem?] at this; rw [List.getElem?_append_left (by simpa using hi)]
   cases hx : listed[i]? with
   | none => simp [hx] at this
   | some b => simp [hx] at this; simp [this, hi]
 . rw [List.getElem?_append_right (by simp; omega)]; simp only [List.length_replicate]
   by_cases hl : i < L.length
   . have := h2 i (by omega) hl; rw [Array.getD_eq_getD_getElem?] at this; have hil : i < listed.size := by omega
     rw [Array.getElem?_eq_getElem hil] at this ⊢; simp only [Option.getD_some] at this; rw [this, List.getElem?_replicate, if_pos (by omega)]
   . rw [Array.getElem?_eq_none (by omega), List.getElem?_eq_none (by simp; omega)]
theorem FInv.act {listed : Array Bool} {a : Act} {w : World} {vals : Nat -> Value} (h : FInv L n a0 w0 R F listed a w vals) (hn : n <= L.length) (hb : headB L n a0.tmps.size = true) {x : Tmp}
 (hx : ∀ j p, j < n -> L[j]? = some p -> p.dst = some x -> listed.getD j false = true) : a.tmps[x]? = (putAll (L.take n) 0 vals a0).tmps[x]? := by
 by_cases hex : ∃ j p, j < n /\ L[j]? = some p /\ p.dst = some x
 . obtain ⟨j, p, hj, hp, hd⟩ := hex; obtain ⟨o, d, ho, _, hod, hds, huni, _⟩ := head_spec hb hj; have : o = p := Option.some.inj (ho.symm.trans hp); subst this; have : d = x := Option.some.inj (hod.symm.trans hd); subst this
   rw [h.ain j hj (hx j o hj hp hd) o d hp hd, putAll_in (L.take n) 0 vals a0 d j o (by rw [List.getElem?_take_of_lt hj]; exact hp) hd hds
    (fun j' o' hj' hne => by
     have hj'n : j' < n := by
      rcases Nat.lt_or_ge j' n with h | h
      . exact h
      . rw [List.getElem?_eq_none (by simp; omega)] at hj'; cases hj'
     rw [List.getElem?_take_of_lt hj'n] at hj'
     exact huni j' o' hj'n hj' hne), Nat.zero_add]
 . rw [h.aout x (fun i hi _ o ho hd => hex ⟨i, o, hi, ho, hd⟩), putAll_out]; intro j o hj hd
   have hjn : j < n := by
    rcases Nat.lt_or_ge j n with h | h
    . exact h
    . rw [List.getElem?_eq_none (by simp; omega)] at hj; cases hj
   rw [List.getElem?_take_of_lt hjn] at hj; exact hex ⟨j, o, hjn, hj, hd⟩
theorem getD_of_true {listed : Array Bool} {i j : Nat} (hi : i < listed.size) : (listed.setIfInBounds i true).getD j false = true ↔ j = i \/ listed.getD j false = true := by
 by_cases hij : i = j
 . subst hij; simp [hi]
 . rw [getD_set_ne false hij]
   constructor
   . exact .inr
   . rintro (h | h)
     . exact absurd h.symm hij
     . exact h
theorem wpAny_seqle {ops : Array Oper} {md : Region.Mode} : ∀ (l : List Oper) (k fuel : Nat) (listed : Array Bool) (a : Act) (w : World), l.length <= fuel -> (∀ j, l[j]? = ops[k + j]?) ->
 Region.seqB md ops l.length k listed = true -> wpList P ops Q l a w -> wpAny P md ops Q fuel listed a w
 | [], _, fuel, _, _, _, _, _, hB, h => wpAny_done (by simpa [Region.seqB] using hB) h fuel
 | o :: l, k, 0, _, _, _, hf, _, _, _ => by simp at hf
 | o :: l, k, fuel + 1, listed, a, w, hf, hl, hB, h => by
  have h0 : ops[k]? = some o := by simpa using (hl 0).symm
  simp only [List.length_cons, Region.seqB, Bool.and_eq_true, decide_eq_true_eq] at hB; refine ⟨fun h1 => (by rw [hB.1] at h1; cases h1), fun i hi => ?_⟩; rw [hB.1] at hi; have hik : i = k := by simpa using hi
  subst hik; have hw : wpOp P ops Q i (wpList P ops Q l) a w := by unfold wpOp; simp only [h0]; exact h
  exact wpOp_mono (fun a' w' h' => wpAny_seqle l (i + 1) fuel _ a' w' (by simpa using hf) (fun j => by have := hl (j + 1); simpa [Nat.add_assoc, Nat.add_comm 1 j] using this) hB.2 h') hw
theorem unl_upto {n m : Nat} (h : n <= m) : m - n <= unl m (upto n m) := by
 unfold unl; obtain ⟨k, rfl⟩ : ∃ k, m = n + k := ⟨m - n, by omega⟩; rw [List.range_add, List.filter_append, List.length_append]
 have : ((List.range k).map (n + ·)).filter (fun i => !(upto n (n + k)).getD i true) = (List.range k).map (n + ·) := by
  rw [List.filter_eq_self]; intro x hx; obtain ⟨y, hy, rfl⟩ := List.mem_map.1 hx; have hy := List.mem_range.1 hy; simp [upto, Array.getD_eq_getD_getElem?, hy]
 rw [this]; simp
theorem wp_move {o : Oper} {a c : Act} {w : World} {d : Tmp} {G : Value -> World -> Prop} (he : execOp a.eval o = execOp c.eval o) (hd : o.dst = some d) (hdc : d < c.tmps.size) (hdf : c.defers = a.defers)
 (hQ : ∀ c (a a' : Act) w, a.defers = a'.defers -> Q (.panic c) a w -> Q (.panic c) a' w) (h : Oper.wp P o c w (fun a' w' => ∃ v, a' = c.put o.dst v /\ G v w') Q) :
 Oper.wp P o a w (fun a' w' => ∃ v, a' = a.put o.dst v /\ G v w') Q := by
 have inj : ∀ u v : Value, c.put o.dst u = c.put o.dst v -> u = v := fun u v e => by
  rw [hd] at e; have := congrArg (fun a : Act => a.tmps[d]?) e
  simpa [Act.put, hdc] using this
 unfold Oper.wp at *; rw [he]; generalize (execOp c.eval o).run P w = r at *
 cases r with
 | ok nx w' =>
  cases nx <;> simp only [Oper.upon] at h ⊢
  case value u => obtain ⟨v, e, hG⟩ := h; exact ⟨u, rfl, inj u v e ▸ hG⟩
  case skip => obtain ⟨v, e, hG⟩ := h; exact ⟨undef, rfl, inj undef v e ▸ hG⟩
  case defer dd =>
   obtain ⟨v, e, hG⟩ := h; have := congrArg Act.defers e; rw [hd] at this; simp [Act.put] at this
  case enter f args =>
   refine Calls.mono h fun e w'' he => ?_
   cases e with
   | returned u => obtain ⟨v, e, hG⟩ := he; exact ⟨u, rfl, inj u v e ▸ hG⟩
   | panicked ch => exact hQ _ _ _ _ hdf he
   | outgrown => exact he
  case row row args => exact Rows.mono h fun u w'' he => (by obtain ⟨v, e, hG⟩ := he; exact ⟨u, rfl, inj u v e ▸ hG⟩)
 | halt x w' =>
  cases x <;> simp only [Oper.upon] at h ⊢
  case panic u => exact hQ _ _ _ _ hdf h
theorem FInv.step {listed : Array Bool} {a : Act} {w w' : World} {vals : Nat -> Value} {i : Nat} {v : Value} {o : Oper} (h : FInv L n a0 w0 R F listed a w vals) (hb : headB L n a0.tmps.size = true) (hn : n <= L.length) (hi : i < n) (hr : i ∈ Region.ready .any L.toArray listed)
 (ho : L[i]? = some o) (trans : ∀ a b c, R a b -> R b c -> R a c) (stable : ∀ i v w w', R w0 w -> F i v w -> R w w' -> F i v w') (hR : R w w') (hF : F i v w') :
 FInv L n a0 w0 R F (listed.setIfInBounds i true) (a.put o.dst v) w' (fun j => if j = i then v else vals j) := by
 obtain ⟨o', d, ho', hg, hod, hds, huni, _⟩ := head_spec hb hi; have : o' = o := Option.some.inj (ho'.symm.trans ho); subst this; obtain ⟨h0, o2, ho2, hall⟩ := mem_ready.1 hr
 have : o2 = o' := by
  have : L[i]? = some o2 := by simpa using ho2
  exact Option.some.inj (this.symm.trans ho)
 subst this; have hil : i < listed.size := by rw [h.sz]; omega
 have hG := fun j => @getD_of_true listed i j hil; refine ⟨by simpa using h.sz, fun j hj hjl => ?_, fun k hk j hw => ?_, trans _ _ _ h.rel hR, fun j hj hl => ?_, ?_, ?_, fun j hj hl p t hp ht => ?_, fun t ht => ?_⟩
 . rw [getD_set_ne true (by omega)]; exact h.tail j hj hjl
 . rw [hG]
   rcases (hG k).1 hk with rfl | hk
   . obtain ⟨e, he, hb, rfl⟩ := waits_of ho2 hw; exact .inr (hall e he hb)
   . exact .inr (h.clos k hk j hw)
 . by_cases hji : j = i
   . subst hji; simpa using hF
   . simp only [hji, if_false]; exact stable j _ _ _ h.rel (h.facts j hj (((hG j).1 hl).resolve_left hji)) hR
 . cases o2.dst <;> exact h.df
 . rw [putF_size]; exact h.asz
 . by_cases hji : j = i
   . subst hji; have : p = o2 := Option.some.inj (hp.symm.trans ho); subst this; simp only [if_true]; rw [ht]; exact put_in (by rw [h.asz]; have : t = d := Option.some.inj (ht.symm.trans hod); rw [this]; exact hds)
   . simp only [hji, if_false]; rw [put_out (fun e => huni j p hj hp hji (by rw [ht, <- e, hod]))]; exact h.ain j hj (((hG j).1 hl).resolve_left hji) p t hp ht
 . rw [put_out (ht i hi ((hG i).2 (.inl rfl)) o2 ho)]; exact h.aout t (fun j hj hl p hp => ht j hj ((hG j).2 (.inr hl)) p hp)
theorem facts_any (hsel : Region.noSelect L.toArray = true) (hm : mono L.toArray = true) (hn : n <= L.length) (hb : headB L n a0.tmps.size = true) (ht : tailB L n = true) (hq : Region.seqB .any L.toArray (L.length - n) n (upto n L.length) = true)
 (hQ : ∀ c (a a' : Act) w, a.defers = a'.defers -> Q (.panic c) a w -> Q (.panic c) a' w) (trans : ∀ a b c, R a b -> R b c -> R a c) (stable : ∀ i v w w', R w0 w -> F i v w -> R w w' -> F i v w')
 (step : ∀ i o, i < n -> L[i]? = some o -> StepOk P L Q n a0 w0 R F i o)
 (fin : ∀ vals w, R w0 w -> (∀ i, i < n -> F i (vals i) w) -> wpList P L.toArray Q (L.drop n) (putAll (L.take n) 0 vals a0) w) :
 ∀ (fuel : Nat) (listed : Array Bool) (a : Act) (w : World) (vals : Nat -> Value), unl L.length listed <= fuel -> FInv L n a0 w0 R F listed a w vals -> wpAny P .any L.toArray Q fuel listed a w := by
 intro fuel
 induction fuel with
 | zero =>
  intro listed a w vals hf h
  by_cases hall : ∀ i, i < n -> listed.getD i false = true
  . have hl := upto_of h.sz hn hall h.tail
    have ha : a = putAll (L.take n) 0 vals a0 := by
     have h1 : a.tmps = (putAll (L.take n) 0 vals a0).tmps := Array.ext_getElem? fun x => h.act hn hb (fun j p hj _ _ => hall j hj); have h2 := h.df.trans (putAll_defers (L.take n) 0 vals a0).symm; cases a; cases hx : putAll (L.take n) 0 vals a0; rw [hx] at h1 h2; simp at h1 h2; rw [h1, h2]
    subst hl; subst ha; exact wpAny_seqle (L.drop n) n _ _ _ _ (by have := unl_upto hn; simp; omega) (fun j => by simp [List.getElem?_drop]) (by simpa using hq) (fin vals w h.rel (fun i hi => h.facts i hi (hall i hi)))
  . exfalso
    apply hall
    intro i hi
    cases hx : listed.getD i true with
    | false => have := unl_set (n := L.length) (by omega) hx; omega
    | true =>
     rw [Array.getD_eq_getD_getElem?] at hx ⊢; have : i < listed.size := by rw [h.sz]; omega
     simp [this] at hx ⊢; exact hx
 | succ fuel ih =>
  intro listed a w vals hf h
  by_cases hall : ∀ i, i < n -> listed.getD i false = true
  . have hl := upto_of h.sz hn hall h.tail
    have ha : a = putAll (L.take n) 0 vals a0 := by
     have h1 : a.tmps = (putAll (L.take n) 0 vals a0).tmps := Array.ext_getElem? fun x => h.act hn hb (fun j p hj _ _ => hall j hj); have h2 := h.df.trans (putAll_defers (L.take n) 0 vals a0).symm; cases a; cases hx : putAll (L.take n) 0 vals a0; rw [hx] at h1 h2; simp at h1 h2; rw [h1, h2]
    subst hl; subst ha; exact wpAny_seqle (L.drop n) n _ _ _ _ (by have := unl_upto hn; simp; omega) (fun j => by simp [List.getElem?_drop]) (by simpa using hq) (fin vals w h.rel (fun i hi => h.facts i hi (hall i hi)))
  . refine ⟨fun hr => ?_, fun i hi => ?_⟩
    . exact absurd (fun i hi => all_listed hm (by simpa using h.sz) hr i (by simpa using Nat.lt_of_lt_of_le hi hn)) hall
    . have hin : i < n := by
       rcases Nat.lt_or_ge i n with h1 | h1
       . exact h1
       . exact absurd (tail_not ht h.tail h.clos hi h1) hall
      obtain ⟨o, d, ho, hg, hod, hds, huni, hlook⟩ := head_spec hb hin; obtain ⟨h0, o2, ho2, hrd⟩ := mem_ready.1 hi
      have : o2 = o := by
       have : L[i]? = some o2 := by simpa using ho2
       exact Option.some.inj (this.symm.trans ho)
      subst this
      have hlw : ∀ j, Region.waitsFor .any L.toArray i j = true -> listed.getD j false = true := fun j hj => by
       obtain ⟨e, he, hb, rfl⟩ := waits_of ho2 hj; exact hrd e he hb
      have he : execOp a.eval o2 = execOp (putAll (L.take n) 0 vals a0).eval o2 := execOp_congr o2 (fun cs b => Region.noSelect_spec hsel i o2 cs b ho2) fun x hx => by
       cases x with
       | tmp t =>
        have hlk : t ∈ o2.looksAt L.toArray := List.mem_append_left _ (List.mem_filterMap.2 ⟨.tmp t, by simpa using hx, rfl⟩); have e := h.act hn hb (fun j p hj hp hd => hlw j (hlook j p t hj hp hd hlk)); simp only [Act.eval, Array.getD_eq_getD_getElem?, e]
       | _ => rfl
      have hst := step i o2 hin ho vals w h.rel (fun j hw hj => h.facts j hj (hlw j hw)) (fun a' w' => ∃ v, a' = (putAll (L.take n) 0 vals a0).put o2.dst v /\ R w w' /\ F i v w') (fun v w' h1 h2 => ⟨v, rfl, h1, h2⟩); have hst := wp_move he hod (by rw [putAll_size]; exact hds) (by rw [putAll_defers, h.df]) hQ hst; unfold wpOp; simp only [ho2, Region.wanted, hg, if_true]; refine .inl (Oper.wp_mono (fun a' w' hk => ?_) hst); obtain ⟨v, rfl, hR, hF⟩ := hk; exact ih _ _ _ _ (by have := unl_set (n := L.length) (by omega) h0; omega) (h.step hb hn hin hi ho trans stable hR hF)
theorem wp_region_facts {id : Nat} (n : Nat) (R : World -> World -> Prop) (F : Nat -> Value -> World -> Prop) (hf : P.follows .mixedOrders = true) (hB : factsB L n a0.tmps.size = true)
 (hQ : ∀ c (a a' : Act) w, a.defers = a'.defers -> Q (.panic c) a w -> Q (.panic c) a' w) (h0 : R w0.drew w0.drew) (trans : ∀ a b c, R a b -> R b c -> R a c) (stable : ∀ i v w w', R w0.drew w -> F i v w -> R w w' -> F i v w')
 (step : StepsOk P L Q n a0 w0.drew R F 0 (L.take n))
 (fin : ∀ vals w, R w0.drew w -> (∀ i, i < n -> F i (vals i) w) -> wpList P L.toArray Q (L.drop n) (putAll (L.take n) 0 vals a0) w) : (Code.region id L.toArray true).wp P Q a0 w0 := by
 simp only [factsB, Bool.and_eq_true, decide_eq_true_eq] at hB; obtain ⟨⟨⟨⟨⟨h1, h2⟩, h3⟩, h4⟩, h5⟩, h6⟩ := hB; refine wp_region_any hf (facts_any (w0 := w0.drew) h1 h2 h3 h4 h5 h6 hQ trans stable (fun i o hi ho => ?_) fin _ _ _ _ (fun _ => undef) ?_ ?_)
 . have := step.get (L.take n) 0 i o (by rw [List.getElem?_take_of_lt hi]; exact ho)
   rwa [Nat.zero_add] at this
 . unfold unl; exact Nat.le_trans (List.length_filter_le _ _) (by simp)
 . refine ⟨by simp, fun j _ hj => by simp [hj], fun i hi => ?_, h0, fun i hi hl => ?_, rfl, rfl, fun i hi hl => ?_, fun _ _ => rfl⟩
   all_goals (exfalso; rw [Array.getD_eq_getD_getElem?, Array.getElem?_replicate] at *; split at * <;> simp at *)
end
end Go.Tg
