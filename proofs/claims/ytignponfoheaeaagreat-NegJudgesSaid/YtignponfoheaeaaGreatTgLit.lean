import Derived.Test.YtignponfoheaeaaGreatTgAny
namespace Go.Tg
open Go Go.RowKit Go.Maps Go.MapKept
open Go.ChangeMaps (setBlock)

section
variable {P : Program} {ops : Array Oper} {Q : Exit → Act → World → Prop} {TM TK TE TS TI : TypeId} {B : Nat}

def projAt (ops : Array Oper) (i : Nat) (x : Option Tmp × Op × Option (Nat × Bool)) : Prop := ∃ o, ops[i]? = some o ∧ proj o = x

def AtOps (TM TK TE TS m : Nat) (ops : Array Oper) : Nat → Nat → List Row → Prop
  | _, _, [] => True
  | p, t, r :: l => (∀ j x, (genE TM TK TE TS m t r)[j]? = some x → projAt ops (p + j) x) ∧ AtOps TM TK TE TS m ops (p + wid r + 1) (t + wid r) l

def edges (ops : Array Oper) : Nat → List Row → Bool
  | _, [] => true
  | p, (_, _, _, []) :: l => needs ops (p + 2) [0, p, p + 1] && edges ops (p + 3) l
  | p, (_, _, _, _ :: _) :: l => needs ops (p + 2) [p + 1] && needs ops (p + 3) [0, p, p + 2] && edges ops (p + 4) l

def endP : Nat → List Row → Nat
  | p, [] => p
  | p, r :: l => endP (p + wid r + 1) l

theorem genE_length (m t : Nat) (r : Row) : (genE TM TK TE TS m t r).length = wid r + 1 := by
  obtain ⟨s, e, n, xs⟩ := r
  cases xs <;> rfl

theorem le_endP : ∀ (l : List Row) (p : Nat), p ≤ endP p l
  | [], p => Nat.le_refl _
  | r :: l, p => Nat.le_trans (by omega) (le_endP l (p + wid r + 1))
theorem le_endT : ∀ (l : List Row) (t : Nat), t ≤ endT t l
  | [], t => Nat.le_refl _
  | r :: l, t => Nat.le_trans (by omega) (le_endT l (t + wid r))

theorem atOps_of_map (m : Nat) : ∀ (l : List Row) (p t : Nat) (pre rest : List (Option Tmp × Op × Option (Nat × Bool))), pre.length = p →
    ops.toList.map proj = pre ++ gen TM TK TE TS m t l ++ rest → AtOps TM TK TE TS m ops p t l := by
  intro l
  induction l with
  | nil => intros; trivial
  | cons r l ih =>
    intro p t pre rest hp h
    refine ⟨fun j x hj => ?_, ih _ _ (pre ++ genE TM TK TE TS m t r) rest (by rw [List.length_append, genE_length, hp]; omega) (by rw [h]; simp [gen])⟩
    have hjl : j < (genE TM TK TE TS m t r).length := (List.getElem?_eq_some_iff.1 hj).1
    have h1 : (ops.toList.map proj)[p + j]? = some x := by
      rw [h, gen, List.append_assoc, List.getElem?_append_right (by omega), hp, Nat.add_sub_cancel_left, List.append_assoc, List.getElem?_append_left hjl, hj]
    rw [List.getElem?_map] at h1
    cases ho : ops.toList[p + j]? with
    | none => rw [ho] at h1; cases h1
    | some o => rw [ho] at h1; exact ⟨o, by simpa using ho, by simpa using h1⟩

def rowInv (TI : TypeId) (B : Nat) (ls : Nat → Bool) (a : Act) (w : World) (p t : Nat) : Row → Prop
  | (s, e, n, []) => (ls p = true → a.eval (.tmp t) = keyV s e) ∧ (ls (p + 1) = true → a.eval (.tmp (t + 1)) = entV n (.slice none 0 0))
  | (s, e, n, x :: xs) => (ls p = true → a.eval (.tmp t) = keyV s e) ∧ (ls (p + 1) = true → IntsAt TI B w (a.eval (.tmp (t + 1))) (x :: xs)) ∧
      (ls (p + 2) = true → ∃ sv, a.eval (.tmp (t + 2)) = entV n sv ∧ IntsAt TI B w sv (x :: xs))

def lsOf (listed : Array Bool) (j : Nat) : Bool := listed.getD j false
theorem needs_ls {listed : Array Bool} {i : Nat} {js : List Nat} (h : needs ops i js = true) (hr : i ∈ Region.ready .any ops listed) : ∀ j ∈ js, lsOf listed j = true := needs_ready h hr

def RInv (TI : TypeId) (B : Nat) (ls : Nat → Bool) (a : Act) (w : World) : Nat → Nat → List Row → Prop
  | _, _, [] => True
  | p, t, r :: l => rowInv TI B ls a w p t r ∧ RInv TI B ls a w (p + wid r + 1) (t + wid r) l

def fT (ls : Nat → Bool) : Nat → List Row → Tab
  | _, [] => fun _ _ => none
  | p, r :: l => bif ls (p + wid r) then (fT ls (p + wid r + 1) l).put r else fT ls (p + wid r + 1) l

def MInv (P : Program) (TK TI : TypeId) (B : Nat) (ls : Nat → Bool) (a : Act) (w : World) (f : Tab) : Prop :=
  ls 0 = true → ∃ b, B ≤ b ∧ a.eval (.tmp 1) = .map (some b) ∧ TableAt P TK TI B w b f

theorem rowInv_frame {ls ls' : Nat → Bool} {a a' : Act} {w w' : World} {p t : Nat} {r : Row} (h : rowInv TI B ls a w p t r) (hl : ∀ j, p ≤ j → j < p + wid r + 1 → ls' j = ls j)
    (he : ∀ d, t ≤ d → d < t + wid r → a'.eval (.tmp d) = a.eval (.tmp d)) (hi : ∀ v xs, IntsAt TI B w v xs → IntsAt TI B w' v xs) : rowInv TI B ls' a' w' p t r := by
  obtain ⟨s, e, n, xs⟩ := r
  match xs with
  | [] =>
    simp only [wid] at hl he
    obtain ⟨h1, h2⟩ := h
    refine ⟨fun h => ?_, fun h => ?_⟩
    · rw [he t (by omega) (by omega)]; exact h1 (by rw [← hl p (by omega) (by omega)]; exact h)
    · rw [he (t + 1) (by omega) (by omega)]; exact h2 (by rw [← hl (p + 1) (by omega) (by omega)]; exact h)
  | x :: xs =>
    simp only [wid] at hl he
    obtain ⟨h1, h2, h3⟩ := h
    refine ⟨fun h => ?_, fun h => ?_, fun h => ?_⟩
    · rw [he t (by omega) (by omega)]; exact h1 (by rw [← hl p (by omega) (by omega)]; exact h)
    · rw [he (t + 1) (by omega) (by omega)]; exact hi _ _ (h2 (by rw [← hl (p + 1) (by omega) (by omega)]; exact h))
    · rw [he (t + 2) (by omega) (by omega)]
      obtain ⟨sv, h4, h5⟩ := h3 (by rw [← hl (p + 2) (by omega) (by omega)]; exact h)
      exact ⟨sv, h4, hi _ _ h5⟩

theorem RInv_frame {ls ls' : Nat → Bool} {a a' : Act} {w w' : World} : ∀ {l : List Row} {p t : Nat}, RInv TI B ls a w p t l → (∀ j, p ≤ j → j < endP p l → ls' j = ls j) →
    (∀ d, t ≤ d → d < endT t l → a'.eval (.tmp d) = a.eval (.tmp d)) → (∀ v xs, IntsAt TI B w v xs → IntsAt TI B w' v xs) → RInv TI B ls' a' w' p t l := by
  intro l
  induction l with
  | nil => intros; trivial
  | cons r l ih =>
    intro p t h hl he hi
    simp only [endP, endT] at hl he
    have h1 := le_endP l (p + wid r + 1)
    have h2 := le_endT l (t + wid r)
    exact ⟨rowInv_frame h.1 (fun j a b => hl j a (by omega)) (fun d a b => he d a (by omega)) hi,
      ih h.2 (fun j a b => hl j (by omega) b) (fun d a b => he d (by omega) b) hi⟩

theorem fT_frame {ls ls' : Nat → Bool} : ∀ {l : List Row} {p : Nat}, (∀ j, p ≤ j → j < endP p l → ls' j = ls j) → fT ls' p l = fT ls p l := by
  intro l
  induction l with
  | nil => intros; rfl
  | cons r l ih =>
    intro p hl
    simp only [endP] at hl
    have h1 := le_endP l (p + wid r + 1)
    simp only [fT]
    rw [hl (p + wid r) (by omega) (by omega), ih (fun j a b => hl j (by omega) b)]

def keyOfRow (r : Row) : Int × Int := (r.1, r.2.1)
theorem put_comm (f : Tab) {r r' : Row} (h : keyOfRow r' ≠ keyOfRow r) : (f.put r').put r = (f.put r).put r' := by
  funext s e
  simp only [Tab.put]
  by_cases h1 : s = r.1 ∧ e = r.2.1 <;> by_cases h2 : s = r'.1 ∧ e = r'.2.1
  · exact absurd (by simp [keyOfRow, ← h1.1, ← h1.2, ← h2.1, ← h2.2]) h
  · rw [if_pos h1, if_neg h2, if_pos h1]
  · rw [if_neg h1, if_pos h2, if_pos h2]
  · rw [if_neg h1, if_neg h2, if_neg h2, if_neg h1]
/-- What a step leaves. -/
structure Left (TI : TypeId) (B : Nat) (a : Act) (w : World) (t t' : Nat) (a' : Act) (w' : World) : Prop where
  defers : a'.defers = a.defers
  size : a'.tmps.size = a.tmps.size
  tmps : ∀ d, d < t ∨ t' ≤ d → a'.eval (.tmp d) = a.eval (.tmp d)
  ints : ∀ v xs, IntsAt TI B w v xs → IntsAt TI B w' v xs
  below : Below B w w'

theorem Left.of_put {a : Act} {w : World} {t t' d : Nat} (v : Value) (h1 : t ≤ d) (h2 : d < t') : Left TI B a w t t' (a.put (some d) v) w :=
  ⟨rfl, put_size, fun d' hd => put_eval_ne (by omega), fun _ _ h => h, Below.refl _ _⟩


theorem row_step (C : TabTypes P TM TK TE TS TI) {listed : Array Bool} {i : Nat} {K : Act → World → Prop} {a : Act} {w : World} {f : Tab}
    (hr : i ∈ Region.ready .any ops listed) (hsz : listed.size = ops.size) (hio : i < ops.size) (h0i : 0 < i) (hB : B ≤ w.heap.size)
    (hM : MInv P TK TI B (lsOf listed) a w f) :
    ∀ (l : List Row) (p t : Nat), AtOps TM TK TE TS 1 ops p t l → edges ops p l = true → p ≤ i → i < endP p l → 1 < t → endT t l ≤ a.tmps.size →
    (∀ r ∈ l, (Lit.int .i64 r.1).wf = true ∧ (Lit.int .i64 r.2.1).wf = true ∧ r.2.2.2.length ≤ 3) → (l.map keyOfRow).Nodup →
    RInv TI B (lsOf listed) a w p t l →
    (∀ a' w' f', Left TI B a w t (endT t l) a' w' → RInv TI B (lsOf (listed.setIfInBounds i true)) a' w' p t l →
      MInv P TK TI B (lsOf (listed.setIfInBounds i true)) a' w' f' →
      (f' = f ∧ fT (lsOf (listed.setIfInBounds i true)) p l = fT (lsOf listed) p l ∨
        ∃ r ∈ l, f' = f.put r ∧ fT (lsOf (listed.setIfInBounds i true)) p l = (fT (lsOf listed) p l).put r) → K a' w') →
    wpOp P ops Q i K a w := by
  have hset : ∀ j, j ≠ i → lsOf (listed.setIfInBounds i true) j = lsOf listed j := fun j hj => getD_set_ne false (Ne.symm hj)
  have hset0 : lsOf (listed.setIfInBounds i true) 0 = lsOf listed 0 := hset 0 (by omega)
  have hil : lsOf listed i = false := by
    obtain ⟨h, _⟩ := mem_ready.1 hr
    have : i < listed.size := by omega
    simp [lsOf, this] at h ⊢; exact h
  intro l
  induction l with
  | nil => intro p t _ _ h1 h2; simp [endP] at h2; omega
  | cons r l ih =>
    intro p t hAt hE hpi hip ht htz hw hnd hR hK
    simp only [endP] at hip
    simp only [endT] at htz hK
    by_cases hin : i < p + wid r + 1
    · -- the step is of this row
      clear ih
      have hle := le_endT l (t + wid r)
      have hrest : ∀ a' w', Left TI B a w t (t + wid r) a' w' → RInv TI B (lsOf (listed.setIfInBounds i true)) a' w' (p + wid r + 1) (t + wid r) l := fun a' w' hL =>
        RInv_frame hR.2 (fun j h1 h2 => hset j (by omega)) (fun d h1 h2 => hL.tmps d (by omega)) hL.ints
      have hwide : ∀ a' w', Left TI B a w t (t + wid r) a' w' → Left TI B a w t (endT (t + wid r) l) a' w' := fun a' w' hL =>
        ⟨hL.defers, hL.size, fun d hd => hL.tmps d (by omega), hL.ints, hL.below⟩
      have hfl : ∀ ls ls' : Nat → Bool, (∀ j, j ≠ i → ls' j = ls j) → fT ls' (p + wid r + 1) l = fT ls (p + wid r + 1) l := fun ls ls' h => fT_frame (fun j h1 h2 => h j (by omega))
      have hfsame : i ≠ p + wid r → fT (lsOf (listed.setIfInBounds i true)) p (r :: l) = fT (lsOf listed) p (r :: l) := fun hne => by
        simp only [fT]
        rw [hset _ (Ne.symm hne), hfl (lsOf listed) _ (fun j hj => hset j hj)]
      have hMsame : ∀ a' w', Left TI B a w t (t + wid r) a' w' → (∀ b, TableAt P TK TI B w b f → TableAt P TK TI B w' b f) →
          MInv P TK TI B (lsOf (listed.setIfInBounds i true)) a' w' f := fun a' w' hL hT h => by
        obtain ⟨b, h1, h2, h3⟩ := hM (by rw [← hset0]; exact h)
        exact ⟨b, h1, by rw [hL.tmps 1 (by omega)]; exact h2, hT b h3⟩
      obtain ⟨wr1, wr2, wr3⟩ := hw r (by simp)
      obtain ⟨hA1, _⟩ := hAt
      obtain ⟨hr1, _⟩ := hR
      obtain ⟨s, e, n, xs⟩ := r
      match xs, wr3 with
      | [], _ =>
        simp only [wid, edges, Bool.and_eq_true] at *
        obtain ⟨hN, _⟩ := hE
        obtain ⟨g1, g2⟩ := hr1
        have hi3 : i = p ∨ i = p + 1 ∨ i = p + 2 := by omega
        rcases hi3 with rfl | rfl | rfl
        · obtain ⟨⟨d, op, ty, ps, af, gd⟩, ho, hpj⟩ := hA1 0 _ rfl
          simp only [proj, Prod.mk.injEq] at hpj
          obtain ⟨rfl, rfl, rfl⟩ := hpj
          have hL : Left TI B a w t (t + 2) (a.put (some t) (keyV s e)) w := Left.of_put _ (by omega) (by omega)
          refine op_val (v := keyV s e) (w' := w) ho rfl (by simp [execOp, Act.eval, ci, C.bK, Result.andThen]) (hK _ _ f (hwide _ _ hL) ⟨⟨fun _ => put_eval_same (by omega), fun h => ?_⟩, hrest _ _ hL⟩ (hMsame _ _ hL (fun _ h => h)) (Or.inl ⟨rfl, hfsame (by omega)⟩))
          rw [put_eval_ne (by omega)]; exact g2 (by rw [← hset _ (by omega)]; exact h)
        · obtain ⟨⟨d, op, ty, ps, af, gd⟩, ho, hpj⟩ := hA1 1 _ rfl
          simp only [proj, Prod.mk.injEq] at hpj
          obtain ⟨rfl, rfl, rfl⟩ := hpj
          have hL : Left TI B a w t (t + 2) (a.put (some (t + 1)) (entV n (.slice none 0 0))) w := Left.of_put _ (by omega) (by omega)
          refine op_val (v := entV n (.slice none 0 0)) (w' := w) ho rfl (by simp [execOp, Act.eval, ci, C.bE, Result.andThen]) (hK _ _ f (hwide _ _ hL) ⟨⟨fun h => ?_, fun _ => put_eval_same (by omega)⟩, hrest _ _ hL⟩ (hMsame _ _ hL (fun _ h => h)) (Or.inl ⟨rfl, hfsame (by omega)⟩))
          rw [put_eval_ne (by omega)]; exact g1 (by rw [← hset _ (by omega)]; exact h)
        · obtain ⟨⟨d, op, ty, ps, af, gd⟩, ho, hpj⟩ := hA1 2 _ rfl
          simp only [proj, Prod.mk.injEq] at hpj
          obtain ⟨rfl, rfl, rfl⟩ := hpj
          have hls := needs_ls hN hr
          have l0 := hls 0 (by simp)
          have l1 := hls p (by simp)
          have l2 := hls (p + 1) (by simp)
          obtain ⟨b, hb1, hb2, hb3⟩ := hM l0
          have k1 := g1 l1
          have k2 := g2 l2
          obtain ⟨w1, hrun, ht1, hk1, _⟩ := hb3.update C (n := n) wr1 wr2 (Or.inl ⟨rfl, rfl⟩ : IntsAt TI B w (.slice none 0 0) [])
          obtain ⟨es, clock, hmb⟩ := hb3.map_block
          have hL : Left TI B a w t (t + 2) (a.put none undef) w1 := ⟨rfl, rfl, fun _ _ => rfl, fun v xs h => h.keep_map hmb hk1, hk1.below hB (fun k hk => by omega)⟩
          refine op_skip (w' := w1) ho rfl (by simp only [execOp, hb2, k1, k2]; rw [Sem.run_bind, hrun]; simp [Result.andThen]) (hK _ _ (f.put (s, e, n, [])) (hwide _ _ hL) ⟨⟨fun _ => k1, fun _ => k2⟩, hrest _ _ hL⟩ (fun _ => ⟨b, hb1, hb2, ht1⟩) (Or.inr ⟨_, by simp, rfl, ?_⟩))
          simp only [fT, wid]
          have : lsOf (listed.setIfInBounds (p + 2) true) (p + 2) = true := by simp [lsOf, show p + 2 < listed.size by omega]
          rw [this, hil, hfl (lsOf listed) _ (fun j hj => hset j hj)]
          rfl
      | x :: xs, hlen =>
        simp only [wid, edges, Bool.and_eq_true] at *
        obtain ⟨⟨hN1, hN2⟩, _⟩ := hE
        obtain ⟨g1, g2, g3⟩ := hr1
        have hi4 : i = p ∨ i = p + 1 ∨ i = p + 2 ∨ i = p + 3 := by omega
        rcases hi4 with rfl | rfl | rfl | rfl
        · obtain ⟨⟨d, op, ty, ps, af, gd⟩, ho, hpj⟩ := hA1 0 _ rfl
          simp only [proj, Prod.mk.injEq] at hpj
          obtain ⟨rfl, rfl, rfl⟩ := hpj
          have hL : Left TI B a w t (t + 3) (a.put (some t) (keyV s e)) w := Left.of_put _ (by omega) (by omega)
          refine op_val (v := keyV s e) (w' := w) ho rfl (by simp [execOp, Act.eval, ci, C.bK, Result.andThen]) (hK _ _ f (hwide _ _ hL) ⟨⟨fun _ => put_eval_same (by omega), fun h => ?_, fun h => ?_⟩, hrest _ _ hL⟩ (hMsame _ _ hL (fun _ h => h)) (Or.inl ⟨rfl, hfsame (by omega)⟩))
          · rw [put_eval_ne (by omega)]; exact g2 (by rw [← hset _ (by omega)]; exact h)
          · rw [put_eval_ne (by omega)]; exact g3 (by rw [← hset _ (by omega)]; exact h)
        · obtain ⟨⟨d, op, ty, ps, af, gd⟩, ho, hpj⟩ := hA1 1 _ rfl
          simp only [proj, Prod.mk.injEq] at hpj
          obtain ⟨rfl, rfl, rfl⟩ := hpj
          have hsl : (Instr.buildSlice TS (x :: xs).length ((parts (x :: xs)).map fun p => (p.1, a.eval p.2))).run P w =
              .ok (.slice (some ⟨w.heap.size, 0, none⟩) (x :: xs).length (x :: xs).length) (w.alloc (.cells ((x :: xs).map (Value.int .i64)).toArray TI)) := by
            match xs, hlen with
            | [], _ => simp [parts, Act.eval, ci, C.bS1]
            | [y], _ => simp [parts, Act.eval, ci, C.bS2]
            | [y, z], _ => simp [parts, Act.eval, ci, C.bS3]
          have hi : IntsAt TI B (w.alloc (.cells ((x :: xs).map (Value.int .i64)).toArray TI)) (.slice (some ⟨w.heap.size, 0, none⟩) (x :: xs).length (x :: xs).length) (x :: xs) :=
            Or.inr ⟨w.heap.size, hB, rfl, by show (w.heap.push _)[_]? = _; simp⟩
          have hkeep : Keep (fun _ => False) w (w.alloc (.cells ((x :: xs).map (Value.int .i64)).toArray TI)) := (Keep.refl _ _).alloc _
          have hL : Left TI B a w t (t + 3) (a.put (some (t + 1)) (.slice (some ⟨w.heap.size, 0, none⟩) (x :: xs).length (x :: xs).length)) (w.alloc (.cells ((x :: xs).map (Value.int .i64)).toArray TI)) :=
            ⟨rfl, put_size, fun d' hd => put_eval_ne (by omega), fun v xs h => h.keep hkeep (by simp), (Below.refl _ _).alloc hB _⟩
          refine op_val (v := .slice (some ⟨w.heap.size, 0, none⟩) (x :: xs).length (x :: xs).length) (w' := w.alloc (.cells ((x :: xs).map (Value.int .i64)).toArray TI)) ho rfl ?_
            (hK _ _ f (hwide _ _ hL) ⟨⟨fun h => ?_, fun h => ?_, fun h => ?_⟩, hrest _ _ hL⟩ (hMsame _ _ hL (fun _ h => h.alloc _)) (Or.inl ⟨rfl, hfsame (by omega)⟩))
          · simp only [execOp]
            rw [Sem.run_bind]
            have : ((fun x => match x with | (i, x) => (i, a.eval x)) : Nat × Operand → Nat × Value) = fun p => (p.1, a.eval p.2) := by
              funext p; rfl
            rw [this, hsl]
            simp [Result.andThen]
          · rw [put_eval_ne (by omega)]; exact g1 (by rw [← hset _ (by omega)]; exact h)
          · rw [put_eval_same (by omega)]; exact hi
          · rw [put_eval_ne (by omega)]
            obtain ⟨sv, h4, h5⟩ := g3 (by rw [← hset _ (by omega)]; exact h)
            exact ⟨sv, h4, h5.keep hkeep (by simp)⟩
        · obtain ⟨⟨d, op, ty, ps, af, gd⟩, ho, hpj⟩ := hA1 2 _ rfl
          simp only [proj, Prod.mk.injEq] at hpj
          obtain ⟨rfl, rfl, rfl⟩ := hpj
          have hls := needs_ls hN1 hr
          have l1 := g2 (hls (p + 1) (by simp))
          generalize hsv : a.eval (.tmp (t + 1)) = sv at l1
          have hL : Left TI B a w t (t + 3) (a.put (some (t + 2)) (entV n sv)) w := Left.of_put _ (by omega) (by omega)
          refine op_val (v := entV n sv) (w' := w) ho rfl ?_ (hK _ _ f (hwide _ _ hL) ⟨⟨fun h => ?_, fun h => ?_, fun h => ?_⟩, hrest _ _ hL⟩ (hMsame _ _ hL (fun _ h => h)) (Or.inl ⟨rfl, hfsame (by omega)⟩))
          · have h0 : a.eval (ci n) = .int .i64 n := rfl
            simp only [execOp, List.map_toArray, List.map_cons, List.map_nil, hsv, h0]
            rcases l1 with ⟨h, _⟩ | ⟨b, _, rfl, _⟩
            · cases h
            · simp [C.bE, Result.andThen]
          · rw [put_eval_ne (by omega)]; exact g1 (by rw [← hset _ (by omega)]; exact h)
          · rw [put_eval_ne (by omega), hsv]; exact l1
          · rw [put_eval_same (by omega)]; exact ⟨sv, rfl, l1⟩
        · obtain ⟨⟨d, op, ty, ps, af, gd⟩, ho, hpj⟩ := hA1 3 _ rfl
          simp only [proj, Prod.mk.injEq] at hpj
          obtain ⟨rfl, rfl, rfl⟩ := hpj
          have hls := needs_ls hN2 hr
          have l0 := hls 0 (by simp)
          have k1 := g1 (hls p (by simp))
          obtain ⟨sv, k2, k3⟩ := g3 (hls (p + 2) (by simp))
          obtain ⟨b, hb1, hb2, hb3⟩ := hM l0
          obtain ⟨w1, hrun, ht1, hk1, _⟩ := hb3.update C (n := n) wr1 wr2 k3
          obtain ⟨es, clock, hmb⟩ := hb3.map_block
          have hL : Left TI B a w t (t + 3) (a.put none undef) w1 := ⟨rfl, rfl, fun _ _ => rfl, fun v xs h => h.keep_map hmb hk1, hk1.below hB (fun k hk => by omega)⟩
          refine op_skip (w' := w1) ho rfl (by simp only [execOp, hb2, k1, k2]; rw [Sem.run_bind, hrun]; simp [Result.andThen]) (hK _ _ (f.put (s, e, n, x :: xs)) (hwide _ _ hL) ⟨⟨fun _ => k1, fun h => ?_, fun _ => ⟨sv, k2, k3.keep_map hmb hk1⟩⟩, hrest _ _ hL⟩ (fun _ => ⟨b, hb1, hb2, ht1⟩) (Or.inr ⟨_, by simp, rfl, ?_⟩))
          · exact (g2 (by rw [← hset _ (by omega)]; exact h)).keep_map hmb hk1
          · simp only [fT, wid]
            have : lsOf (listed.setIfInBounds (p + 3) true) (p + 3) = true := by simp [lsOf, show p + 3 < listed.size by omega]
            rw [this, hil, hfl (lsOf listed) _ (fun j hj => hset j hj)]
            rfl
    · -- the step is of a later row
      have hE' : edges ops (p + wid r + 1) l = true := by
        obtain ⟨s, e, n, xs⟩ := r
        cases xs <;> simp only [edges, Bool.and_eq_true] at hE <;> exact hE.2
      simp only [List.map_cons, List.nodup_cons] at hnd
      refine ih (p + wid r + 1) (t + wid r) hAt.2 hE' (by omega) hip (by omega) htz (fun r' h' => hw r' (by simp [h'])) hnd.2 hR.2 (fun a' w' f' hL h1 h2 h3 => ?_)
      refine hK a' w' f' ⟨hL.defers, hL.size, fun d hd => hL.tmps d (by omega), hL.ints, hL.below⟩
        ⟨rowInv_frame hR.1 (fun j ha hb => hset j (by omega)) (fun d ha hb => hL.tmps d (by omega)) hL.ints, h1⟩ h2 ?_
      rcases h3 with ⟨h3, h4⟩ | ⟨r', hr', h3, h4⟩
      · refine Or.inl ⟨h3, ?_⟩
        simp only [fT]
        rw [hset _ (by omega), h4]
      · refine Or.inr ⟨r', by simp [hr'], h3, ?_⟩
        simp only [fT]
        rw [hset _ (by omega), h4]
        have hne : keyOfRow r' ≠ keyOfRow r := fun e1 => hnd.1 (e1 ▸ List.mem_map_of_mem hr')
        cases lsOf listed (p + wid r)
        · rfl
        · exact put_comm _ hne

def lookupL (l : List Row) : Tab := l.foldr (fun r f => Tab.put f r) (fun _ _ => none)

theorem fT_all {ls : Nat → Bool} : ∀ (l : List Row) (p : Nat), (∀ j, j < endP p l → ls j = true) → fT ls p l = lookupL l := by
  intro l
  induction l with
  | nil => intros; rfl
  | cons r l ih =>
    intro p h
    simp only [endP] at h
    have h1 := le_endP l (p + wid r + 1)
    simp only [fT, lookupL, List.foldr_cons]
    rw [h (p + wid r) (by omega), ih (p + wid r + 1) (fun j hj => h j hj)]
    rfl

theorem RInv_none {a : Act} {w : World} : ∀ (l : List Row) (p t : Nat) (n : Nat), RInv TI B (lsOf (Array.replicate n false)) a w p t l := by
  have h0 : ∀ n j, lsOf (Array.replicate n false) j = false := fun n j => by
    simp only [lsOf, Array.getD_eq_getD_getElem?, Array.getElem?_replicate]
    split <;> rfl
  intro l
  induction l with
  | nil => intros; trivial
  | cons r l ih =>
    intro p t n
    refine ⟨?_, ih _ _ n⟩
    obtain ⟨s, e, m, xs⟩ := r
    cases xs <;> simp [rowInv, h0]

theorem fT_none : ∀ (l : List Row) (p n : Nat), fT (lsOf (Array.replicate n false)) p l = fun _ _ => none := by
  have h0 : ∀ n j, lsOf (Array.replicate n false) j = false := fun n j => by
    simp only [lsOf, Array.getD_eq_getD_getElem?, Array.getElem?_replicate]
    split <;> rfl
  intro l
  induction l with
  | nil => intros; rfl
  | cons r l ih =>
    intro p n
    simp only [fT, h0, ih]
    rfl

theorem wp_lit (C : TabTypes P TM TK TE TS TI) {id : Nat} {a : Act} {w : World} (hf : P.follows .mixedOrders = true) (hm : mono ops = true) (l : List Row)
    (hproj : ops.toList.map proj = (some 1, .makeMap TM none, none) :: (gen TM TK TE TS 1 2 l ++ [(some (endT 2 l), .move (.tmp 1), none), (some 0, .assign (.tmp (endT 2 l)), none)]))
    (hedges : edges ops 1 l = true) (hl1 : needs ops (endP 1 l) [0] = true) (hl2 : needs ops (endP 1 l + 1) [endP 1 l] = true) (hops : ops.size = endP 1 l + 2)
    (hw : ∀ r ∈ l, (Lit.int .i64 r.1).wf = true ∧ (Lit.int .i64 r.2.1).wf = true ∧ r.2.2.2.length ≤ 3) (hnd : (l.map keyOfRow).Nodup)
    (hsz : endT 2 l < a.tmps.size)
    (h : ∀ a' w' b, a'.defers = a.defers → a'.tmps.size = a.tmps.size → a'.eval (.tmp 0) = .map (some b) → w.heap.size ≤ b → TableAt P TK TI w.heap.size w' b (lookupL l) → Below w.heap.size w w' → Q .normal a' w') :
    (Code.region id ops true).wp P Q a w := by
  have hAt : AtOps TM TK TE TS 1 ops 1 2 l := atOps_of_map 1 l 1 2 [(some 1, .makeMap TM none, none)] _ rfl (by rw [hproj, List.append_assoc]; rfl)
  have hget : ∀ i x, (ops.toList.map proj)[i]? = some x → projAt ops i x := fun i x h1 => by
    rw [List.getElem?_map] at h1
    cases ho : ops.toList[i]? with
    | none => rw [ho] at h1; cases h1
    | some o => rw [ho] at h1; exact ⟨o, by simpa using ho, by simpa using h1⟩
  have hglen : ∀ (l : List Row) (p t : Nat), p + (gen TM TK TE TS 1 t l).length = endP p l := by
    intro l
    induction l with
    | nil => intro p t; rfl
    | cons r l ih =>
      intro p t
      simp only [gen, endP, List.length_append, genE_length]
      rw [← ih (p + wid r + 1) (t + wid r)]
      omega
  have h1p := le_endP l 1
  have h2t := le_endT l 2
  have hat0 : projAt ops 0 (some 1, .makeMap TM none, none) := hget 0 _ (by rw [hproj]; rfl)
  have hatE : projAt ops (endP 1 l) (some (endT 2 l), .move (.tmp 1), none) := hget _ _ (by
    rw [hproj, ← hglen l 1 2, Nat.add_comm, List.getElem?_cons_succ, List.getElem?_append_right (Nat.le_refl _), Nat.sub_self]; rfl)
  have hatF : projAt ops (endP 1 l + 1) (some 0, .assign (.tmp (endT 2 l)), none) := hget _ _ (by
    rw [hproj, ← hglen l 1 2, Nat.add_comm 1, List.getElem?_cons_succ, List.getElem?_append_right (by omega)]
    have : (gen TM TK TE TS 1 2 l).length + 1 - (gen TM TK TE TS 1 2 l).length = 1 := by omega
    rw [this]; rfl)
  have hrep : ∀ j, lsOf (Array.replicate ops.size false) j = false := fun j => by
    simp only [lsOf, Array.getD_eq_getD_getElem?, Array.getElem?_replicate]
    split <;> rfl
  refine wp_region_inv (I := fun listed a' w' => a'.defers = a.defers ∧ a'.tmps.size = a.tmps.size ∧ Below w.heap.size w w' ∧
      RInv TI w.heap.size (lsOf listed) a' w' 1 2 l ∧ MInv P TK TI w.heap.size (lsOf listed) a' w' (fT (lsOf listed) 1 l) ∧
      (lsOf listed 0 = false → fT (lsOf listed) 1 l = fun _ _ => none) ∧
      (lsOf listed (endP 1 l) = true → lsOf listed 0 = true ∧ a'.eval (.tmp (endT 2 l)) = a'.eval (.tmp 1)) ∧
      (lsOf listed (endP 1 l + 1) = true → lsOf listed 0 = true ∧ a'.eval (.tmp 0) = a'.eval (.tmp 1))) hf hm ?_ ?_ ?_
  · refine ⟨rfl, rfl, (Below.refl _ _).drew, RInv_none l 1 2 _, ?_, fun _ => fT_none l 1 _, ?_, ?_⟩
    · intro h; simp only [hrep] at h; cases h
    · intro h; simp only [hrep] at h; cases h
    · intro h; simp only [hrep] at h; cases h
  · intro listed i a' w' hs hI hr hi
    obtain ⟨i1, i2, i3, i4, i5, i6, i7, i8⟩ := hI
    have hset : ∀ j, j ≠ i → lsOf (listed.setIfInBounds i true) j = lsOf listed j := fun j hj => getD_set_ne false (Ne.symm hj)
    have hself : lsOf (listed.setIfInBounds i true) i = true := by simp [lsOf, show i < listed.size by omega]
    have hil : lsOf listed i = false := by
      obtain ⟨h, _⟩ := mem_ready.1 hr
      have : i < listed.size := by omega
      simp [lsOf, this] at h ⊢; exact h
    have hwB : w.heap.size ≤ w'.heap.size := i3.size
    by_cases hi0 : i = 0
    · subst hi0
      obtain ⟨⟨d, op, ty, ps, af, gd⟩, ho, hpj⟩ := hat0
      simp only [proj, Prod.mk.injEq] at hpj
      obtain ⟨rfl, rfl, rfl⟩ := hpj
      have hkeep : Keep (fun _ => False) w' (w'.alloc (.map #[] 0)) := (Keep.refl _ _).alloc _
      have hfe : fT (lsOf (listed.setIfInBounds 0 true)) 1 l = fun _ _ => none := by
        rw [fT_frame (ls := lsOf listed) (fun j h1 h2 => hset j (by omega))]; exact i6 hil
      refine op_val (v := .map (some w'.heap.size)) (w' := w'.alloc (.map #[] 0)) ho rfl (by simp [execOp, run_makeMap, Result.andThen])
        ⟨i1, by rw [put_size]; exact i2, i3.alloc hwB _, ?_, ?_, ?_, ?_, ?_⟩
      · exact RInv_frame i4 (fun j h1 h2 => hset j (by omega)) (fun d h1 h2 => put_eval_ne (by omega)) (fun v xs h => h.keep hkeep (by simp))
      · intro _
        refine ⟨w'.heap.size, hwB, put_eval_same (by omega), ?_⟩
        rw [hfe]
        exact ⟨_, MapAt.empty _, by simp, by simp⟩
      · intro h; rw [hself] at h; cases h
      · intro h
        rw [hset _ (by omega)] at h
        exact absurd (i7 h).1 (by rw [hil]; simp)
      · intro h
        rw [hset _ (by omega)] at h
        exact absurd (i8 h).1 (by rw [hil]; simp)
    · have hset0 := hset 0 (Ne.symm hi0)
      by_cases hin : i < endP 1 l
      · refine row_step C hr hs hi (by omega) hwB i5 l 1 2 hAt hedges (by omega) hin (by omega) (by omega) hw hnd i4 (fun a2 w2 f' hL h1 h2 h3 => ?_)
        have hff : f' = fT (lsOf (listed.setIfInBounds i true)) 1 l := by
          rcases h3 with ⟨h3, h4⟩ | ⟨r, _, h3, h4⟩
          · rw [h3, h4]
          · rw [h3, h4]
        refine ⟨hL.defers.trans i1, hL.size.trans i2, i3.trans hL.below, h1, hff ▸ h2, ?_, ?_, ?_⟩
        · intro h
          rw [hset0] at h
          rcases h3 with ⟨h3, h4⟩ | ⟨r, hrl, h3, h4⟩
          · rw [h4]; exact i6 h
          · exfalso
            have key : (fT (lsOf (listed.setIfInBounds i true)) 1 l) r.1 r.2.1 = some (r.2.2.1, r.2.2.2) := by rw [h4]; simp [Tab.put]
            have hno : ∀ (l : List Row) (p : Nat), edges ops p l = true → p ≤ i → i < endP p l → fT (lsOf (listed.setIfInBounds i true)) p l = fT (lsOf listed) p l := by
              intro l
              induction l with
              | nil => intros; rfl
              | cons r l ih =>
                intro p hE hp1 hp2
                simp only [endP] at hp2
                have hend : i ≠ p + wid r := by
                  rintro rfl
                  obtain ⟨s, e, n, xs⟩ := r
                  cases xs with
                  | nil =>
                    simp only [edges, Bool.and_eq_true] at hE
                    have := needs_ls hE.1 hr 0 (by simp)
                    rw [h] at this; cases this
                  | cons x xs =>
                    simp only [edges, Bool.and_eq_true] at hE
                    have := needs_ls hE.1.2 hr 0 (by simp)
                    rw [h] at this; cases this
                have hE' : edges ops (p + wid r + 1) l = true := by
                  obtain ⟨s, e, n, xs⟩ := r
                  cases xs <;> simp only [edges, Bool.and_eq_true] at hE <;> exact hE.2
                simp only [fT]
                rw [hset _ (Ne.symm hend)]
                by_cases hc : p + wid r + 1 ≤ i
                · rw [ih _ hE' hc hp2]
                · rw [fT_frame (ls := lsOf listed) (fun j h1 h2 => hset j (by omega))]
            rw [hno l 1 hedges (by omega) hin, i6 h] at key
            cases key
        · intro h
          rw [hset _ (by omega)] at h
          rw [hset0, hL.tmps _ (by omega), hL.tmps 1 (by omega)]
          exact i7 h
        · intro h
          rw [hset _ (by omega)] at h
          rw [hset0, hL.tmps _ (by omega), hL.tmps 1 (by omega)]
          exact i8 h
      · have hfe : fT (lsOf (listed.setIfInBounds i true)) 1 l = fT (lsOf listed) 1 l := fT_frame (fun j h1 h2 => hset j (by omega))
        by_cases hie : i = endP 1 l
        · subst hie
          obtain ⟨⟨d, op, ty, ps, af, gd⟩, ho, hpj⟩ := hatE
          simp only [proj, Prod.mk.injEq] at hpj
          obtain ⟨rfl, rfl, rfl⟩ := hpj
          have l0 := needs_ls hl1 hr 0 (by simp)
          refine op_val (v := a'.eval (.tmp 1)) (w' := w') ho rfl (by simp [execOp]) ⟨i1, by rw [put_size]; exact i2, i3, ?_, ?_, ?_, ?_, ?_⟩
          · exact RInv_frame i4 (fun j h1 h2 => hset j (by omega)) (fun d h1 h2 => put_eval_ne (by omega)) (fun v xs h => h)
          · intro h
            rw [hfe]
            obtain ⟨b, h1, h2, h3⟩ := i5 l0
            exact ⟨b, h1, by rw [put_eval_ne (by omega)]; exact h2, h3⟩
          · intro h; rw [hfe]; exact i6 (by rw [← hset0]; exact h)
          · intro _
            rw [hset0, put_eval_same (by omega), put_eval_ne (by omega)]
            exact ⟨l0, rfl⟩
          · intro h
            rw [hset _ (by omega)] at h
            rw [hset0, put_eval_ne (by omega), put_eval_ne (by omega)]
            exact i8 h
        · have hif : i = endP 1 l + 1 := by omega
          subst hif
          obtain ⟨⟨d, op, ty, ps, af, gd⟩, ho, hpj⟩ := hatF
          simp only [proj, Prod.mk.injEq] at hpj
          obtain ⟨rfl, rfl, rfl⟩ := hpj
          have lE := needs_ls hl2 hr (endP 1 l) (by simp)
          obtain ⟨l0, hev⟩ := i7 lE
          refine op_val (v := a'.eval (.tmp 1)) (w' := w') ho rfl (by simp [execOp, hev]) ⟨i1, by rw [put_size]; exact i2, i3, ?_, ?_, ?_, ?_, ?_⟩
          · exact RInv_frame i4 (fun j h1 h2 => hset j (by omega)) (fun d h1 h2 => put_eval_ne (by omega)) (fun v xs h => h)
          · intro h
            rw [hfe]
            obtain ⟨b, h1, h2, h3⟩ := i5 l0
            exact ⟨b, h1, by rw [put_eval_ne (by omega)]; exact h2, h3⟩
          · intro h; rw [hfe]; exact i6 (by rw [← hset0]; exact h)
          · intro h
            rw [hset _ (by omega)] at h
            rw [hset0, put_eval_ne (by omega), put_eval_ne (by omega)]
            exact i7 h
          · intro _
            rw [hset0, put_eval_same (by omega), put_eval_ne (by omega)]
            exact ⟨l0, rfl⟩
  · intro listed a' w' hI hall
    obtain ⟨i1, i2, i3, i4, i5, i6, i7, i8⟩ := hI
    obtain ⟨b, h1, h2, h3⟩ := i5 (hall 0 (by omega))
    obtain ⟨_, h4⟩ := i8 (hall _ (by omega))
    rw [fT_all (ls := lsOf listed) l 1 (fun j hj => hall j (by omega))] at h3
    exact h a' w' b i1 i2 (h4.trans h2) h1 h3 i3
end
end Go.Tg
