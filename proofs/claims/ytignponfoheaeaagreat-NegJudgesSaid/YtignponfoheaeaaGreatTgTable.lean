import Derived.Test.YtignponfoheaeaaGreatTgMap2
namespace Go.Tg
open Go Go.RowKit Go.Maps Go.MapKept
open Go.ChangeMaps (setBlock)

/-- A slice of ints that is nil or lies whole in a block from B on. -/
def IntsAt (TI : TypeId) (B : Nat) (w : World) (v : Value) (xs : List Int) : Prop :=
  (xs = [] ∧ v = .slice none 0 0) ∨ ∃ b, B ≤ b ∧ v = .slice (some ⟨b, 0, none⟩) xs.length xs.length ∧ w.heap[b]? = some (.cells (xs.map (Value.int .i64)).toArray TI (0, 0))

theorem IntsAt.mono {TI : TypeId} {B B' : Nat} {w : World} {v : Value} {xs : List Int} (h : IntsAt TI B w v xs) (hB : B' ≤ B) : IntsAt TI B' w v xs := by
  rcases h with h | ⟨b, h1, h2, h3⟩
  · exact Or.inl h
  · exact Or.inr ⟨b, by omega, h2, h3⟩

theorem IntsAt.keep {TI : TypeId} {B : Nat} {w w' : World} {v : Value} {xs : List Int} {S : Nat → Prop} (h : IntsAt TI B w v xs) (hk : Keep S w w')
    (hs : ∀ b o, B ≤ b → S b → w.heap[b]? = some o → ∀ c t z, o ≠ .cells c t z) : IntsAt TI B w' v xs := by
  rcases h with h | ⟨b, h1, h2, h3⟩
  · exact Or.inl h
  · refine Or.inr ⟨b, h1, h2, ?_⟩
    rw [hk.block b (Array.getElem?_eq_some_iff.1 h3).1 (fun hS => hs b _ h1 hS h3 _ _ _ rfl)]
    exact h3

def keyV (s e : Int) : Value := .agg #[.int .i64 s, .int .i64 e]
def entV (n : Int) (sl : Value) : Value := .agg #[.int .i64 n, sl]

theorem keyV_inj {s e s' e' : Int} (h : keyV s e = keyV s' e') : s = s' ∧ e = e' := by
  simp [keyV] at h; exact h

abbrev Row := Int × Int × Int × List Int
abbrev Tab := Int → Int → Option (Int × List Int)

def Tab.put (f : Tab) (r : Row) : Tab := fun s e => if s = r.1 ∧ e = r.2.1 then some (r.2.2.1, r.2.2.2) else f s e

def TableAt (P : Program) (TK TI : TypeId) (B : Nat) (w : World) (b : Nat) (f : Tab) : Prop :=
  ∃ mm, MapAt P TK w b mm ∧ (∀ k v, mm k = some v → ∃ s e n sl xs, k = keyV s e ∧ f s e = some (n, xs) ∧ v = entV n sl ∧ IntsAt TI B w sl xs) ∧
    (∀ s e n xs, f s e = some (n, xs) → ∃ v, mm (keyV s e) = some v)

structure TabTypes (P : Program) (TM TK TE TS TI : TypeId) : Prop where
  keyed : Keyed P TK
  ht : P.underlying TM = some (.map TK TE)
  kv : ∀ a b : Int, (Lit.int .i64 a).wf = true → (Lit.int .i64 b).wf = true → KV P TK (keyV a b)
  bK : ∀ w (a b : Int), (Instr.build TK #[(0, .int .i64 a), (1, .int .i64 b)]).run P w = .ok (keyV a b) w
  bE : ∀ w (n : Int) sa sl sc, (Instr.build TE #[(0, .int .i64 n), (1, .slice sa sl sc)]).run P w = .ok (entV n (.slice sa sl sc)) w
  bS1 : ∀ w (a : Int), (Instr.buildSlice TS 1 #[(0, .int .i64 a)]).run P w = .ok (.slice (some ⟨w.heap.size, 0, none⟩) 1 1) (w.alloc (.cells #[.int .i64 a] TI))
  bS2 : ∀ w (a b : Int), (Instr.buildSlice TS 2 #[(0, .int .i64 a), (1, .int .i64 b)]).run P w = .ok (.slice (some ⟨w.heap.size, 0, none⟩) 2 2) (w.alloc (.cells #[.int .i64 a, .int .i64 b] TI))
  bS3 : ∀ w (a b c : Int), (Instr.buildSlice TS 3 #[(0, .int .i64 a), (1, .int .i64 b), (2, .int .i64 c)]).run P w = .ok (.slice (some ⟨w.heap.size, 0, none⟩) 3 3) (w.alloc (.cells #[.int .i64 a, .int .i64 b, .int .i64 c] TI))
  zE : ∀ w, (zeroValue TE).run P w = .ok (entV 0 (.slice none 0 0)) w

def ci (n : Int) : Operand := .const (.int .i64 n)
def parts (xs : List Int) : Array (Nat × Operand) := (xs.zipIdx.map fun p => (p.2, ci p.1)).toArray

def genE (TM TK TE TS m t : Nat) : Row → List (Option Tmp × Op × Option (Nat × Bool))
  | (s, e, n, []) => [(some t, .build TK #[(0, ci s), (1, ci e)], none), (some (t + 1), .build TE #[(0, ci n), (1, .const (.slice none 0 0))], none), (none, .insert TM (.tmp m) (.tmp t) (.tmp (t + 1)), none)]
  | (s, e, n, x :: xs) => [(some t, .build TK #[(0, ci s), (1, ci e)], none), (some (t + 1), .buildSlice TS (x :: xs).length (parts (x :: xs)), none), (some (t + 2), .build TE #[(0, ci n), (1, .tmp (t + 1))], none), (none, .insert TM (.tmp m) (.tmp t) (.tmp (t + 2)), none)]
def wid : Row → Nat
  | (_, _, _, []) => 2
  | _ => 3
def gen (TM TK TE TS m : Nat) : Nat → List Row → List (Option Tmp × Op × Option (Nat × Bool))
  | _, [] => []
  | t, r :: l => genE TM TK TE TS m t r ++ gen TM TK TE TS m (t + wid r) l
def endT : Nat → List Row → Nat
  | t, [] => t
  | t, r :: l => endT (t + wid r) l

def proj (o : Oper) : Option Tmp × Op × Option (Nat × Bool) := (o.dst, o.op, o.guard)

section
variable {P : Program} {ops : Array Oper} {Q : Exit → Act → World → Prop} {rest : List Oper} {o : Oper} {a : Act} {w w' : World}

theorem step_val {v : Value} (hg : o.guard = none) (hr : (execOp a.eval o).run P w = .ok (.value v) w') (h : wpList P ops Q rest (a.put o.dst v) w') : wpList P ops Q (o :: rest) a w := by
  refine wpList_plain hg fun K hK => ?_
  unfold Oper.wp
  rw [hr]
  exact hK _ _ h
theorem step_skip (hg : o.guard = none) (hr : (execOp a.eval o).run P w = .ok .skip w') (h : wpList P ops Q rest (a.put o.dst undef) w') : wpList P ops Q (o :: rest) a w := by
  refine wpList_plain hg fun K hK => ?_
  unfold Oper.wp
  rw [hr]
  exact hK _ _ h

theorem put_eval_same {t : Nat} {v : Value} (h : t < a.tmps.size) : (a.put (some t) v).eval (.tmp t) = v := by
  simp [Act.put, Act.eval, h]
theorem put_eval_ne {t t' : Nat} {v : Value} (h : t' ≠ t) : (a.put (some t) v).eval (.tmp t') = a.eval (.tmp t') := by
  simp [Act.put, Act.eval, Array.getElem?_setIfInBounds_ne (Ne.symm h)]
theorem put_size {t : Option Tmp} {v : Value} : (a.put t v).tmps.size = a.tmps.size := by
  cases t <;> simp [Act.put]
theorem put_defers {t : Option Tmp} {v : Value} : (a.put t v).defers = a.defers := by
  cases t <;> rfl
theorem put_none {v : Value} : a.put none v = a := rfl

variable {TM TK TE TS TI : TypeId} {B b : Nat} {f : Tab}

theorem TableAt.map_block (h : TableAt P TK TI B w b f) : ∃ es clock, w.heap[b]? = some (.map es clock) := by
  obtain ⟨mm, ⟨es, clock, hb, _⟩, _⟩ := h
  exact ⟨es, clock, hb⟩

theorem IntsAt.keep_map {v : Value} {xs : List Int} (h : IntsAt TI B w v xs) {es clock} (hb : w.heap[b]? = some (.map es clock)) (hk : Keep (· = b) w w') : IntsAt TI B w' v xs :=
  h.keep hk (fun b' o _ hS ho c t z e => by subst hS; rw [hb] at ho; cases ho; cases e)

theorem TableAt.alloc (h : TableAt P TK TI B w b f) (o : Obj) : TableAt P TK TI B (w.alloc o) b f := by
  obtain ⟨es, clock, hb⟩ := h.map_block
  obtain ⟨mm, h1, h2, h3⟩ := h
  have hk : Keep (· = b) w (w.alloc o) := (Keep.refl _ _).alloc o
  have hk0 : Keep (fun _ => False) w (w.alloc o) := (Keep.refl _ _).alloc o
  refine ⟨mm, h1.keep hk0 (by simp), fun k v hkv => ?_, h3⟩
  obtain ⟨s, e, n, sl, xs, e1, e2, e3, e4⟩ := h2 k v hkv
  exact ⟨s, e, n, sl, xs, e1, e2, e3, e4.keep_map hb hk⟩

theorem TableAt.update (C : TabTypes P TM TK TE TS TI) (h : TableAt P TK TI B w b f) {s e n : Int} {sl : Value} {xs : List Int} (ws : (Lit.int .i64 s).wf = true) (we : (Lit.int .i64 e).wf = true) (hi : IntsAt TI B w sl xs) :
    ∃ w', (Instr.mapUpdate TM (.map (some b)) (keyV s e) (entV n sl)).run P w = .ok () w' ∧ TableAt P TK TI B w' b (f.put (s, e, n, xs)) ∧ Keep (· = b) w w' ∧ w'.heap.size = w.heap.size := by
  obtain ⟨es, clock, hb⟩ := h.map_block
  obtain ⟨mm, h1, h2, h3⟩ := h
  obtain ⟨es', clock', hrun, hm⟩ := h1.run_update C.keyed C.ht (C.kv s e ws we) (entV n sl)
  have hk : Keep (· = b) w (setBlock w b (.map es' clock')) := (Keep.refl (· = b) w).setBlock b (Or.inr rfl) _
  refine ⟨_, hrun, ⟨_, hm, ?_, ?_⟩, hk, setBlock_size _ _ _⟩
  · intro k v hkv
    by_cases hkk : k = keyV s e
    · subst hkk
      rw [upd_same] at hkv
      cases hkv
      exact ⟨s, e, n, sl, xs, rfl, by simp [Tab.put], rfl, hi.keep_map hb hk⟩
    · rw [upd_other _ _ hkk] at hkv
      obtain ⟨s', e', n', sl', xs', e1, e2, e3, e4⟩ := h2 k v hkv
      refine ⟨s', e', n', sl', xs', e1, ?_, e3, e4.keep_map hb hk⟩
      simp only [Tab.put]
      rw [if_neg]
      · exact e2
      · rintro ⟨rfl, rfl⟩; exact hkk e1
  · intro s' e' n' xs' hf
    by_cases hkk : keyV s' e' = keyV s e
    · exact ⟨_, by rw [hkk, upd_same]⟩
    · rw [upd_other _ _ hkk]
      simp only [Tab.put] at hf
      rw [if_neg] at hf
      · exact h3 _ _ _ _ hf
      · rintro ⟨rfl, rfl⟩; exact hkk rfl

/-- The key, the slice, the entry, and the store of one row. -/
theorem wp_genE (C : TabTypes P TM TK TE TS TI) {m t : Nat} (r : Row) (os : List Oper) (hos : os.map proj = genE TM TK TE TS m t r) (ws : (Lit.int .i64 r.1).wf = true) (we : (Lit.int .i64 r.2.1).wf = true) (hlen : r.2.2.2.length ≤ 3)
    (hmt : m < t) (hsz : t + wid r ≤ a.tmps.size) (hm : a.eval (.tmp m) = .map (some b)) (hB : B ≤ w.heap.size) (ht : TableAt P TK TI B w b f)
    (h : ∀ a' w', a'.defers = a.defers → a'.tmps.size = a.tmps.size → (∀ i, i < t → a'.tmps[i]? = a.tmps[i]?) → TableAt P TK TI B w' b (f.put r) → Keep (· = b) w w' → wpList P ops Q rest a' w') :
    wpList P ops Q (os ++ rest) a w := by
  obtain ⟨s, e, n, xs⟩ := r
  match xs, hlen with
  | [], _ =>
    · simp only [genE] at hos
      obtain ⟨⟨d1, p1, t1, q1, f1, g1⟩, os1, rfl, e1, hos1⟩ := List.map_eq_cons_iff.1 hos
      obtain ⟨⟨d2, p2, t2, q2, f2, g2⟩, os2, rfl, e2, hos2⟩ := List.map_eq_cons_iff.1 hos1
      obtain ⟨⟨d3, p3, t3, q3, f3, g3⟩, os3, rfl, e3, hos3⟩ := List.map_eq_cons_iff.1 hos2
      obtain rfl := List.map_eq_nil_iff.1 hos3
      simp only [proj, Prod.mk.injEq] at e1 e2 e3
      obtain ⟨rfl, rfl, rfl⟩ := e1
      obtain ⟨rfl, rfl, rfl⟩ := e2
      obtain ⟨rfl, rfl, rfl⟩ := e3
      simp only [wid] at hsz
      refine step_val (v := keyV s e) (w' := w) rfl ?_ ?_
      · simp [execOp, Act.eval, ci, C.bK, Result.andThen]
      refine step_val (v := entV n (.slice none 0 0)) (w' := w) rfl ?_ ?_
      · simp [execOp, Act.eval, ci, C.bE, Result.andThen]
      obtain ⟨w1, hrun, ht1, hk1, _⟩ := ht.update C (n := n) ws we (Or.inl ⟨rfl, rfl⟩)
      have hm' : ((a.put (some t) (keyV s e)).put (some (t + 1)) (entV n (.slice none 0 0))).eval (.tmp m) = .map (some b) := by
        rw [put_eval_ne (by omega), put_eval_ne (by omega), hm]
      have hk' : ((a.put (some t) (keyV s e)).put (some (t + 1)) (entV n (.slice none 0 0))).eval (.tmp t) = keyV s e := by
        rw [put_eval_ne (by omega), put_eval_same (by omega)]
      have he' : ((a.put (some t) (keyV s e)).put (some (t + 1)) (entV n (.slice none 0 0))).eval (.tmp (t + 1)) = entV n (.slice none 0 0) := by
        rw [put_eval_same (by rw [put_size]; omega)]
      refine step_skip (w' := w1) rfl ?_ ?_
      · simp only [execOp, hm', hk', he']
        rw [Sem.run_bind]
        dsimp only at hrun
        rw [hrun]
        simp [Result.andThen]
      refine h _ _ rfl (by simp [put_none, put_size]) (fun i hi => ?_) ht1 hk1
      simp [Act.put, Array.getElem?_setIfInBounds_ne (show t ≠ i by omega), Array.getElem?_setIfInBounds_ne (show t + 1 ≠ i by omega)]
  | x :: xs, hlen =>
    · simp only [genE] at hos
      obtain ⟨⟨d1, p1, t1, q1, f1, g1⟩, os1, rfl, e1, hos1⟩ := List.map_eq_cons_iff.1 hos
      obtain ⟨⟨d2, p2, t2, q2, f2, g2⟩, os2, rfl, e2, hos2⟩ := List.map_eq_cons_iff.1 hos1
      obtain ⟨⟨d3, p3, t3, q3, f3, g3⟩, os3, rfl, e3, hos3⟩ := List.map_eq_cons_iff.1 hos2
      obtain ⟨⟨d4, p4, t4, q4, f4, g4⟩, os4, rfl, e4, hos4⟩ := List.map_eq_cons_iff.1 hos3
      obtain rfl := List.map_eq_nil_iff.1 hos4
      simp only [proj, Prod.mk.injEq] at e1 e2 e3 e4
      obtain ⟨rfl, rfl, rfl⟩ := e1
      obtain ⟨rfl, rfl, rfl⟩ := e2
      obtain ⟨rfl, rfl, rfl⟩ := e3
      obtain ⟨rfl, rfl, rfl⟩ := e4
      simp only [wid] at hsz
      refine step_val (v := keyV s e) (w' := w) rfl ?_ ?_
      · simp [execOp, Act.eval, ci, C.bK, Result.andThen]
      have hsl : (Instr.buildSlice TS (x :: xs).length ((parts (x :: xs)).map fun p => (p.1, (a.put (some t) (keyV s e)).eval p.2))).run P w =
          .ok (.slice (some ⟨w.heap.size, 0, none⟩) (x :: xs).length (x :: xs).length) (w.alloc (.cells ((x :: xs).map (Value.int .i64)).toArray TI)) := by
        match xs, hlen with
        | [], _ => simp [parts, Act.eval, ci, C.bS1]
        | [y], _ => simp [parts, Act.eval, ci, C.bS2]
        | [y, z], _ => simp [parts, Act.eval, ci, C.bS3]
      refine step_val (v := .slice (some ⟨w.heap.size, 0, none⟩) (x :: xs).length (x :: xs).length) (w' := w.alloc (.cells ((x :: xs).map (Value.int .i64)).toArray TI)) rfl ?_ ?_
      · simp only [execOp]
        rw [Sem.run_bind]
        have : ((fun x => match x with | (i, x) => (i, (a.put (some t) (keyV s e)).eval x)) : Nat × Operand → Nat × Value) = fun p => (p.1, (a.put (some t) (keyV s e)).eval p.2) := by
          funext p; rfl
        rw [this, hsl]
        simp [Result.andThen]
      generalize hsv : (Value.slice (some ⟨w.heap.size, 0, none⟩) (x :: xs).length (x :: xs).length) = sv
      have hev : ((a.put (some t) (keyV s e)).put (some (t + 1)) sv).eval (.tmp (t + 1)) = sv := put_eval_same (by rw [put_size]; omega)
      refine step_val (v := entV n sv) (w' := w.alloc (.cells ((x :: xs).map (Value.int .i64)).toArray TI)) rfl ?_ ?_
      · have h0 : ((a.put (some t) (keyV s e)).put (some (t + 1)) sv).eval (ci n) = .int .i64 n := rfl
        simp only [execOp, List.map_toArray, List.map_cons, List.map_nil, hev, h0]
        rw [← hsv]
        simp [C.bE, Result.andThen]
      have hi : IntsAt TI B (w.alloc (.cells ((x :: xs).map (Value.int .i64)).toArray TI)) sv (x :: xs) :=
        Or.inr ⟨w.heap.size, hB, hsv.symm, by show (w.heap.push _)[_]? = _; simp⟩
      obtain ⟨w1, hrun, ht1, hk1, _⟩ := (ht.alloc (.cells ((x :: xs).map (Value.int .i64)).toArray TI)).update C (n := n) ws we hi
      have hm' : (((a.put (some t) (keyV s e)).put (some (t + 1)) sv).put (some (t + 2)) (entV n sv)).eval (.tmp m) = .map (some b) := by
        rw [put_eval_ne (by omega), put_eval_ne (by omega), put_eval_ne (by omega), hm]
      have hk' : (((a.put (some t) (keyV s e)).put (some (t + 1)) sv).put (some (t + 2)) (entV n sv)).eval (.tmp t) = keyV s e := by
        rw [put_eval_ne (by omega), put_eval_ne (by omega), put_eval_same (by omega)]
      have he' : (((a.put (some t) (keyV s e)).put (some (t + 1)) sv).put (some (t + 2)) (entV n sv)).eval (.tmp (t + 2)) = entV n sv := by
        rw [put_eval_same (by rw [put_size, put_size]; omega)]
      refine step_skip (w' := w1) rfl ?_ ?_
      · simp only [execOp, hm', hk', he']
        rw [Sem.run_bind]
        dsimp only at hrun
        rw [hrun]
        simp [Result.andThen]
      refine h _ _ rfl (by simp [put_none, put_size]) (fun i hi => ?_) ht1 (((Keep.refl _ _).alloc _).trans hk1)
      simp [Act.put, Array.getElem?_setIfInBounds_ne (show t ≠ i by omega), Array.getElem?_setIfInBounds_ne (show t + 1 ≠ i by omega), Array.getElem?_setIfInBounds_ne (show t + 2 ≠ i by omega)]

theorem wp_gen (C : TabTypes P TM TK TE TS TI) {m : Nat} : ∀ (l : List Row) (t : Nat) (os : List Oper) (a : Act) (w : World) (f : Tab), os.map proj = gen TM TK TE TS m t l →
    (∀ r ∈ l, (Lit.int .i64 r.1).wf = true ∧ (Lit.int .i64 r.2.1).wf = true ∧ r.2.2.2.length ≤ 3) →
    m < t → endT t l ≤ a.tmps.size → a.eval (.tmp m) = .map (some b) → B ≤ w.heap.size → TableAt P TK TI B w b f →
    (∀ a' w', a'.defers = a.defers → a'.tmps.size = a.tmps.size → (∀ i, i < t → a'.tmps[i]? = a.tmps[i]?) → TableAt P TK TI B w' b (l.foldl Tab.put f) → Keep (· = b) w w' → wpList P ops Q rest a' w') →
    wpList P ops Q (os ++ rest) a w := by
  intro l
  induction l with
  | nil =>
    intro t os a w f hos _ _ _ _ _ ht h
    have : os = [] := by simpa [gen] using hos
    subst this
    exact h a w rfl rfl (fun _ _ => rfl) ht (Keep.refl _ _)
  | cons r l ih =>
    intro t os a w f hos hw hmt hsz hm hB ht h
    have hle : ∀ (l : List Row) (t : Nat), t ≤ endT t l := by
      intro l
      induction l with
      | nil => intro t; exact Nat.le_refl _
      | cons r l ih => intro t; exact Nat.le_trans (Nat.le_add_right t (wid r)) (ih _)
    simp only [gen] at hos
    obtain ⟨os1, os2, rfl, h1, h2⟩ := List.map_eq_append_iff.1 hos
    obtain ⟨w1, w2, w3⟩ := hw r (by simp)
    rw [List.append_assoc]
    simp only [endT] at hsz
    refine wp_genE C r os1 h1 w1 w2 w3 hmt (Nat.le_trans (hle _ _) hsz) hm hB ht ?_
    intro a' w' hd hs hsame ht' hk'
    refine ih (t + wid r) os2 a' w' _ h2 (fun r' hr' => hw r' (by simp [hr'])) (by omega) (by rw [hs]; exact hsz) ?_ (Nat.le_trans hB hk'.size) ht' ?_
    · rw [← hm]; simp only [Act.eval, Array.getD_eq_getD_getElem?, hsame m hmt]
    · intro a2 w2 hd2 hs2 hsame2 ht2 hk2
      exact h a2 w2 (hd2.trans hd) (hs2.trans hs) (fun i hi => (hsame2 i (by omega)).trans (hsame i hi)) ht2 (hk'.trans hk2)
end
end Go.Tg
namespace Go.Tg
open Go Go.RowKit Go.Maps
theorem IntsAt.below {TI : TypeId} {B : Nat} {w w' : World} {v : Value} {xs : List Int} (h : IntsAt TI B w v xs) (hk : Below w.heap.size w w') : IntsAt TI B w' v xs :=
  h.keep (Keep.of_below (fun _ => False) hk) (by simp)
theorem TableAt.below {P : Program} {TK TI : TypeId} {B b : Nat} {w w' : World} {f : Tab} (h : TableAt P TK TI B w b f) (hk : Below w.heap.size w w') : TableAt P TK TI B w' b f := by
  obtain ⟨mm, h1, h2, h3⟩ := h
  refine ⟨mm, h1.keep (Keep.of_below (fun _ => False) hk) (by simp), fun k v hkv => ?_, h3⟩
  obtain ⟨s, e, n, sl, xs, e1, e2, e3, e4⟩ := h2 k v hkv
  exact ⟨s, e, n, sl, xs, e1, e2, e3, e4.below hk⟩
theorem TableAt.mono {P : Program} {TK TI : TypeId} {B B' b : Nat} {w : World} {f : Tab} (h : TableAt P TK TI B w b f) (hB : B' ≤ B) : TableAt P TK TI B' w b f := by
  obtain ⟨mm, h1, h2, h3⟩ := h
  refine ⟨mm, h1, fun k v hkv => ?_, h3⟩
  obtain ⟨s, e, n, sl, xs, e1, e2, e3, e4⟩ := h2 k v hkv
  exact ⟨s, e, n, sl, xs, e1, e2, e3, e4.mono hB⟩
end Go.Tg
