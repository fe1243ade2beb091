import Derived.Test.YtignponfoheaeaaGreatB1
/- A shelf of a book: lists that are kept, and copies of them, each one's block its own. -/
namespace Go.Tg
open Go Go.RowKit Go.Maps

def upN {α : Type} (f : Nat → α) (i : Nat) (v : α) : Nat → α := fun j => if j = i then v else f j
theorem upN_same {α : Type} (f : Nat → α) (i : Nat) (v : α) : upN f i v i = v := if_pos rfl
theorem upN_ne {α : Type} (f : Nat → α) {i j : Nat} (v : α) (h : j ≠ i) : upN f i v j = f j := if_neg h

/-- The marks of the i-th list, n of them from f on, as cells. -/
def marksC (mk : Nat → Nat → List Value) (i f n : Nat) : List Value := (List.range n).flatMap fun j => mk i (f + j)
section
variable (mk : Nat → Nat → List Value) {k : Nat} (hk : ∀ i j, (mk i j).length = k)
theorem marksC_zero (i f : Nat) : marksC mk i f 0 = [] := rfl
theorem marksC_snoc (i f n : Nat) : marksC mk i f (n + 1) = marksC mk i f n ++ mk i (f + n) := by
  unfold marksC
  rw [List.range_succ, List.flatMap_append]
  simp
theorem marksC_app (i n m : Nat) : marksC mk i 0 n ++ marksC mk i n m = marksC mk i 0 (n + m) := by
  induction m with
  | zero => simp [marksC]
  | succ m ih => rw [marksC_snoc, ← List.append_assoc, ih, ← Nat.add_assoc, marksC_snoc, Nat.zero_add]
include hk in
theorem marksC_len (i f n : Nat) : (marksC mk i f n).length = n * k := by
  induction n with
  | zero => simp [marksC]
  | succ n ih => rw [marksC_snoc, List.length_append, ih, hk, Nat.succ_mul]
theorem marksC_pre (i n m j : Nat) (u : Value) (h : (marksC mk i 0 n)[j]? = some u) : (marksC mk i 0 (n + m))[j]? = some u := by
  rw [← marksC_app, List.getElem?_append_left (List.getElem?_eq_some_iff.1 h).1]
  exact h
include hk in
theorem marksC_get (i f n j q : Nat) (hj : j < n) (hq : q < k) : (marksC mk i f n)[j * k + q]? = (mk i (f + j))[q]? := by
  induction n with
  | zero => omega
  | succ n ih =>
    rw [marksC_snoc]
    by_cases h : j < n
    · have h2 : (j + 1) * k ≤ n * k := Nat.mul_le_mul_right _ h
      rw [Nat.succ_mul] at h2
      rw [List.getElem?_append_left (by rw [marksC_len mk hk]; omega)]
      exact ih h
    · obtain rfl : j = n := by omega
      rw [List.getElem?_append_right (by rw [marksC_len mk hk]; omega), marksC_len mk hk]
      congr 1; omega
theorem marksC_one (h1 : ∀ i j, ∀ u ∈ mk i j, u.oneCell' = true) (i f n : Nat) : ∀ u ∈ marksC mk i f n, u.oneCell' = true := by
  intro u hu
  obtain ⟨j, _, hj⟩ := List.mem_flatMap.1 hu
  exact h1 i (f + j) u hj
end

/-- Rows of lists. -/
structure XV (T TS : TypeId) (k : Nat) (w : World) (v : Value) (n : Nat) (X : Nat → Value) (m : Nat → Nat) (cs : Nat → List Value) : Prop where
  r : BRow TS 1 w v n ((List.range n).map X)
  e : ∀ i, i < n → BRow T k w (X i) (m i) (cs i)
  ne : ∀ i j, i < n → j < n → i ≠ j → ∀ g, (X i).ownBlock = some g → (X j).ownBlock = some g → False
def XHas (v : Value) (n : Nat) (X : Nat → Value) (g : Nat) : Prop := v.ownBlock = some g ∨ ∃ i, i < n ∧ (X i).ownBlock = some g

/-- Blocks of rows of unlike types are not the same. -/
theorem row_ne {w : World} {T T' : TypeId} {k k' : Nat} {v v' : Value} {n n' : Nat} {us us' : List Value} (h : BRow T k w v n us) (h' : BRow T' k' w v' n' us') (hT : T ≠ T') : ∀ g, v.ownBlock = some g → v'.ownBlock = some g → False := by
  intro g h1 h2
  obtain ⟨_, c1, e1⟩ := h.blk h1
  obtain ⟨_, c2, e2⟩ := h'.blk h2
  rw [e1] at e2
  cases e2
  exact hT rfl

section
variable {T TS : TypeId} {k : Nat} {w w' : World} {v : Value} {n : Nat} {X : Nat → Value} {m : Nat → Nat} {cs : Nat → List Value}

theorem XV.keep {Z : Nat → Prop} (h : XV T TS k w v n X m cs) (hk : Keep Z w w') (hs : ∀ g, XHas v n X g → ¬ Z g) : XV T TS k w' v n X m cs where
  r := h.r.keep hk fun g hg => hs g (.inl hg)
  e := fun i hi => (h.e i hi).keep hk fun g hg => hs g (.inr ⟨i, hi, hg⟩)
  ne := h.ne
theorem XV.below (h : XV T TS k w v n X m cs) (hb : Below w.heap.size w w') : XV T TS k w' v n X m cs := h.keep (Keep.of_below (fun _ => False) hb) (fun _ _ h => h)
theorem XV.lt (h : XV T TS k w v n X m cs) {g : Nat} (hg : XHas v n X g) : g < w.heap.size := by
  rcases hg with hg | ⟨i, hi, hg⟩
  · exact (h.r.blk hg).1
  · exact ((h.e i hi).blk hg).1
theorem XV.rowNe (h : XV T TS k w v n X m cs) (hT : TS ≠ T) : ∀ i, i < n → ∀ g, v.ownBlock = some g → (X i).ownBlock = some g → False := fun i hi => row_ne h.r (h.e i hi) hT
theorem XV.nil (T TS : TypeId) (k : Nat) (w : World) (X : Nat → Value) (m : Nat → Nat) (cs : Nat → List Value) : XV T TS k w (.slice none 0 0) 0 X m cs where
  r := BRow.nil _ _ _
  e := fun i hi => absurd hi (Nat.not_lt_zero _)
  ne := fun i _ hi => absurd hi (Nat.not_lt_zero _)

/-- One more list. -/
theorem XV.add (h : XV T TS k w v n X m cs) (hT : TS ≠ T) {v' x : Value} {mx : Nat} {cx : List Value} (hx : BRow T k w x mx cx) (hxn : ∀ i, i < n → ∀ g, x.ownBlock = some g → (X i).ownBlock = some g → False)
    (hr : BRow TS 1 w' v' (n + 1) ((List.range n).map X ++ [x])) (hk : Keep (fun k => v.ownBlock = some k) w w') : XV T TS k w' v' (n + 1) (upN X n x) (upN m n mx) (upN cs n cx) where
  r := by
    have e : (List.range (n + 1)).map (upN X n x) = (List.range n).map X ++ [x] := by
      rw [List.range_succ, List.map_append]
      congr 1
      · exact List.map_congr_left fun j hj => upN_ne X x (Nat.ne_of_lt (List.mem_range.1 hj))
      · simp [upN_same]
    rw [e]; exact hr
  e := fun i hi => by
    by_cases hin : i = n
    · subst hin
      rw [upN_same, upN_same, upN_same]
      exact hx.keep hk fun g hg h1 => row_ne h.r hx hT g h1 hg
    · rw [upN_ne X x hin, upN_ne m mx hin, upN_ne cs cx hin]
      have hlt : i < n := by omega
      exact (h.e i hlt).keep hk fun g hg h1 => h.rowNe hT i hlt g h1 hg
  ne := fun i j hi hj hij g => by
    by_cases hin : i = n
    · subst hin
      rw [upN_same, upN_ne X x (fun e => hij e.symm)]
      exact hxn j (by omega) g
    · by_cases hjn : j = n
      · subst hjn
        rw [upN_same, upN_ne X x hin]
        exact fun h1 h2 => hxn i (by omega) g h2 h1
      · rw [upN_ne X x hin, upN_ne X x hjn]
        exact h.ne i j (by omega) (by omega) hij g
/-- The list i turns, and no other one. -/
theorem XV.turn (h : XV T TS k w v n X m cs) (hT : TS ≠ T) {i : Nat} (hi : i < n) {cx : List Value} (hx : BRow T k w' (X i) (m i) cx) (hk : Keep (fun g => (X i).ownBlock = some g) w w') : XV T TS k w' v n X m (upN cs i cx) where
  r := h.r.keep hk fun g hg h1 => h.rowNe hT i hi g hg h1
  e := fun j hj => by
    by_cases hji : j = i
    · subst hji; rw [upN_same]; exact hx
    · rw [upN_ne cs cx hji]
      exact (h.e j hj).keep hk fun g hg h1 => h.ne j i hj hi hji g hg h1
  ne := h.ne
theorem XV.cong (h : XV T TS k w v n X m cs) {cs' : Nat → List Value} (he : ∀ i, i < n → cs i = cs' i) : XV T TS k w v n X m cs' where
  r := h.r
  e := fun i hi => by rw [← he i hi]; exact h.e i hi
  ne := h.ne
theorem XHas.up {x v' : Value} {g : Nat} (h : XHas v' (n + 1) (upN X n x) g) : v'.ownBlock = some g ∨ x.ownBlock = some g ∨ ∃ i, i < n ∧ (X i).ownBlock = some g := by
  rcases h with h | ⟨i, hi, h⟩
  · exact .inl h
  · by_cases hin : i = n
    · subst hin; rw [upN_same] at h; exact .inr (.inl h)
    · rw [upN_ne X x hin] at h; exact .inr (.inr ⟨i, by omega, h⟩)
end

/-- The two rows of a kind: what is told of them. -/
structure KD where
  v1 : Value
  v2 : Value
  n : Nat
  X : Nat → Value
  Y : Nat → Value
  m : Nat → Nat
  cs : Nat → List Value
  ds : Nat → List Value
def nilS : Value := .slice none 0 0
def KD.nil : KD := ⟨nilS, nilS, 0, fun _ => nilS, fun _ => nilS, fun _ => 0, fun _ => [], fun _ => []⟩
def KD.Has (D : KD) (g : Nat) : Prop := XHas D.v1 D.n D.X g ∨ XHas D.v2 D.n D.Y g

structure ShelfV (T TS : TypeId) (k : Nat) (w : World) (D : KD) : Prop where
  x : XV T TS k w D.v1 D.n D.X D.m D.cs
  y : XV T TS k w D.v2 D.n D.Y D.m D.ds
  nv : ∀ g, D.v1.ownBlock = some g → D.v2.ownBlock = some g → False
  nx : ∀ i j, i < D.n → j < D.n → ∀ g, (D.X i).ownBlock = some g → (D.Y j).ownBlock = some g → False
  le : ∀ i, i < D.n → D.m i ≤ 100000
  hn : D.n ≤ 250

section
variable {T TS : TypeId} {k : Nat} {w w' : World} {D : KD}
theorem ShelfV.keep {Z : Nat → Prop} (h : ShelfV T TS k w D) (hk : Keep Z w w') (hs : ∀ g, D.Has g → ¬ Z g) : ShelfV T TS k w' D where
  x := h.x.keep hk fun g hg => hs g (.inl hg)
  y := h.y.keep hk fun g hg => hs g (.inr hg)
  nv := h.nv
  nx := h.nx
  le := h.le
  hn := h.hn
theorem ShelfV.below (h : ShelfV T TS k w D) (hb : Below w.heap.size w w') : ShelfV T TS k w' D := h.keep (Keep.of_below (fun _ => False) hb) (fun _ _ h => h)
theorem ShelfV.lt (h : ShelfV T TS k w D) {g : Nat} (hg : D.Has g) : g < w.heap.size := hg.elim h.x.lt h.y.lt
theorem ShelfV.nil (T TS : TypeId) (k : Nat) (w : World) : ShelfV T TS k w KD.nil where
  x := XV.nil _ _ _ _ _ _ _
  y := XV.nil _ _ _ _ _ _ _
  nv := fun g h => by cases h
  nx := fun i _ hi => absurd hi (Nat.not_lt_zero _)
  le := fun i hi => absurd hi (Nat.not_lt_zero _)
  hn := Nat.zero_le _
/-- The blocks of a kind bear its two types. -/
theorem ShelfV.type (h : ShelfV T TS k w D) {g : Nat} (hg : D.Has g) : ∃ cur, w.heap[g]? = some (.cells cur TS (0, 0)) ∨ w.heap[g]? = some (.cells cur T (0, 0)) := by
  rcases hg with (hg | ⟨i, hi, hg⟩) | (hg | ⟨i, hi, hg⟩)
  · obtain ⟨_, c, e⟩ := h.x.r.blk hg; exact ⟨c, .inl e⟩
  · obtain ⟨_, c, e⟩ := (h.x.e i hi).blk hg; exact ⟨c, .inr e⟩
  · obtain ⟨_, c, e⟩ := h.y.r.blk hg; exact ⟨c, .inl e⟩
  · obtain ⟨_, c, e⟩ := (h.y.e i hi).blk hg; exact ⟨c, .inr e⟩
end
end Go.Tg
