import Derived.Test.YtignponfoheaeaaGreatB2
/- How lists of a book grow: plain. -/
namespace Go.Tg
open Go Go.RowKit Go.Maps

/-- Within a list that grows. -/
structure GrowJ (T : TypeId) (k : Nat) (mk : Nat → Nat → List Value) (w0 wr : World) (x l : Value) (m i c : Nat) : Prop where
  lr : BRow T k wr l (m + c) (marksC mk i 0 (m + c))
  xr : RowR wr x m (marksC mk i 0 m)
  lb : l.ownBlock = x.ownBlock ∨ ∃ q, l.ownBlock = some q ∧ w0.heap.size ≤ q
  kp : Keep (fun g => x.ownBlock = some g) w0 wr

theorem GrowJ.start {T : TypeId} {k : Nat} {mk : Nat → Nat → List Value} {w : World} {x : Value} {m i : Nat} (h : BRow T k w x m (marksC mk i 0 m)) : GrowJ T k mk w w x x m i 0 where
  lr := h
  xr := h.rd
  lb := .inl rfl
  kp := Keep.refl _ _

theorem GrowJ.below {T : TypeId} {k : Nat} {mk : Nat → Nat → List Value} {w0 wr w1 : World} {x l : Value} {m i c : Nat} (h : GrowJ T k mk w0 wr x l m i c) (hb : Below wr.heap.size wr w1) : GrowJ T k mk w0 w1 x l m i c where
  lr := h.lr.below hb
  xr := h.xr.below hb
  lb := h.lb
  kp := h.kp.trans (Keep.of_below _ hb)

theorem GrowJ.step {T : TypeId} {k : Nat} {mk : Nat → Nat → List Value} {w0 wr w1 w6 : World} {x l v6 : Value} {m i c d : Nat} (h : GrowJ T k mk w0 wr x l m i c) (hb : Below wr.heap.size wr w1) (hxl : ∀ g, x.ownBlock = some g → g < w0.heap.size)
    (h6 : BRow T k w6 v6 (m + c + d) (marksC mk i 0 (m + c) ++ marksC mk i (m + c) d)) (hold : BRow T k w6 l (m + c) (marksC mk i 0 (m + c))) (k6 : Keep (fun g => l.ownBlock = some g) w1 w6) (o6 : v6.ownBlock = l.ownBlock ∨ v6.ownBlock = some w1.heap.size) :
    GrowJ T k mk w0 w6 x v6 m i (c + d) where
  lr := by rw [marksC_app] at h6; rw [← Nat.add_assoc]; exact h6
  xr := by
    rcases h.lb with hb' | ⟨q, hq, hqw⟩
    · exact RowR.same hold h.xr hb'.symm (fun j u hj => marksC_pre mk i m c j u hj)
    · refine (h.xr.below hb).keep k6 fun g hg he => ?_
      rw [hq] at he; cases he
      have := hxl q hg; omega
  lb := by
    rcases o6 with o6 | o6
    · rw [o6]; exact h.lb
    · exact .inr ⟨_, o6, Nat.le_trans h.kp.size hb.size⟩
  kp := (h.kp.trans (Keep.of_below _ hb)).transM k6 (fun _ _ h => h) (fun g hg he => by
    rcases h.lb with hb' | ⟨q, hq, hqw⟩
    · rw [← hb']; exact he
    · rw [hq] at he; cases he; omega)

/-- What a growing leaves. -/
structure GrowI (T TS : TypeId) (k : Nat) (mk : Nat → Nat → List Value) (w wr : World) (out : Value) (n : Nat) (X : Nat → Value) (m : Nat → Nat) (G : Nat → Value) (i : Nat) : Prop where
  o : BRow TS 1 wr out i ((List.range i).map G)
  g : ∀ j, j < i → BRow T k wr (G j) (m j + 72) (marksC mk j 0 (m j + 72))
  x : ∀ j, j < n → RowR wr (X j) (m j) (marksC mk j 0 (m j))
  y : ∀ j, i ≤ j → j < n → BRow T k wr (X j) (m j) (marksC mk j 0 (m j))
  gb : ∀ j, j < i → ∀ q, (G j).ownBlock = some q → (X j).ownBlock = some q ∨ w.heap.size ≤ q
  ob : ∀ q, out.ownBlock = some q → w.heap.size ≤ q
  kp : Keep (fun g => ∃ j, j < n ∧ (X j).ownBlock = some g) w wr

section
variable {T TS : TypeId} {k : Nat} {mk : Nat → Nat → List Value} {w wr : World} {v out : Value} {n : Nat} {X G : Nat → Value} {m : Nat → Nat} {i : Nat}

theorem GrowI.start (h : XV T TS k w v n X m (fun i => marksC mk i 0 (m i))) : GrowI T TS k mk w w nilS n X m G 0 where
  o := BRow.nil _ _ _
  g := fun j hj => absurd hj (Nat.not_lt_zero _)
  x := fun j hj => (h.e j hj).rd
  y := fun j _ hj => h.e j hj
  gb := fun j hj => absurd hj (Nat.not_lt_zero _)
  ob := fun q hq => by cases hq
  kp := Keep.refl _ _

theorem GrowI.step (h0 : XV T TS k w v n X m (fun i => marksC mk i 0 (m i))) (hT : TS ≠ T) (h : GrowI T TS k mk w wr out n X m G i) (hi : i < n) {w6 w7 w8 : World} {l o8 : Value} (hj : GrowJ T k mk wr w6 (X i) l (m i) i 72) (hb : Below w6.heap.size w6 w7)
    (h8 : BRow TS 1 w8 o8 (i + 1) ((List.range i).map G ++ [l])) (k8 : Keep (fun g => out.ownBlock = some g) w7 w8) (e8 : o8.ownBlock = out.ownBlock ∨ o8.ownBlock = some w7.heap.size) : GrowI T TS k mk w w8 o8 n X m (upN G i l) (i + 1) := by
  have hxl : ∀ j, j < n → ∀ g, (X j).ownBlock = some g → g < w.heap.size := fun j hj g hg => ((h0.e j hj).blk hg).1
  have hwr := h.kp.size
  have hw6 := hj.kp.size
  have hw7 := hb.size
  have ho7 : BRow TS 1 w7 out i ((List.range i).map G) := (h.o.keep hj.kp (fun q hq he => by have := h.ob q hq; have := hxl i hi q he; omega)).below hb
  have hg7 : ∀ j, j < i → BRow T k w7 (G j) (m j + 72) (marksC mk j 0 (m j + 72)) := fun j hji => ((h.g j hji).keep hj.kp (fun q hq he => by
    rcases h.gb j hji q hq with h1 | h1
    · exact h0.ne j i (by omega) hi (by omega) q h1 he
    · have := hxl i hi q he; omega)).below hb
  have hl7 := hj.lr.below hb
  have hx6 : ∀ j, j < n → RowR w6 (X j) (m j) (marksC mk j 0 (m j)) := fun j hjn => by
    by_cases hji : j = i
    · subst hji; exact hj.xr
    · exact (h.x j hjn).keep hj.kp fun q hq he => h0.ne j i hjn hi hji q hq he
  refine ⟨?_, ?_, ?_, ?_, ?_, ?_, ?_⟩
  · have e : (List.range (i + 1)).map (upN G i l) = (List.range i).map G ++ [l] := by
      rw [List.range_succ, List.map_append]
      congr 1
      · exact List.map_congr_left fun j hj => upN_ne G l (Nat.ne_of_lt (List.mem_range.1 hj))
      · simp [upN_same]
    rw [e]; exact h8
  · intro j hj1
    by_cases hji : j = i
    · subst hji; rw [upN_same]
      exact hl7.keep k8 fun q hq he => row_ne ho7 hl7 hT q he hq
    · rw [upN_ne G l hji]
      exact (hg7 j (by omega)).keep k8 fun q hq he => row_ne ho7 (hg7 j (by omega)) hT q he hq
  · intro j hjn
    exact ((hx6 j hjn).below hb).keep k8 fun q hq he => by have := hxl j hjn q hq; have := h.ob q he; omega
  · intro j hj1 hjn
    exact (((h.y j (by omega) hjn).keep hj.kp fun q hq he => h0.ne j i hjn hi (by omega) q hq he).below hb).keep k8 fun q hq he => by have := hxl j hjn q hq; have := h.ob q he; omega
  · intro j hj1 q hq
    by_cases hji : j = i
    · subst hji; rw [upN_same] at hq
      rcases hj.lb with h1 | ⟨q', h1, h2⟩
      · rw [h1] at hq; exact .inl hq
      · rw [h1] at hq; cases hq; exact .inr (by omega)
    · rw [upN_ne G l hji] at hq
      exact h.gb j (by omega) q hq
  · intro q hq
    rcases e8 with e8 | e8
    · rw [e8] at hq; exact h.ob q hq
    · rw [e8] at hq; cases hq; omega
  · have k1 : Keep (fun g => ∃ j, j < n ∧ (X j).ownBlock = some g) w w7 := (h.kp.transM hj.kp (fun _ _ h => h) (fun g _ he => ⟨i, hi, he⟩)).trans (Keep.of_below _ hb)
    exact k1.transM k8 (fun _ _ h => h) (fun g hg he => by have := h.ob g he; omega)
end

/-- The first half of one more list: the row of lists has grown. -/
structure Add1 (T TS : TypeId) (k : Nat) (D : KD) (w3 : World) (v x : Value) (mx : Nat) (cx : List Value) : Prop where
  xv : XV T TS k w3 v (D.n + 1) (upN D.X D.n x) (upN D.m D.n mx) (upN D.cs D.n cx)
  yv : XV T TS k w3 D.v2 D.n D.Y D.m D.ds
  xr : BRow T k w3 x mx cx
  nv : ∀ g, v.ownBlock = some g → D.v2.ownBlock = some g → False
  nx : ∀ i j, i < D.n + 1 → j < D.n → ∀ g, (upN D.X D.n x i).ownBlock = some g → (D.Y j).ownBlock = some g → False
  le : ∀ i, i < D.n + 1 → upN D.m D.n mx i ≤ 100000
  hn : D.n + 1 ≤ 250

section
variable {T TS : TypeId} {k : Nat} {w w3 w' : World} {D : KD} {v x : Value} {mx : Nat} {cx : List Value}
theorem add1 (h : ShelfV T TS k w D) (hT : TS ≠ T) (hx : BRow T k w x mx cx) (hxs : ∀ g, x.ownBlock = some g → ¬ D.Has g) (hr : BRow TS 1 w3 v (D.n + 1) ((List.range D.n).map D.X ++ [x])) (hk : Keep (fun g => D.v1.ownBlock = some g) w w3)
    (ho : v.ownBlock = D.v1.ownBlock ∨ v.ownBlock = some w.heap.size) (hmx : mx ≤ 100000) (hroom : D.n < 250) : Add1 T TS k D w3 v x mx cx where
  xv := h.x.add hT hx (fun i hi g h1 h2 => hxs g h1 (.inl (.inr ⟨i, hi, h2⟩))) hr hk
  yv := h.y.keep hk (fun g hg he => by
    rcases hg with hg | ⟨j, hj, hg⟩
    · exact h.nv g he hg
    · exact row_ne h.x.r (h.y.e j hj) hT g he hg)
  xr := hx.keep hk (fun g hg he => row_ne h.x.r hx hT g he hg)
  nv := fun g h1 h2 => by
    rcases ho with ho | ho
    · rw [ho] at h1; exact h.nv g h1 h2
    · rw [ho] at h1; cases h1
      have := (h.y.r.blk h2).1; omega
  nx := fun i j hi hj g h1 h2 => by
    by_cases hin : i = D.n
    · subst hin; rw [upN_same] at h1; exact hxs g h1 (.inr (.inr ⟨j, hj, h2⟩))
    · rw [upN_ne _ _ hin] at h1; exact h.nx i j (by omega) hj g h1 h2
  le := fun i hi => by
    by_cases hin : i = D.n
    · subst hin; rw [upN_same]; exact hmx
    · rw [upN_ne _ _ hin]; exact h.le i (by omega)
  hn := hroom
theorem Add1.keep {Z : Nat → Prop} (h : Add1 T TS k D w3 v x mx cx) (hk : Keep Z w3 w') (hs : ∀ g, XHas v (D.n + 1) (upN D.X D.n x) g ∨ XHas D.v2 D.n D.Y g → ¬ Z g) : Add1 T TS k D w' v x mx cx where
  xv := h.xv.keep hk fun g hg => hs g (.inl hg)
  yv := h.yv.keep hk fun g hg => hs g (.inr hg)
  xr := h.xr.keep hk fun g hg => hs g (.inl (.inr ⟨D.n, Nat.lt_succ_self _, by rw [upN_same]; exact hg⟩))
  nv := h.nv
  nx := h.nx
  le := h.le
  hn := h.hn
theorem Add1.below (h : Add1 T TS k D w3 v x mx cx) (hb : Below w3.heap.size w3 w') : Add1 T TS k D w' v x mx cx := h.keep (Keep.of_below (fun _ => False) hb) (fun _ _ h => h)

/-- The second half: so has the row of copies. -/
theorem Add1.add2 (h : Add1 T TS k D w v x mx cx) (hT : TS ≠ T) {w5 w6 w7 : World} {y v2 : Value} {cy : List Value} (hy : BRow T k w5 y mx cy) (hyb : Below w.heap.size w w5) (hyf : ∀ g, y.ownBlock = some g → w.heap.size ≤ g) (hb : Below w5.heap.size w5 w6)
    (hr : BRow TS 1 w7 v2 (D.n + 1) ((List.range D.n).map D.Y ++ [y])) (hk : Keep (fun g => D.v2.ownBlock = some g) w6 w7) (ho : v2.ownBlock = D.v2.ownBlock ∨ v2.ownBlock = some w6.heap.size) :
    ShelfV T TS k w7 ⟨v, v2, D.n + 1, upN D.X D.n x, upN D.Y D.n y, upN D.m D.n mx, upN D.cs D.n cx, upN D.ds D.n cy⟩ := by
  have h6 := (h.below hyb).below hb
  have hy6 := hy.below hb
  have hs : w.heap.size ≤ w6.heap.size := Nat.le_trans hyb.size hb.size
  refine ⟨?_, ?_, ?_, ?_, h.le, h.hn⟩
  · refine h6.xv.keep hk fun g hg he => ?_
    rcases hg with hg | ⟨i, hi, hg⟩
    · exact h.nv g hg he
    · exact row_ne h6.yv.r (h6.xv.e i hi) hT g he hg
  · exact h6.yv.add hT hy6 (fun i hi g h1 h2 => by have := hyf g h1; have := ((h.yv.e i hi).blk h2).1; omega) hr hk
  · intro g h1 h2
    simp only at h1 h2
    rcases ho with ho | ho
    · rw [ho] at h2; exact h.nv g h1 h2
    · rw [ho] at h2; cases h2
      have := (h.xv.r.blk h1).1; omega
  · intro i j hi hj g h1 h2
    simp only at hi hj h1 h2
    by_cases hjn : j = D.n
    · subst hjn; rw [upN_same] at h2
      have := hyf g h2; have := ((h.xv.e i hi).blk h1).1; omega
    · rw [upN_ne _ _ hjn] at h2
      exact h.nx i j hi (by omega) g h1 h2
end
end Go.Tg
