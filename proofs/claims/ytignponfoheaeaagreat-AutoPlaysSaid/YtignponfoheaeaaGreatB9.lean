import Derived.Test.YtignponfoheaeaaGreatA1
import Derived.Test.YtignponfoheaeaaGreatB8
/- A book of lists of ints alone. -/
namespace Go.Proofs.YtignponfoheaeaaGreat
open Go.RowKit Go.Tg Go.Maps

structure BookI (w : World) (bb : Nat) (D : KD) : Prop where
  blk : w.heap[bb]? = some (.cells (bookC D.v1 D.v2 nilS nilS nilS nilS) 42 (0, 0))
  i : ShelfV 3 43 1 w D
  eqs : ∀ i, i < D.n → ∃ xs : List Int, xs.length = D.m i ∧ D.cs i = iV xs ∧ D.ds i = iV xs

section
variable {w w' : World} {bb : Nat} {D : KD}
theorem BookI.lt (h : BookI w bb D) : bb < w.heap.size := (Array.getElem?_eq_some_iff.1 h.blk).1
theorem BookI.no (h : BookI w bb D) : ¬ D.Has bb := fun hg => by
  obtain ⟨cur, e | e⟩ := h.i.type hg
  · rw [h.blk] at e; cases e
  · rw [h.blk] at e; cases e
theorem BookI.keep {Z : Nat → Prop} (h : BookI w bb D) (hk : Keep Z w w') (hb : ¬ Z bb) (hs : ∀ g, D.Has g → ¬ Z g) : BookI w' bb D := ⟨(hk.block bb h.lt hb).trans h.blk, h.i.keep hk hs, h.eqs⟩
theorem BookI.below (h : BookI w bb D) (hb : Below w.heap.size w w') : BookI w' bb D := h.keep (Keep.of_below (fun _ => False) hb) (fun h => h) (fun _ _ h => h)

/-- What is marked. -/
structure MarkV (w : World) (bb : Nat) (D : KD) : Prop where
  blk : w.heap[bb]? = some (.cells (bookC D.v1 D.v2 nilS nilS nilS nilS) 42 (0, 0))
  x : XV 3 43 1 w D.v1 D.n D.X D.m (fun i => marksC mkI i 0 (D.m i))
/-- What is grown. -/
structure GrownV (w : World) (bb : Nat) (D : KD) (g : Value) : Prop where
  blk : w.heap[bb]? = some (.cells (bookC D.v1 D.v2 nilS nilS nilS nilS) 42 (0, 0))
  g : ∃ G, RowR w g D.n ((List.range D.n).map G) ∧ ∀ i, i < D.n → RowR w (G i) (D.m i + 72) (marksC mkI i 0 (D.m i + 72))
  x : RowR w D.v1 D.n ((List.range D.n).map D.X) ∧ ∀ i, i < D.n → RowR w (D.X i) (D.m i) (marksC mkI i 0 (D.m i))
theorem GrownV.below {g : Value} (h : GrownV w bb D g) (hb : Below w.heap.size w w') : GrownV w' bb D g where
  blk := (hb.block bb (Array.getElem?_eq_some_iff.1 h.blk).1).trans h.blk
  g := by
    obtain ⟨G, h1, h2⟩ := h.g
    exact ⟨G, h1.below hb, fun i hi => (h2 i hi).below hb⟩
  x := ⟨h.x.1.below hb, fun i hi => (h.x.2 i hi).below hb⟩

theorem apartI (h : BookI w bb D) : Calls Tryz.prog 13 #[.pointer (some ⟨bb, 0, none⟩)] w fun e w' => e = .returned (.bool true) ∧ Keep D.Has w w' := by
  have hle := h.i.le
  have hn := h.i.hn
  have hno := h.no
  obtain ⟨v1, v2, n, X, Y, m, cs, ds⟩ := D
  simp only at hle hn
  obtain ⟨s1, k1, e1, -, -⟩ := h.i.x.r.form
  simp only at e1
  subst e1
  have hne : ∀ i, i < n → (X i).ownBlock ≠ some bb := fun i hi he => hno (.inl (.inr ⟨i, hi, he⟩))
  have hv1 : (Value.slice s1 n k1).ownBlock ≠ some bb := fun he => hno (.inl (.inl he))
  obtain ⟨w0, hw0⟩ : ∃ w0, w0 = w := ⟨_, rfl⟩
  have HH : ApartH bb (.slice s1 n k1) v2 (.slice none 0 0) nilS (.slice none 0 0) nilS (fun w => BookI w bb ⟨.slice s1 n k1, v2, n, X, Y, m, cs, ds⟩ ∧ Keep (KD.Has ⟨.slice s1 n k1, v2, n, X, Y, m, cs, ds⟩) w0 w) (fun w => BookI w bb ⟨.slice s1 n k1, v2, n, X, Y, m, cs, ds⟩ ∧ Keep (KD.Has ⟨.slice s1 n k1, v2, n, X, Y, m, cs, ds⟩) w0 w)
      (fun w => MarkV w bb ⟨.slice s1 n k1, v2, n, X, Y, m, cs, ds⟩ ∧ Keep (KD.Has ⟨.slice s1 n k1, v2, n, X, Y, m, cs, ds⟩) w0 w) (fun w => MarkV w bb ⟨.slice s1 n k1, v2, n, X, Y, m, cs, ds⟩ ∧ Keep (KD.Has ⟨.slice s1 n k1, v2, n, X, Y, m, cs, ds⟩) w0 w) (fun g w => GrownV w bb ⟨.slice s1 n k1, v2, n, X, Y, m, cs, ds⟩ g ∧ Keep (KD.Has ⟨.slice s1 n k1, v2, n, X, Y, m, cs, ds⟩) w0 w)
      (fun g o w => o = .slice none 0 0 ∧ GrownV w bb ⟨.slice s1 n k1, v2, n, X, Y, m, cs, ds⟩ g ∧ Keep (KD.Has ⟨.slice s1 n k1, v2, n, X, Y, m, cs, ds⟩) w0 w) (fun g o p w => o = .slice none 0 0 ∧ p = .slice none 0 0 ∧ GrownV w bb ⟨.slice s1 n k1, v2, n, X, Y, m, cs, ds⟩ g ∧ Keep (KD.Has ⟨.slice s1 n k1, v2, n, X, Y, m, cs, ds⟩) w0 w) := {
    b0 := fun w h => h.1.blk
    b1 := fun w h => h.1.blk
    b2 := fun w h => h.1.blk
    b3 := fun w h => h.1.blk
    b4 := fun _ w h => h.1.blk
    b5 := fun _ _ w h => h.2.1.blk
    b6 := fun _ _ _ w h => h.2.2.1.blk
    sI := fun w h => (stillI_any _ bb w h.1.i (bcell h.1.blk 2 _ rfl) (bcell h.1.blk 3 _ rfl) h.1.lt h.1.eqs).mono fun e w' h' => ⟨h'.1, h.1.below h'.2, h.2.trans (Keep.of_below _ h'.2)⟩
    sO := fun w h => (stillOptions_nil bb w (bcell h.1.blk 8 _ rfl)).mono fun e w' h' => ⟨h'.1, h'.2 ▸ h⟩
    sP := fun w h => (stillPackets_nil bb w (bcell h.1.blk 10 _ rfl)).mono fun e w' h' => ⟨h'.1, h'.2 ▸ h⟩
    pP := fun w h => (putPackets_nil bb w (bcell h.1.blk 10 _ rfl)).mono fun e w' h' => ⟨⟨_, h'.1⟩, h'.2 ▸ h⟩
    pI := fun w h => (putI_any _ n X m cs bb w h.1.i.x (bcell h.1.blk 2 _ rfl) h.1.lt hv1 hne hn hle).mono fun e w' h' =>
      ⟨h'.1, ⟨(h'.2.kp.block bb h.1.lt (fun ⟨j, hj, he⟩ => hne j hj he)).trans h.1.blk, h'.2.x.cong (fun i hi => by unfold mixC; rw [if_pos hi])⟩, h.2.transM h'.2.kp (fun _ _ h => h) (fun g _ ⟨j, hj, he⟩ => .inl (.inr ⟨j, hj, he⟩))⟩
    pO := fun w h => (putOptions_nil bb w (bcell h.1.blk 8 _ rfl)).mono fun e w' h' => ⟨⟨_, h'.1⟩, h'.2 ▸ h⟩
    gI := fun w h => (growI_any _ n X m bb w h.1.x (bcell h.1.blk 2 _ rfl) (Array.getElem?_eq_some_iff.1 h.1.blk).1 hne hn hle).mono fun e w' h' => by
      obtain ⟨out, G, he, hg⟩ := h'
      refine ⟨out, he, ⟨(hg.kp.block bb (Array.getElem?_eq_some_iff.1 h.1.blk).1 (fun ⟨j, hj, he⟩ => hne j hj he)).trans h.1.blk, ⟨G, hg.o.rd, fun i hi => (hg.g i hi).rd⟩, ?_, hg.x⟩, h.2.transM hg.kp (fun _ _ h => h) (fun g _ ⟨j, hj, he⟩ => .inl (.inr ⟨j, hj, he⟩))⟩
      exact h.1.x.r.rd.keep hg.kp fun q hq ⟨j, hj, he⟩ => h.1.x.rowNe ints_ne j hj q hq he
    gO := fun g w h => (growOptions_nil bb w (bcell h.1.blk 8 _ rfl)).mono fun e w' h' => ⟨_, h'.1, rfl, h'.2 ▸ h⟩
    gP := fun g o w h => (growPackets_nil bb w (bcell h.2.1.blk 10 _ rfl)).mono fun e w' h' => ⟨_, h'.1, h.1, rfl, h'.2 ▸ h.2⟩
    mI := fun g o p w h => by
      obtain ⟨h1, h2, h3, h6⟩ := h
      obtain ⟨G, h4, h5⟩ := h3.g
      exact (markedI_any g n G (fun i => m i + 72) w h4 hn (fun i hi => ⟨h5 i hi, show m i + 72 ≤ 200000 from by have := hle i hi; omega⟩)).mono fun e w' h' => ⟨h'.1, h1, h2, h3.below h'.2, h6.trans (Keep.of_below _ h'.2)⟩
    mI' := fun g o p w h => by
      obtain ⟨h1, h2, h3, h6⟩ := h
      exact (markedI_any _ n X m w h3.x.1 hn (fun i hi => ⟨h3.x.2 i hi, by have := hle i hi; omega⟩)).mono fun e w' h' => ⟨h'.1, h1, h2, h3.below h'.2, h6.trans (Keep.of_below _ h'.2)⟩
    mO := fun g o p w h => by
      obtain ⟨rfl, h2, h3⟩ := h
      exact (markedOptions_nil w).mono fun e w' h' => ⟨h'.1, rfl, h2, h'.2 ▸ h3⟩
    mO' := fun g o p w h => (markedOptions_nil w).mono fun e w' h' => ⟨h'.1, h'.2 ▸ h⟩
    mP := fun g o p w h => by
      obtain ⟨h1, rfl, h3⟩ := h
      exact (markedPackets_nil w).mono fun e w' h' => ⟨h'.1, h1, rfl, h'.2 ▸ h3⟩
    mP' := fun g o p w h => (markedPackets_nil w).mono fun e w' h' => ⟨h'.1, h'.2 ▸ h⟩ }
  subst hw0
  exact (apart_any (Lib.hid HH) w0 (Lib.hid ⟨h, Keep.refl _ _⟩)).mono fun e w' h' => ⟨h'.1, by obtain ⟨_, _, _, _, _, _, h⟩ := h'.2; exact h⟩
end
end Go.Proofs.YtignponfoheaeaaGreat
