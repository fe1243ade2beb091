import Derived.Test.YtignponfoheaeaaGreatA1
import Derived.Test.YtignponfoheaeaaGreatBO8
/- A book of lists of options alone. -/
namespace Go.Proofs.YtignponfoheaeaaGreat
open Go.RowKit Go.Tg Go.Maps

structure BookO (w : World) (bb : Nat) (D : KD) : Prop where
  blk : w.heap[bb]? = some (.cells (bookC nilS nilS D.v1 D.v2 nilS nilS) 42 (0, 0))
  i : ShelfV 91 62 2 w D
  eqs : ∀ i, i < D.n → ∃ xs : List Opt, xs.length = D.m i ∧ D.cs i = oV xs ∧ D.ds i = oV xs

section
variable {w w' : World} {bb : Nat} {D : KD}
theorem BookO.lt (h : BookO w bb D) : bb < w.heap.size := (Array.getElem?_eq_some_iff.1 h.blk).1
theorem BookO.no (h : BookO w bb D) : ¬ D.Has bb := fun hg => by
  obtain ⟨cur, e | e⟩ := h.i.type hg
  · rw [h.blk] at e; cases e
  · rw [h.blk] at e; cases e
theorem BookO.keep {Z : Nat → Prop} (h : BookO w bb D) (hk : Keep Z w w') (hb : ¬ Z bb) (hs : ∀ g, D.Has g → ¬ Z g) : BookO w' bb D := ⟨(hk.block bb h.lt hb).trans h.blk, h.i.keep hk hs, h.eqs⟩
theorem BookO.below (h : BookO w bb D) (hb : Below w.heap.size w w') : BookO w' bb D := h.keep (Keep.of_below (fun _ => False) hb) (fun h => h) (fun _ _ h => h)

/-- What is marked. -/
structure MarkO (w : World) (bb : Nat) (D : KD) : Prop where
  blk : w.heap[bb]? = some (.cells (bookC nilS nilS D.v1 D.v2 nilS nilS) 42 (0, 0))
  x : XV 91 62 2 w D.v1 D.n D.X D.m (fun i => marksC mkO i 0 (D.m i))
/-- What is grown. -/
structure GrownO (w : World) (bb : Nat) (D : KD) (g : Value) : Prop where
  blk : w.heap[bb]? = some (.cells (bookC nilS nilS D.v1 D.v2 nilS nilS) 42 (0, 0))
  g : ∃ G, RowR w g D.n ((List.range D.n).map G) ∧ ∀ i, i < D.n → RowR w (G i) (D.m i + 72) (marksC mkO i 0 (D.m i + 72))
  x : RowR w D.v1 D.n ((List.range D.n).map D.X) ∧ ∀ i, i < D.n → RowR w (D.X i) (D.m i) (marksC mkO i 0 (D.m i))
theorem GrownO.below {g : Value} (h : GrownO w bb D g) (hb : Below w.heap.size w w') : GrownO w' bb D g where
  blk := (hb.block bb (Array.getElem?_eq_some_iff.1 h.blk).1).trans h.blk
  g := by
    obtain ⟨G, h1, h2⟩ := h.g
    exact ⟨G, h1.below hb, fun i hi => (h2 i hi).below hb⟩
  x := ⟨h.x.1.below hb, fun i hi => (h.x.2 i hi).below hb⟩

theorem apartO (h : BookO w bb D) : Calls Tryz.prog 13 #[.pointer (some ⟨bb, 0, none⟩)] w fun e w' => e = .returned (.bool true) ∧ Keep D.Has w w' := by
  have hle := h.i.le
  have hn := h.i.hn
  have hno := h.no
  obtain ⟨v1, v2, n, X, Y, m, cs, ds⟩ := D
  simp only at hle hn
  obtain ⟨s1, k1, e1, -, -⟩ := h.i.x.r.form
  simp only at e1
  subst e1
  have hne : ∀ i, i < n → (X i).ownBlock ≠ some bb := fun i hi he => hno (.inl (.inr ⟨i, hi, he⟩))
  have hv1 : (Value.slice s1 n k1).ownBlock ≠ some bb := fun he => hno (.inl (.inl he))
  obtain ⟨w0, hw0⟩ : ∃ w0, w0 = w := ⟨_, rfl⟩
  have HH : ApartH bb (.slice none 0 0) nilS (.slice s1 n k1) v2 (.slice none 0 0) nilS (fun w => BookO w bb ⟨.slice s1 n k1, v2, n, X, Y, m, cs, ds⟩ ∧ Keep (KD.Has ⟨.slice s1 n k1, v2, n, X, Y, m, cs, ds⟩) w0 w) (fun w => BookO w bb ⟨.slice s1 n k1, v2, n, X, Y, m, cs, ds⟩ ∧ Keep (KD.Has ⟨.slice s1 n k1, v2, n, X, Y, m, cs, ds⟩) w0 w)
      (fun w => BookO w bb ⟨.slice s1 n k1, v2, n, X, Y, m, cs, ds⟩ ∧ Keep (KD.Has ⟨.slice s1 n k1, v2, n, X, Y, m, cs, ds⟩) w0 w) (fun w => MarkO w bb ⟨.slice s1 n k1, v2, n, X, Y, m, cs, ds⟩ ∧ Keep (KD.Has ⟨.slice s1 n k1, v2, n, X, Y, m, cs, ds⟩) w0 w) (fun g w => g = .slice none 0 0 ∧ MarkO w bb ⟨.slice s1 n k1, v2, n, X, Y, m, cs, ds⟩ ∧ Keep (KD.Has ⟨.slice s1 n k1, v2, n, X, Y, m, cs, ds⟩) w0 w)
      (fun g o w => g = .slice none 0 0 ∧ GrownO w bb ⟨.slice s1 n k1, v2, n, X, Y, m, cs, ds⟩ o ∧ Keep (KD.Has ⟨.slice s1 n k1, v2, n, X, Y, m, cs, ds⟩) w0 w) (fun g o p w => g = .slice none 0 0 ∧ p = .slice none 0 0 ∧ GrownO w bb ⟨.slice s1 n k1, v2, n, X, Y, m, cs, ds⟩ o ∧ Keep (KD.Has ⟨.slice s1 n k1, v2, n, X, Y, m, cs, ds⟩) w0 w) := {
    b0 := fun w h => h.1.blk
    b1 := fun w h => h.1.blk
    b2 := fun w h => h.1.blk
    b3 := fun w h => h.1.blk
    b4 := fun _ w h => h.2.1.blk
    b5 := fun _ _ w h => h.2.1.blk
    b6 := fun _ _ _ w h => h.2.2.1.blk
    sI := fun w h => (stillInts_nil bb w (bcell h.1.blk 2 _ rfl)).mono fun e w' h' => ⟨h'.1, h'.2 ▸ h⟩
    sO := fun w h => (stillO_any _ bb w h.1.i (bcell h.1.blk 8 _ rfl) (bcell h.1.blk 9 _ rfl) h.1.lt h.1.eqs).mono fun e w' h' => ⟨h'.1, h.1.below h'.2, h.2.trans (Keep.of_below _ h'.2)⟩
    sP := fun w h => (stillPackets_nil bb w (bcell h.1.blk 10 _ rfl)).mono fun e w' h' => ⟨h'.1, h'.2 ▸ h⟩
    pP := fun w h => (putPackets_nil bb w (bcell h.1.blk 10 _ rfl)).mono fun e w' h' => ⟨⟨_, h'.1⟩, h'.2 ▸ h⟩
    pI := fun w h => (putInts_nil bb w (bcell h.1.blk 2 _ rfl)).mono fun e w' h' => ⟨⟨_, h'.1⟩, h'.2 ▸ h⟩
    pO := fun w h => (putO_any _ n X m cs bb w h.1.i.x (bcell h.1.blk 8 _ rfl) h.1.lt hv1 hne hn hle).mono fun e w' h' =>
      ⟨h'.1, ⟨(h'.2.kp.block bb h.1.lt (fun ⟨j, hj, he⟩ => hne j hj he)).trans h.1.blk, h'.2.x.cong (fun i hi => by unfold mixC; rw [if_pos hi])⟩, h.2.transM h'.2.kp (fun _ _ h => h) (fun g _ ⟨j, hj, he⟩ => .inl (.inr ⟨j, hj, he⟩))⟩
    gI := fun w h => (growInts_nil bb w (bcell h.1.blk 2 _ rfl)).mono fun e w' h' => ⟨_, h'.1, rfl, h'.2 ▸ h⟩
    gO := fun g w h => (growO_any _ n X m bb w h.2.1.x (bcell h.2.1.blk 8 _ rfl) (Array.getElem?_eq_some_iff.1 h.2.1.blk).1 hne hn hle).mono fun e w' h' => by
      obtain ⟨out, G, he, hg⟩ := h'
      refine ⟨out, he, h.1, ⟨(hg.kp.block bb (Array.getElem?_eq_some_iff.1 h.2.1.blk).1 (fun ⟨j, hj, he⟩ => hne j hj he)).trans h.2.1.blk, ⟨G, hg.o.rd, fun i hi => (hg.g i hi).rd⟩, ?_, hg.x⟩, h.2.2.transM hg.kp (fun _ _ h => h) (fun g _ ⟨j, hj, he⟩ => .inl (.inr ⟨j, hj, he⟩))⟩
      exact h.2.1.x.r.rd.keep hg.kp fun q hq ⟨j, hj, he⟩ => h.2.1.x.rowNe opts_ne j hj q hq he
    gP := fun g o w h => (growPackets_nil bb w (bcell h.2.1.blk 10 _ rfl)).mono fun e w' h' => ⟨_, h'.1, h.1, rfl, h'.2 ▸ h.2⟩
    mI := fun g o p w h => by
      obtain ⟨rfl, h2, h3⟩ := h
      exact (markedInts_nil w).mono fun e w' h' => ⟨h'.1, rfl, h2, h'.2 ▸ h3⟩
    mI' := fun g o p w h => (markedInts_nil w).mono fun e w' h' => ⟨h'.1, h'.2 ▸ h⟩
    mO := fun g o p w h => by
      obtain ⟨h1, h2, h3, h6⟩ := h
      obtain ⟨G, h4, h5⟩ := h3.g
      exact (markedO_any o n G (fun i => m i + 72) w h4 hn (fun i hi => ⟨h5 i hi, show m i + 72 ≤ 200000 from by have := hle i hi; omega⟩)).mono fun e w' h' => ⟨h'.1, h1, h2, h3.below h'.2, h6.trans (Keep.of_below _ h'.2)⟩
    mO' := fun g o p w h => by
      obtain ⟨h1, h2, h3, h6⟩ := h
      exact (markedO_any _ n X m w h3.x.1 hn (fun i hi => ⟨h3.x.2 i hi, by have := hle i hi; omega⟩)).mono fun e w' h' => ⟨h'.1, h1, h2, h3.below h'.2, h6.trans (Keep.of_below _ h'.2)⟩
    mP := fun g o p w h => by
      obtain ⟨h1, rfl, h3⟩ := h
      exact (markedPackets_nil w).mono fun e w' h' => ⟨h'.1, h1, rfl, h'.2 ▸ h3⟩
    mP' := fun g o p w h => (markedPackets_nil w).mono fun e w' h' => ⟨h'.1, h'.2 ▸ h⟩ }
  subst hw0
  exact (apart_any (Lib.hid HH) w0 (Lib.hid ⟨h, Keep.refl _ _⟩)).mono fun e w' h' => ⟨h'.1, by obtain ⟨_, _, _, _, _, _, h⟩ := h'.2; exact h⟩
end

theorem BookO.new {w : World} {bb : Nat} (h : w.heap[bb]? = some (.cells (bookC nilS nilS nilS nilS nilS nilS) 42 (0, 0))) : BookO w bb KD.nil := ⟨h, ShelfV.nil _ _ _ _, fun _ hi => absurd hi (Nat.not_lt_zero _)⟩

set_option maxHeartbeats 1000000 in
set_option maxRecDepth 100000 in
theorem addO_full (bb : Nat) (x : Value) (sa : Option Addr) (n c : Nat) (w : World) (c1 : w.cell? ⟨bb, 8, none⟩ = some (.slice sa n c)) (hn : 250 ≤ n) :
    Calls Tryz.prog 35 #[.pointer (some ⟨bb, 0, none⟩), x] w fun e w' => (∃ r, e = .returned r) ∧ w = w' := by
  go_enter Tryz.func35, Tryz.ntmps35
  go_wp2_with fail
  go_end0
  exact ⟨⟨_, rfl⟩, rfl⟩

/-- One more list in the book (if there is room). -/
structure BookAddO (w w' : World) (bb : Nat) (D D' : KD) (x : Value) : Prop where
  b : BookO w' bb D'
  kp : Keep (fun g => g = bb ∨ D.Has g) w w'
  has : ∀ g, D'.Has g → D.Has g ∨ x.ownBlock = some g ∨ (w.heap.size ≤ g ∧ g < w'.heap.size)

theorem bookO_add {w : World} {bb : Nat} {D : KD} {x : Value} {xs : List Opt} (h : BookO w bb D) (hx : BRow 91 2 w x xs.length (oV xs)) (hl : xs.length ≤ 1000) (hxs : ∀ g, x.ownBlock = some g → ¬ D.Has g) (hbx : x.ownBlock ≠ some bb) :
    Calls Tryz.prog 35 #[.pointer (some ⟨bb, 0, none⟩), x] w fun e w' => (∃ r, e = .returned r) ∧ ∃ D', BookAddO w w' bb D D' x := by
  by_cases hr : D.n < 250
  · refine (addO_any D x xs.length (oV xs) bb _ 42 w h.i hx (oV_one _) (by omega) hxs h.blk rfl rfl h.no hbx hr).mono ?_
    rintro e w' ⟨he, v1, v2, y, ha⟩
    refine ⟨he, _, ⟨ha.b, ha.s, ?_⟩, ha.kp.mono ?_, ha.has⟩
    · intro i hi
      simp only at hi ⊢
      by_cases hin : i = D.n
      · subst hin; rw [upN_same, upN_same, upN_same]; exact ⟨xs, rfl, rfl, rfl⟩
      · rw [upN_ne _ _ hin, upN_ne _ _ hin, upN_ne _ _ hin]; exact h.eqs i (by omega)
    · intro k _ hk
      rcases hk with hk | hk | hk
      · exact .inl hk
      · exact .inr (.inl (.inl hk))
      · exact .inr (.inr (.inl hk))
  · obtain ⟨sa, c, e1, -, -⟩ := h.i.x.r.form
    refine (addO_full bb x sa D.n c w ?_ (by omega)).mono ?_
    · rw [← e1]; exact bcell h.blk 8 _ rfl
    · rintro e w' ⟨he, rfl⟩
      exact ⟨he, D, h, Keep.refl _ _, fun g hg => .inl hg⟩
end Go.Proofs.YtignponfoheaeaaGreat
