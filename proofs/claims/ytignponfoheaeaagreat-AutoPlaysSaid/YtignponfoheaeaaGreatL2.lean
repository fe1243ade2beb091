import Derived.Test.YtignponfoheaeaaGreatL1
import Derived.OpenShut
import Derived.Deep.Slices
/- AutoPlays, walked. -/
namespace Go.Proofs.YtignponfoheaeaaGreat
open Go.RowKit Go.Tg Go.Maps

/-- A list of ints that came in. -/
def ArgI (w : World) (a : Option Addr) (len : Nat) (zs : Nat → Int) : Prop :=
  ∀ i, i < len → ∃ b off, a = some ⟨b, off, none⟩ ∧ b < w.heap.size ∧ w.cell? ⟨b, off + i, none⟩ = some (.int .i64 (zs i)) ∧ (Lit.int .i64 (zs i)).wf = true

theorem argI_of {H : Type} {enc : TypeId × Value → H} {w : World} {base : Nat} {spare : Nat → Bool} {held : Bool} {fuel : Nat} {a : Option Addr} {len cap : Nat} {x : DataW H × List MemPlace}
    (h : DataW.trod enc Tryz.prog w base spare held fuel 43 [.slice a len cap] = some x) : ∃ zs, ArgI w a len zs := by
  have c3 : Tryz.prog.cellsOf 3 = 1 := by kernel_rfl
  rcases Go.Deep.open_slice Tryz.underlying43 h with ⟨hcs, _⟩ | ⟨p, l, c, m, n, D, Pl, hcs, hb, hl, hm, hmm, hx, hi⟩
  · simp at hcs
    obtain ⟨rfl, rfl, rfl⟩ := hcs
    exact ⟨fun _ => 0, fun i hi => absurd hi (Nat.not_lt_zero _)⟩
  · simp at hcs
    obtain ⟨rfl, rfl, rfl⟩ := hcs
    have hlm : len ≤ m := by rw [hmm]; split <;> omega
    rw [c3] at hi
    have key : ∀ i, i < len → ∃ o : Int, w.cell? (p.add i) = some (.int .i64 o) ∧ (Lit.int .i64 o).wf = true := by
      intro i hil
      obtain ⟨cs', hc, ht⟩ := hi i (by omega)
      obtain ⟨_, hcl, hat⟩ := World.cells?_some hc
      obtain ⟨v0, rfl⟩ : ∃ v, cs' = [v] := by
        match cs', hcl with
        | [v], _ => exact ⟨v, rfl⟩
      have e0 := hat 0 (by omega)
      rw [Go.Deep.add_add] at e0
      obtain ⟨k0, hk0, -, hw0⟩ := DataW.trod_int Tryz.underlying3 ht
      simp only [List.cons.injEq, and_true] at hk0
      subst hk0
      refine ⟨k0, ?_, hw0⟩
      rw [Nat.mul_one, Nat.add_zero] at e0
      exact e0
    by_cases hz : len = 0
    · exact ⟨fun _ => 0, fun i hi => by omega⟩
    obtain ⟨o0, h0, -⟩ := key 0 (by omega)
    obtain ⟨bb, off, spot⟩ := p
    have hn : spot = none := by
      cases spot with
      | none => rfl
      | some s =>
        exfalso
        simp only [Addr.add, World.cell?, if_true, Option.isSome_some] at h0
        split at h0 <;> cases h0
    subst hn
    have key2 : ∀ i, ∃ o : Int, i < len → w.cell? ⟨bb, off + i, none⟩ = some (.int .i64 o) ∧ (Lit.int .i64 o).wf = true := by
      intro i
      by_cases hil : i < len
      · obtain ⟨o, h1, h2⟩ := key i hil
        rw [Addr.add_lit] at h1
        exact ⟨o, fun _ => ⟨h1, h2⟩⟩
      · exact ⟨0, fun h => absurd h hil⟩
    refine ⟨fun i => (key2 i).choose, fun i hil => ?_⟩
    have hk := (key2 i).choose_spec hil
    exact ⟨bb, off, rfl, World.block_lt_of_cell? w ⟨bb, off + i, none⟩ hk.1, hk.1, hk.2⟩

theorem look_all (P : Int × List Int → Prop) (l : List Go.Tg.Row) (hl : ∀ r ∈ l, P r.2.2) (s e : Int) : ∀ y, lookupL l s e = some y → P y := by
  induction l with
  | nil => intro y h; cases h
  | cons r l ih =>
    intro y hy
    simp only [lookupL, List.foldr_cons, Tab.put] at hy
    split at hy
    · cases hy; exact hl r (List.mem_cons_self ..)
    · exact ih (fun r' h' => hl r' (List.mem_cons_of_mem _ h')) y hy
theorem nx_bd (s e : Int) (h : 0 ≤ s ∧ s ≤ 9) : 0 ≤ nextS s e ∧ nextS s e ≤ 9 := by
  unfold nextS
  cases hf : nextF s e with
  | none => exact h
  | some y =>
    unfold nextF at hf
    cases ha : lookupL answeredL s e with
    | some y2 =>
      rw [ha] at hf; simp at hf; subst hf
      exact look_all (fun r => 0 ≤ r.1 ∧ r.1 ≤ 9) answeredL (by decide) s e _ ha
    | none =>
      rw [ha] at hf; simp at hf
      exact look_all (fun r => 0 ≤ r.1 ∧ r.1 ≤ 9) calledL (by decide) s e _ hf
theorem tm_bd (s c : Int) (h : 0 ≤ s ∧ s ≤ 9) : 0 ≤ tmoS s c ∧ tmoS s c ≤ 9 := by
  unfold tmoS
  split
  · exact nx_bd s _ h
  · exact h
theorem tm_le (s c : Int) : (tmoL s c).length ≤ 3 := by
  unfold tmoL
  split
  · exact nextL_le _ _
  · simp

structure PlaysI (w wr : World) (h0 ab rb bb : Nat) (cf tm s c : Int) (D : KD) : Prop where
  aut : AutoAt wr ab s c cf tm
  ref : RAt wr rb s c cf tm
  bk : BookI wr bb D
  hD : ∀ g, D.Has g → h0 ≤ g
  bl : Below w.heap.size w wr
  lt : w.heap.size ≤ ab ∧ ab < h0 ∧ w.heap.size ≤ rb ∧ rb < h0 ∧ w.heap.size ≤ bb ∧ bb < h0 ∧ ab ≠ rb ∧ ab ≠ bb ∧ rb ≠ bb
  hs : h0 ≤ wr.heap.size
  ib : InB c
  ss : 0 ≤ s ∧ s ≤ 9

theorem PlaysI.below {w wr w' : World} {h0 ab rb bb : Nat} {cf tm s c : Int} {D : KD} (h : PlaysI w wr h0 ab rb bb cf tm s c D) (hb : Below wr.heap.size wr w') : PlaysI w w' h0 ab rb bb cf tm s c D :=
  { h with aut := h.aut.below hb, ref := h.ref.below hb, bk := h.bk.below hb, bl := h.bl.trans (hb.mono h.bl.size), hs := Nat.le_trans h.hs hb.size }

theorem PlaysI.add {w wr w' : World} {h0 ab rb bb : Nat} {cf tm s c : Int} {D D' : KD} {x : Value} (h : PlaysI w wr h0 ab rb bb cf tm s c D) (hx : ∀ g, x.ownBlock = some g → h0 ≤ g) (ha : BookAdd wr w' bb D D' x) : PlaysI w w' h0 ab rb bb cf tm s c D' := by
  obtain ⟨l1, l2, l3, l4, l5, l6, l7, l8, l9⟩ := h.lt
  have hhs := h.hs
  have hbs := h.bl.size
  refine { h with aut := h.aut.keep ha.kp ?_, ref := h.ref.keep ha.kp ?_, bk := ha.b, hD := fun g hg => ?_, bl := h.bl.trans (ha.kp.below h.bl.size fun g hg he => ?_), hs := Nat.le_trans h.hs ha.kp.size }
  · rintro (he | he)
    · exact l8 he
    · have := h.hD _ he; omega
  · rintro (he | he)
    · exact l9 he
    · have := h.hD _ he; omega
  · rcases ha.has g hg with h1 | h1 | h1
    · exact h.hD g h1
    · exact hx g h1
    · omega
  · rcases he with he | he
    · omega
    · have := h.hD g he; omega

/-- Both have turned. -/
theorem PlaysI.turn {w wr w2 w3 : World} {h0 ab rb bb : Nat} {cf tm s c s' c' : Int} {D : KD} {v : Value} {xs : List Int} (h : PlaysI w wr h0 ab rb bb cf tm s c D) (ha : AutoAt w2 ab s' c' cf tm) (hk : Keep (· = ab) wr w2) (hr : RDo w2 w3 rb s' c' cf tm v xs) (hc : InB c') (hs : 0 ≤ s' ∧ s' ≤ 9) :
    PlaysI w w3 h0 ab rb bb cf tm s' c' D := by
  obtain ⟨l1, l2, l3, l4, l5, l6, l7, l8, l9⟩ := h.lt
  have hhs := h.hs
  have hbs := h.bl.size
  have h2 := h.hD
  exact { aut := ha.keep hr.kp (fun he => l7 he), ref := hr.at', bk := (h.bk.keep hk (fun he => l8 he.symm) fun g hg he => by have := h2 g hg; omega).keep hr.kp (fun he => l9 he.symm) fun g hg he => by have := h2 g hg; omega, hD := h.hD,
          bl := (h.bl.trans (hk.below h.bl.size fun g hg he => by omega)).trans (hr.kp.below (Nat.le_trans h.bl.size hk.size) fun g hg he => by omega), lt := h.lt, hs := Nat.le_trans h.hs (Nat.le_trans hk.size hr.kp.size), ib := hc, ss := hs }

/-- Behind both: what the program told, what the reference told. -/
structure PlaysO (w w5 : World) (h0 ab rb bb : Nat) (cf tm s c : Int) (D : KD) (v4 v5 : Value) (xs : List Int) : Prop where
  i : PlaysI w w5 h0 ab rb bb cf tm s c D
  row : BRow 3 1 w5 v4 xs.length (iV xs)
  ref : RowR w5 v5 xs.length (iV xs)
  le : xs.length ≤ 3
  own0 : ∀ g, v4.ownBlock = some g → h0 ≤ g
  no : ∀ g, v4.ownBlock = some g → ¬ D.Has g
  rf : ∀ g, v5.ownBlock = some g → h0 ≤ g ∧ ¬ D.Has g
theorem PlaysI.told {w wr w2 w3 : World} {h0 ab rb bb : Nat} {cf tm s c s' c' : Int} {D : KD} {v4 v5 : Value} {xs : List Int} (h : PlaysI w wr h0 ab rb bb cf tm s c D) (hv : IntsAt 3 wr.heap.size w2 v4 xs) (ha : AutoAt w2 ab s' c' cf tm) (hk : Keep (· = ab) wr w2) (hr : RDo w2 w3 rb s' c' cf tm v5 xs) (hc : InB c') (hs : 0 ≤ s' ∧ s' ≤ 9) (hl : xs.length ≤ 3) :
    PlaysO w w3 h0 ab rb bb cf tm s' c' D v4 v5 xs := by
  have hown := own_of_ints hv
  have hh := h.hs
  have hl' := h.lt
  exact ⟨h.turn ha hk hr hc hs, (brow_of_ints hv (by omega)).keep hr.kp (fun g hg he => by have := hown g hg; omega), hr.row, hl, fun g hg => by have := hown g hg; omega, fun g hg hh => by have := hown g hg; have := h.bk.i.lt hh; omega,
    fun g hg => by have := hr.f g hg; have := hk.size; exact ⟨by omega, fun hh => by have := h.bk.i.lt hh; omega⟩⟩
end Go.Proofs.YtignponfoheaeaaGreat
