import Derived.Test.YtkfcjcbjefpliaaN3
import Derived.Maps.AppendAt
namespace Go.Proofs.Ytkfcjcbjefpliaa
open Go.RowKit Go.Tg Go.Maps

/-- The counts of the pairs, and where each lies: in blocks of S. -/
def CntS (w : World) (S : Nat → Prop) (av : Value) (at' : Int → Int → Option (Int × Int)) (loc : Int → Int → Nat) : Prop :=
  (av = .map none ∧ ∀ a b, at' a b = none) ∨ ∃ m mm, av = .map (some m) ∧ S m ∧ MapAt Try.prog 39 w m mm ∧
    (∀ a b, at' a b = none → mm (pairV a b) = none) ∧
    (∀ a b s l, at' a b = some (s, l) → mm (pairV a b) = some (.pointer (some ⟨loc a b, 0, none⟩)) ∧ S (loc a b) ∧ w.heap[loc a b]? = some (.cells #[.int .i64 s, .int .i64 l] 57 (0, 0))) ∧
    (∀ a b a' b', (at' a b).isSome → (at' a' b').isSome → loc a b = loc a' b' → a = a' ∧ b = b')

def CutS (w : World) (S : Nat → Prop) (cv : Value) (cut : Int → Int → Bool) : Prop :=
  (cv = .map none ∧ ∀ a b, cut a b = false) ∨ ∃ m mm, cv = .map (some m) ∧ S m ∧ MapAt Try.prog 39 w m mm ∧ (∀ a b, cut a b = (mm (pairV a b)).isSome) ∧ ∀ k v, mm k = some v → v = .agg #[]

structure NetV (w : World) (S : Nat → Prop) (b : Nat) (st : NetS) (loc : Int → Int → Nat) (lv av cv : Value) : Prop where
  blk : w.heap[b]? = some (.cells #[lv, av, cv] 52 (0, 0))
  hb : S b
  row : w.ownsRow 0 63 4 lv st.l.length (flat st.l)
  hrow : ∀ k, lv.ownBlock = some k → S k
  cnt : CntS w S av st.at' loc
  cut : CutS w S cv st.cut
  ne : ∀ m, av = .map (some m) → cv ≠ .map (some m)

def Grow (S : Nat → Prop) (w : World) : Nat → Prop := fun k => S k ∨ w.heap.size ≤ k
theorem Grow.le {S : Nat → Prop} {w : World} : ∀ k, S k → Grow S w k := fun _ h => Or.inl h

theorem CntS.mono {w : World} {S S' : Nat → Prop} {av : Value} {at' : Int → Int → Option (Int × Int)} {loc : Int → Int → Nat} (h : CntS w S av at' loc) (hS : ∀ k, S k → S' k) : CntS w S' av at' loc := by
  rcases h with h | ⟨m, mm, h1, h2, h3, h4, h5, h6⟩
  · exact Or.inl h
  · exact Or.inr ⟨m, mm, h1, hS _ h2, h3, h4, fun a b s l h => ⟨(h5 a b s l h).1, hS _ (h5 a b s l h).2.1, (h5 a b s l h).2.2⟩, h6⟩
theorem CutS.mono {w : World} {S S' : Nat → Prop} {cv : Value} {cut : Int → Int → Bool} (h : CutS w S cv cut) (hS : ∀ k, S k → S' k) : CutS w S' cv cut := by
  rcases h with h | ⟨m, mm, h1, h2, h3, h4⟩
  · exact Or.inl h
  · exact Or.inr ⟨m, mm, h1, hS _ h2, h3, h4⟩
theorem NetV.mono {w : World} {S S' : Nat → Prop} {b : Nat} {st : NetS} {loc : Int → Int → Nat} {lv av cv : Value} (h : NetV w S b st loc lv av cv) (hS : ∀ k, S k → S' k) : NetV w S' b st loc lv av cv :=
  ⟨h.blk, hS _ h.hb, h.row, fun k hk => hS _ (h.hrow k hk), h.cnt.mono hS, h.cut.mono hS, h.ne⟩

theorem row_keep {w w' : World} {T : Nat → Prop} {v : Value} {n : Nat} {xs : List Value} (h : w.ownsRow 0 63 4 v n xs) (hk : Keep T w w') (hT : ∀ k, (∃ cur, w.heap[k]? = some (.cells cur 63 (0, 0))) → ¬ T k) : w'.ownsRow 0 63 4 v n xs := by
  obtain ⟨h0, h | ⟨g, cap, cur, hv, h1, h2, h3⟩⟩ := h
  · exact ⟨h0, Or.inl h⟩
  · have hlt := (Array.getElem?_eq_some_iff.1 h2).1
    exact ⟨h0, Or.inr ⟨g, cap, cur, hv, h1, (hk.block g hlt (hT g ⟨_, h2⟩)).trans h2, h3⟩⟩

theorem map_keep {w w' : World} {T : Nat → Prop} {m : Nat} {mm : Value → Option Value} (h : MapAt Try.prog 39 w m mm) (hk : Keep T w w') (hT : ¬ T m) : MapAt Try.prog 39 w' m mm :=
  h.same (hk.block m h.lt hT)

theorem cut_keep {w w' : World} {S T : Nat → Prop} {cv : Value} {cut : Int → Int → Bool} (h : CutS w S cv cut) (hk : Keep T w w') (hT : ∀ m, cv = .map (some m) → ¬ T m) : CutS w' S cv cut := by
  rcases h with h | ⟨m, mm, h1, h2, h3, h4⟩
  · exact Or.inl h
  · exact Or.inr ⟨m, mm, h1, h2, map_keep h3 hk (hT m h1), h4⟩

theorem map_ne {w : World} {m k : Nat} {mm : Value → Option Value} {cur : Array Value} {t : TypeId} {f : Nat × Nat} (h : MapAt Try.prog 39 w m mm) (hc : w.heap[k]? = some (.cells cur t f)) : m ≠ k := by
  rintro rfl
  obtain ⟨es, cl, h, _⟩ := h
  rw [hc] at h; cases h

/-- Nothing of S is turned: the net stands. -/
theorem NetV.keep {w w' : World} {S T : Nat → Prop} {b : Nat} {st : NetS} {loc : Int → Int → Nat} {lv av cv : Value} (h : NetV w S b st loc lv av cv) (hk : Keep T w w') (hT : ∀ k, S k → k < w.heap.size → ¬ T k) : NetV w' S b st loc lv av cv := by
  have hbl := (Array.getElem?_eq_some_iff.1 h.blk).1
  refine ⟨(hk.block b hbl (hT b h.hb hbl)).trans h.blk, h.hb, ?_, h.hrow, ?_, ?_, h.ne⟩
  · obtain ⟨h0, h' | ⟨g, cap, cur, hv, h1, h2, h3⟩⟩ := h.row
    · exact ⟨h0, Or.inl h'⟩
    · have hlt := (Array.getElem?_eq_some_iff.1 h2).1
      exact ⟨h0, Or.inr ⟨g, cap, cur, hv, h1, (hk.block g hlt (hT g (h.hrow g (by rw [hv]; rfl)) hlt)).trans h2, h3⟩⟩
  · rcases h.cnt with h | ⟨m, mm, h1, h2, h3, h4, h5, h6⟩
    · exact Or.inl h
    · refine Or.inr ⟨m, mm, h1, h2, map_keep h3 hk (hT m h2 h3.lt), h4, fun a b s l hs => ?_, h6⟩
      obtain ⟨p1, p2, p3⟩ := h5 a b s l hs
      have hlt := (Array.getElem?_eq_some_iff.1 p3).1
      exact ⟨p1, p2, (hk.block _ hlt (hT _ p2 hlt)).trans p3⟩
  · rcases h.cut with h | ⟨m, mm, h1, h2, h3, h4⟩
    · exact Or.inl h
    · exact Or.inr ⟨m, mm, h1, h2, map_keep h3 hk (hT m h2 h3.lt), h4⟩

theorem pairV_inj {a b p q : Int} (h : pairV a b = pairV p q) : a = p ∧ b = q := by
  unfold pairV at h
  simp at h
  exact h

/-- The pair is known. -/
def touch (at' : Int → Int → Option (Int × Int)) (p q : Int) : Int → Int → Option (Int × Int) :=
  fun a b => if a = p ∧ b = q then some ((at' p q).getD (0, 0)) else at' a b
def setAt (at' : Int → Int → Option (Int × Int)) (p q : Int) (v : Int × Int) : Int → Int → Option (Int × Int) :=
  fun a b => if a = p ∧ b = q then some v else at' a b
theorem touch_some {at' : Int → Int → Option (Int × Int)} {p q : Int} {v : Int × Int} (h : at' p q = some v) : touch at' p q = at' := by
  funext a b
  unfold touch
  split
  · rename_i e; rw [e.1, e.2, h]; rfl
  · rfl

theorem of_any {w : World} {S : Nat → Prop} {b : Nat} {st : NetS} {loc : Int → Int → Nat} {lv av cv : Value} (h : NetV w S b st loc lv av cv) (p q : Int) (hp : I64 p) (hq : I64 q) :
    Calls Try.prog 22 #[.pointer (some ⟨b, 0, none⟩), .agg #[.int .i64 p, .int .i64 q]] w fun e w' => ∃ loc' av', e = .returned (.pointer (some ⟨loc' p q, 0, none⟩)) ∧
      NetV w' (Grow S w) b { st with at' := touch st.at' p q } loc' lv av' cv ∧ Keep S w w' := by
  have hbl := (Array.getElem?_eq_some_iff.1 h.blk).1
  rcases h.cnt with ⟨rfl, hn⟩ | ⟨m, mm, rfl, hSm, hm, hno, hso, hinj⟩
  · refine (of_nil b p q w lv cv hp hq h.blk).mono ?_
    rintro e w' ⟨lc, m, rfl, h1, h2, h3, h4, h5, h6, h7⟩
    have hcm : ∀ k, cv = .map (some k) → k < w.heap.size := by
      intro k hk
      rcases h.cut with ⟨rfl, _⟩ | ⟨m2, mm2, rfl, _, h3, _⟩
      · cases hk
      · cases hk; exact h3.lt
    refine ⟨fun a c => if a = p ∧ c = q then lc else loc a c, _, by simp, ⟨h5, Or.inl h.hb, ?_, fun k hk => Or.inl (h.hrow k hk), ?_, ?_, ?_⟩, h7.mono (by rintro k _ rfl; exact h.hb)⟩
    · refine row_keep h.row h7 ?_
      rintro k ⟨cur, hk⟩ rfl
      rw [h.blk] at hk; cases hk
    · refine Or.inr ⟨m, _, rfl, Or.inr h1, h6, ?_, ?_, ?_⟩
      · intro a c hac
        simp only [touch] at hac
        by_cases e : a = p ∧ c = q
        · simp [e] at hac
        · have : pairV a c ≠ pairV p q := fun e' => e (pairV_inj e')
          simp [upd, this]
      · intro a c s l hac
        simp only [touch] at hac
        by_cases e : a = p ∧ c = q
        · obtain ⟨rfl, rfl⟩ := e
          simp [hn] at hac
          obtain ⟨rfl, rfl⟩ := hac
          simp [upd]
          exact ⟨Or.inr h2, h4⟩
        · simp [e, hn] at hac
      · intro a c a' c' ha ha' _
        simp only [touch, hn] at ha ha'
        by_cases e : a = p ∧ c = q <;> by_cases e' : a' = p ∧ c' = q <;> simp_all
    · refine (cut_keep h.cut h7 ?_).mono Grow.le
      rintro k hk rfl
      rcases h.cut with ⟨rfl, _⟩ | ⟨m2, mm2, rfl, _, h3, _⟩
      · cases hk
      · cases hk; exact map_ne h3 h.blk rfl
    · intro k hk hc
      cases hk
      have := hcm _ hc
      omega
  · cases hpq : st.at' p q with
    | some v =>
      obtain ⟨s, l⟩ := v
      obtain ⟨p1, p2, p3⟩ := hso p q s l hpq
      refine (of_there b 0 m mm p q w lv cv (loc p q) hp hq h.blk hm p1).mono ?_
      rintro e w' ⟨rfl, hk⟩
      refine ⟨loc, .map (some m), rfl, ?_, hk.mono (by intro k _ hk; exact hk.elim)⟩
      rw [touch_some hpq]
      exact (h.keep hk (by intro k _ _ hk; exact hk)).mono Grow.le
    | none =>
      refine (of_new b m mm p q w lv cv hp hq h.blk hm (hno p q hpq)).mono ?_
      rintro e w' ⟨lc, rfl, h2, h4, h6, h7⟩
      have hbm : b ≠ m := fun e => map_ne hm h.blk e.symm
      have hltS : ∀ a c s l, st.at' a c = some (s, l) → loc a c < w.heap.size := fun a c s l hac => (Array.getElem?_eq_some_iff.1 (hso a c s l hac).2.2).1
      refine ⟨fun a c => if a = p ∧ c = q then lc else loc a c, _, by simp, ⟨(h7.block b hbl hbm).trans h.blk, Or.inl h.hb, ?_, fun k hk => Or.inl (h.hrow k hk), ?_, ?_, h.ne⟩, h7.mono (by rintro k _ rfl; exact hSm)⟩
      · refine row_keep h.row h7 ?_
        rintro k ⟨cur, hk⟩ rfl
        exact map_ne hm hk rfl
      · refine Or.inr ⟨m, _, rfl, Or.inl hSm, h6, ?_, ?_, ?_⟩
        · intro a c hac
          simp only [touch] at hac
          by_cases e : a = p ∧ c = q
          · simp [e] at hac
          · have : pairV a c ≠ pairV p q := fun e' => e (pairV_inj e')
            simp only [e, if_false] at hac
            simp [upd, this, hno a c hac]
        · intro a c s l hac
          simp only [touch] at hac
          by_cases e : a = p ∧ c = q
          · obtain ⟨rfl, rfl⟩ := e
            simp [hpq] at hac
            obtain ⟨rfl, rfl⟩ := hac
            simp [upd]
            exact ⟨Or.inr h2, h4⟩
          · have hne : pairV a c ≠ pairV p q := fun e' => e (pairV_inj e')
            simp only [e, if_false] at hac
            obtain ⟨p1, p2, p3⟩ := hso a c s l hac
            have hlt := hltS a c s l hac
            refine ⟨by simp [upd, hne, e, p1], by simp only [e, if_false]; exact Or.inl p2, ?_⟩
            simp only [e, if_false]
            exact (h7.block _ hlt (fun e => map_ne hm p3 e.symm)).trans p3
        · intro a c a' c' ha ha' hl
          simp only [touch] at ha ha'
          by_cases e : a = p ∧ c = q <;> by_cases e' : a' = p ∧ c' = q
          · exact ⟨e.1.trans e'.1.symm, e.2.trans e'.2.symm⟩
          · simp only [e', if_false] at ha'
            obtain ⟨⟨s, l⟩, hv⟩ := Option.isSome_iff_exists.1 ha'
            have := hltS a' c' s l hv
            simp only [e, e', if_false, and_self, if_true] at hl
            omega
          · simp only [e, if_false] at ha
            obtain ⟨⟨s, l⟩, hv⟩ := Option.isSome_iff_exists.1 ha
            have := hltS a c s l hv
            simp only [e, e', if_false, and_self, if_true] at hl
            omega
          · simp only [e, e', if_false] at ha ha' hl
            exact hinj a c a' c' ha ha' hl
      · refine (cut_keep h.cut h7 ?_).mono Grow.le
        rintro k hk rfl
        exact h.ne _ rfl hk
end Go.Proofs.Ytkfcjcbjefpliaa
