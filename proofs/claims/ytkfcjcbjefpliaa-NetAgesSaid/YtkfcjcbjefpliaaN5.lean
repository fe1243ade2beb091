import Derived.Test.YtkfcjcbjefpliaaN4
namespace Go.Proofs.Ytkfcjcbjefpliaa
open Go.RowKit Go.Tg Go.Maps

theorem NetV.cntAt {w : World} {S : Nat → Prop} {b : Nat} {st : NetS} {loc : Int → Int → Nat} {lv av cv : Value} (h : NetV w S b st loc lv av cv) {p q s l : Int} (hpq : st.at' p q = some (s, l)) :
    w.heap[loc p q]? = some (.cells #[.int .i64 s, .int .i64 l] 57 (0, 0)) ∧ S (loc p q) := by
  rcases h.cnt with ⟨_, hn⟩ | ⟨m, mm, _, _, _, _, h5, _⟩
  · rw [hn] at hpq; cases hpq
  · exact ⟨(h5 p q s l hpq).2.2, (h5 p q s l hpq).2.1⟩

theorem NetV.setCnt {w w' : World} {S : Nat → Prop} {b : Nat} {st : NetS} {loc : Int → Int → Nat} {lv av cv : Value} (h : NetV w S b st loc lv av cv) {p q s l s' l' : Int} (hpq : st.at' p q = some (s, l))
    (hk : Keep (· = loc p q) w w') (hc : w'.heap[loc p q]? = some (.cells #[.int .i64 s', .int .i64 l'] 57 (0, 0))) : NetV w' S b { st with at' := setAt st.at' p q (s', l') } loc lv av cv := by
  have hbl := (Array.getElem?_eq_some_iff.1 h.blk).1
  have hat := h.cntAt hpq
  refine ⟨(hk.block b hbl ?_).trans h.blk, h.hb, ?_, h.hrow, ?_, ?_, h.ne⟩
  · rintro rfl
    have := hat.1.symm.trans h.blk
    cases this
  · refine row_keep h.row hk ?_
    rintro k ⟨cur, hk⟩ rfl
    rw [hat.1] at hk; cases hk
  · rcases h.cnt with ⟨_, hn⟩ | ⟨m, mm, h1, h2, h3, h4, h5, h6⟩
    · rw [hn] at hpq; cases hpq
    · refine Or.inr ⟨m, mm, h1, h2, map_keep h3 hk (map_ne h3 hat.1), ?_, ?_, ?_⟩
      · intro a c hac
        simp only [setAt] at hac
        by_cases e : a = p ∧ c = q
        · simp [e] at hac
        · simp only [e, if_false] at hac
          exact h4 a c hac
      · intro a c s1 l1 hac
        simp only [setAt] at hac
        by_cases e : a = p ∧ c = q
        · obtain ⟨rfl, rfl⟩ := e
          simp at hac
          obtain ⟨rfl, rfl⟩ := hac
          exact ⟨(h5 a c s l hpq).1, hat.2, hc⟩
        · simp only [e, if_false] at hac
          obtain ⟨p1, p2, p3⟩ := h5 a c s1 l1 hac
          refine ⟨p1, p2, (hk.block _ (Array.getElem?_eq_some_iff.1 p3).1 ?_).trans p3⟩
          intro e'
          exact e (h6 a c p q (by simp [hac]) (by simp [hpq]) e')
      · intro a c a' c' ha ha' hl
        refine h6 a c a' c' ?_ ?_ hl
        · by_cases e : a = p ∧ c = q
          · rw [e.1, e.2, hpq]; rfl
          · simpa only [setAt, e, if_false] using ha
        · by_cases e : a' = p ∧ c' = q
          · rw [e.1, e.2, hpq]; rfl
          · simpa only [setAt, e, if_false] using ha'
  · refine cut_keep h.cut hk ?_
    rintro k hk' rfl
    rcases h.cut with ⟨rfl, _⟩ | ⟨m2, mm2, rfl, _, h3, _⟩
    · cases hk'
    · cases hk'; exact map_ne h3 hat.1 rfl

theorem touch_at (at' : Int → Int → Option (Int × Int)) (p q : Int) : touch at' p q p q = some ((at' p q).getD (0, 0)) := by simp [touch]
theorem setAt_touch (at' : Int → Int → Option (Int × Int)) (p q : Int) (v : Int × Int) : setAt (touch at' p q) p q v = setAt at' p q v := by
  funext a b
  unfold setAt touch
  split <;> rfl

def lostAt (at' : Int → Int → Option (Int × Int)) (p q : Int) : Int → Int → Option (Int × Int) := setAt at' p q (((at' p q).getD (0, 0)).1, ((at' p q).getD (0, 0)).2 + 1)

set_option maxHeartbeats 1000000 in
set_option maxRecDepth 100000 in
theorem lose_any {w : World} {S : Nat → Prop} {b : Nat} {st : NetS} {loc : Int → Int → Nat} {lv av cv : Value} (h : NetV w S b st loc lv av cv) (f t : Int) (d : ByteArray) (hf : I64 f) (ht : I64 t)
    (hl0 : 0 ≤ ((st.at' f t).getD (0, 0)).2) (hl : ((st.at' f t).getD (0, 0)).2 < 9223372036854775807) :
    Calls Try.prog 24 #[.pointer (some ⟨b, 0, none⟩), .agg #[.int .i64 f, .int .i64 t, .string d]] w fun e w' => ∃ loc' av', e = .returned (.tuple #[]) ∧ NetV w' (Grow S w) b { st with at' := lostAt st.at' f t } loc' lv av' cv ∧ Keep S w w' := by
  have hk0 : Keep S w (w.alloc (.cells #[.int .i64 f, .int .i64 t, .string d] 29)) := (Keep.refl _ _).alloc _
  have H0 := Lib.hid (h.keep (T := fun _ => False) ((Keep.refl _ _).alloc (.cells #[.int .i64 f, .int .i64 t, .string d] 29)) (by intro k _ _ hk; exact hk))
  have HK := Lib.hid hk0
  clear h hk0
  go_enter Try.func24, Try.ntmps24
  go_wp2_with fail
  refine (pair_any f t d _).mono ?_
  rintro e w1 ⟨rfl, hk1⟩
  have H1 := Lib.hid (H0.out.keep hk1 (by intro k _ _ hk; exact hk))
  have HK1 := Lib.hid (HK.out.trans (hk1.mono (by intro k _ hk; exact hk.elim)))
  clear hk1 H0 HK
  go_wp2_with fail
  refine (of_any H1.out f t hf ht).mono ?_
  rintro e w2 ⟨loc', av', rfl, h2, hk2⟩
  have h3 := h2.cntAt (s := ((st.at' f t).getD (0, 0)).1) (l := ((st.at' f t).getD (0, 0)).2) (touch_at st.at' f t)
  have H2 := Lib.hid h2
  have HK2 := Lib.hid (HK1.out.trans (hk2.mono (fun k _ h => h)))
  have HE : Hid (lostAt st.at' f t = setAt st.at' f t (((st.at' f t).getD (0, 0)).1, ((st.at' f t).getD (0, 0)).2 + 1)) := Lib.hid rfl
  have HT := Lib.hid (touch_at st.at' f t)
  generalize hlc : loc' f t = lc at *
  generalize (st.at' f t).getD (0, 0) = v at *
  obtain ⟨s, l⟩ := v
  dsimp only at h3 hl hl0
  have hc1 : w2.cell? ⟨lc, 1, none⟩ = some (.int .i64 l) := by simp [World.cell?, h3.1]
  have hfz : w2.frozen? ⟨lc, 1, none⟩ = false := by simp [World.frozen?, h3.1]
  have H3 := Lib.hid h3
  have HS := Lib.hid HK1.out.size
  clear h2 hk2 h3 H1 HK1
  have hll : decide (l < 9223372036854775807) = true := by simpa using hl
  go_wp2_with fail
  go_end0
  refine ⟨loc', av', rfl, ?_, ?_⟩
  · have := H2.out.setCnt HT.out (w' := w2.setCell ⟨lc, 1, none⟩ (.int .i64 (l + 1))) (s' := s) (l' := l + 1) (by rw [hlc]; exact (Keep.refl _ _).setB _ _) (by rw [hlc]; exact blk_setCell H3.out.1)
    rw [setAt_touch] at this
    rw [HE.out]
    exact this.mono (fun k hk => hk.imp id (Nat.le_trans HS.out))
  · exact HK2.out.setCell _ (H3.out.2.symm.imp (Nat.le_trans HS.out) id) _
end Go.Proofs.Ytkfcjcbjefpliaa
