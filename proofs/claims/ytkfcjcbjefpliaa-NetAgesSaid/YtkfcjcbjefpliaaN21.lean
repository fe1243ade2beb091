import Derived.Test.YtkfcjcbjefpliaaN20
namespace Go.Proofs.Ytkfcjcbjefpliaa
open Go.RowKit Go.Tg Go.Maps Go.Sort

theorem one4_gram (g : Gram) : one4 g.cells := ⟨rfl, by intro v hv; simp [Gram.cells] at hv; rcases hv with rfl | rfl | rfl | rfl <;> rfl⟩

/-- slices.Insert of one at place 1 of two, whether there is room or not. -/
theorem insert_two (g c bx cap : Nat) (A B X : List Value) (cur : Array Value) (w : World) (hA : one4 A) (hB : one4 B) (hX : one4 X)
    (hb : w.heap[g]? = some (.cells cur 63 (0, 0))) (hsz : cur.size = cap * 4) (hcap : 2 ≤ cap) (hmax : cap ≤ maxLen) (htk : cur.toList.take 8 = A ++ B) (hx : w.heap[bx]? = some (.cells X.toArray 63 (0, 0))) (hne : bx ≠ g) :
    Calls Try.prog 27 #[.slice (some ⟨g, 0, none⟩) 2 cap, .int .i64 1, .slice (some ⟨bx, 0, none⟩) 1 c] w fun e w' => ∃ v, e = .returned v ∧
      w'.ownsRow 0 63 4 v 3 (A ++ X ++ B) ∧ (v.ownBlock = some g ∨ v.ownBlock = some w.heap.size) ∧ Keep (· = g) w w' := by
  by_cases h2 : cap = 2
  · subst h2
    refine (insert_grow g c bx A B X cur w hA hB hX hb hsz htk hx).mono ?_
    rintro e w' ⟨v, rfl, h1, h2, h3⟩
    exact ⟨v, rfl, h1, Or.inr h2, h3.mono (fun _ _ h => h.elim)⟩
  · refine (insert_room g c bx cap A B X cur w hA hB hX hb hsz (by omega) hmax htk hx hne).mono ?_
    rintro e w' ⟨v, rfl, h1, h2, h3⟩
    exact ⟨v, rfl, h1, Or.inl h2, h3⟩

set_option maxHeartbeats 2000000 in
set_option maxRecDepth 100000 in
theorem twice_two {w : World} {S : Nat → Prop} {b : Nat} {st : NetS} {loc : Int → Int → Nat} {lv av cv : Value} (h : NetV w S b st loc lv av cv) (x y : Gram) (hl : st.l = [x, y]) :
    Calls Try.prog 20 #[.pointer (some ⟨b, 0, none⟩), .int .i64 0] w fun e w' => ∃ lv', e = .returned (.int .i64 0) ∧ NetV w' (Grow S w) b { st with l := [x, x, y] } loc lv' av cv ∧ Keep S w w' := by
  have hrow := h.row
  obtain ⟨g, cap, cur, rfl, hg, hcap, hmax, hsz, htk⟩ : ∃ g cap cur, lv = .slice (some ⟨g, 0, none⟩) 2 cap ∧ w.heap[g]? = some (.cells cur 63 (0, 0)) ∧ 2 ≤ cap ∧ cap ≤ maxLen ∧ cur.size = cap * 4 ∧ cur.toList.take 8 = x.cells ++ y.cells := by
    rw [hl] at hrow
    obtain ⟨_, ⟨_, hn⟩ | ⟨g, cap, cur, hv, _, h2, h3, h4, h5, h6⟩⟩ := hrow
    · cases hn
    · exact ⟨g, cap, cur, hv, h2, h3, h4, h5, by simpa [flat] using h6⟩
  have hW := wrong_any h 0 (by rw [hl]; simp)
  rw [if_pos (by rw [hl]; simp)] at hW
  have hgl : g < w.heap.size := (Array.getElem?_eq_some_iff.1 hg).1
  have hbl : b < w.heap.size := (Array.getElem?_eq_some_iff.1 h.blk).1
  have hgb : g ≠ b := by rintro rfl; rw [h.blk] at hg; cases hg
  obtain ⟨f, t, d, n⟩ := x
  have hx0 := get1 w (.cells #[.int .i64 f, .int .i64 t, .string d, .int .i64 n] 63)
  have hk0 : Keep (fun _ => False) w (w.alloc (.cells #[.int .i64 f, .int .i64 t, .string d, .int .i64 n] 63)).drew := ((Keep.refl _ _).alloc _).drew
  have hI : Hid (Calls Try.prog 27 #[.slice (some ⟨g, 0, none⟩) 2 cap, .int .i64 1, .slice (some ⟨w.heap.size, 0, none⟩) 1 1] (w.alloc (.cells #[.int .i64 f, .int .i64 t, .string d, .int .i64 n] 63)).drew fun e w' => ∃ sa sc, e = .returned (.slice sa 3 sc) ∧
      w'.ownsRow 0 63 4 (.slice sa 3 sc) 3 ((Gram.mk f t d n).cells ++ (Gram.mk f t d n).cells ++ y.cells) ∧ ((Value.slice sa 3 sc).ownBlock = some g ∨ (Value.slice sa 3 sc).ownBlock = some (w.heap.size + 1)) ∧ Keep (· = g) (w.alloc (.cells #[.int .i64 f, .int .i64 t, .string d, .int .i64 n] 63)).drew w') := Lib.hid (by
    refine (insert_two g 1 w.heap.size cap (Gram.mk f t d n).cells y.cells (Gram.mk f t d n).cells cur _ (one4_gram _) (one4_gram _) (one4_gram _) ((hk0.block g hgl (by simp)).trans hg) hsz hcap hmax htk hx0 (by omega)).mono ?_
    rintro e w' ⟨v, rfl, h1, h2, h3⟩
    obtain ⟨sa, sc, rfl⟩ := row_slice_len h1
    refine ⟨sa, sc, rfl, h1, ?_, h3⟩
    rw [show ((w.alloc (.cells #[.int .i64 f, .int .i64 t, .string d, .int .i64 n] 63)).drew).heap.size = w.heap.size + 1 from Array.size_push _] at h2
    exact h2)
  have cb : w.cell? ⟨b, 0, none⟩ = some (.slice (some ⟨g, 0, none⟩) 2 cap) := cell_of h.blk 0 _ rfl
  have fb : w.frozen? ⟨b, 0, none⟩ = false := fz_of h.blk 0
  have c0 : w.cell? ⟨g, 0, none⟩ = some (.int .i64 f) := by rw [cells_at (cap := cap) hg htk 0 (by omega)]; rfl
  have c1 : w.cell? ⟨g, 1, none⟩ = some (.int .i64 t) := by rw [cells_at (cap := cap) hg htk 1 (by omega)]; rfl
  have c2 : w.cell? ⟨g, 2, none⟩ = some (.string d) := by rw [cells_at (cap := cap) hg htk 2 (by omega)]; rfl
  have c3 : w.cell? ⟨g, 3, none⟩ = some (.int .i64 n) := by rw [cells_at (cap := cap) hg htk 3 (by omega)]; rfl
  have hw1 : IntKind.i64.wrap 1 = 1 := by decide
  have HB : Hid (∀ w', Keep (· = g) (w.alloc (.cells #[.int .i64 f, .int .i64 t, .string d, .int .i64 n] 63)).drew w' → w'.cell? ⟨b, 0, none⟩ = some (.slice (some ⟨g, 0, none⟩) 2 cap) ∧ w'.frozen? ⟨b, 0, none⟩ = false) := Lib.hid (fun w' hk => by
    have hbb := (hk.block b (by show b < (Array.push _ _).size; rw [Array.size_push]; omega) (Ne.symm hgb)).trans ((hk0.block b hbl (by simp)).trans h.blk)
    exact ⟨cell_of hbb 0 _ rfl, fz_of hbb 0⟩)
  have H := Lib.hid (And.intro h (And.intro hl hk0))
  have HG := Lib.hid (And.intro hg hgl)
  clear h hl hrow hg hcap hmax hsz htk hx0 hk0
  go_enter Try.func20, Try.ntmps20
  go_wp2_with fail
  refine hW.mono ?_
  rintro e w1 ⟨rfl, rfl⟩
  clear hW
  go_wp2_with fail
  go_region_law (first
    | (go_simp; go_at_call 27; refine hI.out.mono ?_; rintro e w' ⟨sa, sc, rfl, hrow, hob, hk⟩; obtain ⟨d0, d1⟩ := HB.out w' hk; have HR := Lib.hid (And.intro hrow (And.intro hob hk)); clear hrow hob hk))
  all_goals (
    clear d0 d1
    go_wp2_with fail
    go_ret
    obtain ⟨hrow, hob, hk⟩ := HR.out
    obtain ⟨h, hl, hk0⟩ := H.out
    have hk1 := (hk0.mono (S' := (· = g)) (fun _ _ h => h.elim)).trans hk
    have hbb := (hk1.block b hbl (Ne.symm hgb)).trans h.blk
    have hk2 := (hk1.mono (S' := fun k => k = b ∨ k = g) (fun k _ h => Or.inr h)).setCell ⟨b, 0, none⟩ (Or.inr (Or.inl rfl)) (.slice sa 3 sc)
    refine ⟨.slice sa 3 sc, rfl, ?_, hk2.mono ?_⟩
    · refine (h.mono Grow.le).setL (l' := [_, _, _]) hk2 ?_ (blk_setCell hbb) ?_ ?_
      · rintro k (rfl | rfl) _
        · exact Or.inl rfl
        · exact Or.inr ⟨_, HG.out.1⟩
      · refine row_keep (T := (· = b)) ?_ ((Keep.refl _ _).setB _ _) (by rintro k ⟨cur, hc⟩ rfl; rw [hbb] at hc; cases hc)
        simpa [flat] using hrow
      · intro k hk
        rcases hob with e | e
        · rw [e] at hk; cases hk; exact Or.inl (h.hrow g rfl)
        · rw [e] at hk; cases hk; right; omega
    · rintro k _ (rfl | rfl)
      · exact h.hb
      · exact h.hrow _ rfl)
end Go.Proofs.Ytkfcjcbjefpliaa
