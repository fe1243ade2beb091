import Derived.Test.YtkfcjcbjefpliaaN29
namespace Go.Proofs.Ytkfcjcbjefpliaa
open Go.RowKit Go.Tg Go.Maps Go.Sort

set_option maxHeartbeats 2000000 in
set_option maxRecDepth 100000 in
theorem send_old {w : World} {S : Nat → Prop} {b : Nat} {st : NetS} {loc : Int → Int → Nat} {lv av cv : Value} (h : NetV w S b st loc lv av cv) (f t : Int) (d : ByteArray) (hf : I64 f) (ht : I64 t)
    (hd : d.size ≤ 1514) (s l : Int) (hsl : (st.at' f t).getD (0, 0) = (s, l)) (hs0 : 0 ≤ s) (hs1 : s < 4611686018427387904) (hl0 : 0 ≤ l) (hl1 : l < 4611686018427387904) (d0 : ByteArray) (n0 : Int) (hll0 : st.l = [Gram.mk f t d0 n0]) (hn0 : 0 ≤ n0) (hn1 : n0 ≤ 9223372036854775807) (hy : 20000 ≤ s + 1 - n0) (hcu : st.cut f t = true) :
    Calls Try.prog 11 #[.pointer (some ⟨b, 0, none⟩), .agg #[.int .i64 f, .int .i64 t, .string d]] w fun e w' => ∃ loc' lv' av', e = .returned (.int .i64 0) ∧ NetV w' (Grow S w) b { st with l := [], at' := setAt st.at' f t (s + 1, l + 1 + 1) } loc' lv' av' cv ∧ Keep S w w' := by
  replace h := h.cap
  obtain ⟨S0, hS0⟩ : ∃ S0 : Nat → Prop, S0 = fun k => S k ∧ k < w.heap.size := ⟨_, rfl⟩
  rw [← hS0] at h
  have HSL := Lib.hid hsl
  have HS0 : Hid (∀ k, S0 k → S k ∧ k < w.heap.size) := Lib.hid (fun k hk => by rw [hS0] at hk; exact hk)
  clear hS0
  have KM : Hid (∀ w', Keep (Grow S0 w) w w' → Keep S w w') := Lib.hid (fun w' h => h.mono (fun k hk hg => hg.elim (fun h => (HS0.out k h).1) (fun h => absurd h (by omega))))
  obtain ⟨mo, rfl⟩ := h.cutVal
  obtain ⟨sa, sn, sc, rfl⟩ := row_slice h.row
  have H0 := Lib.hid (h.keep (T := fun _ => False) ((Keep.refl _ _).alloc (.cells #[.int .i64 f, .int .i64 t, .string d] 29)) (by intro k _ _ hk; exact hk))
  have HK0 : Hid (Keep S0 w (w.alloc (.cells #[.int .i64 f, .int .i64 t, .string d] 29))) := Lib.hid ((Keep.refl _ _).alloc _)
  have hbd : decide ((1514 : Int) < (d.size : Int)) = false := by simp; omega
  have hx0 := get1 w (.cells #[.int .i64 f, .int .i64 t, .string d] 29)
  have HY := Lib.hid hy
  have HLL := Lib.hid hll0
  have HCU := Lib.hid hcu
  clear h hy hll0 hcu
  have heq := eql24
  go_enter Try.func11, Try.ntmps11
  go_wp2_with fail
  refine (pair_any f t d _).mono ?_
  rintro e w1 ⟨rfl, hk1⟩
  have H1 := Lib.hid (H0.out.keep hk1 (by intro k _ _ hk; exact hk))
  have HK1 := Lib.hid (HK0.out.trans (hk1.mono (by intro k _ hk; exact hk.elim)))
  have hx1 : w1.heap[w.heap.size]? = some (.cells #[.int .i64 f, .int .i64 t, .string d] 29 (0, 0)) := (hk1.block _ (by show _ < (Array.push _ _).size; rw [Array.size_push]; omega) (by simp)).trans hx0
  clear hk1 H0 HK0 hx0
  have hz1 : w.heap.size < w1.heap.size := (Array.getElem?_eq_some_iff.1 hx1).1
  have hW1 : (w1.alloc (.cells #[.int .i64 f, .int .i64 t] 39 (0, 0))).heap.size = w1.heap.size + 1 := Array.size_push _
  have hx2 : (w1.alloc (.cells #[.int .i64 f, .int .i64 t] 39 (0, 0))).heap[w.heap.size]? = _ := (Below.heap_alloc _ _ _ hz1).trans hx1
  have hp2 := get1 w1 (.cells #[.int .i64 f, .int .i64 t] 39 (0, 0))
  have H1' := Lib.hid (H1.out.keep (T := fun _ => False) ((Keep.refl _ _).alloc (.cells #[.int .i64 f, .int .i64 t] 39 (0, 0))) (by intro k _ _ hk; exact hk))
  have HKA : Hid (Keep S0 w (w1.alloc (.cells #[.int .i64 f, .int .i64 t] 39 (0, 0)))) := Lib.hid (HK1.out.alloc _)
  clear hx1 H1 HK1
  go_wp2_with fail
  refine (of_any H1'.out f t hf ht).mono ?_
  rintro e w2 ⟨loc2, av2, rfl, h2, hk2⟩
  obtain ⟨W1, hWd⟩ : ∃ W1, W1 = w1.alloc (.cells #[.int .i64 f, .int .i64 t] 39 (0, 0)) := ⟨_, rfl⟩
  rw [← hWd] at hW1 hx2 hp2 HKA h2 hk2
  have n0 : ∀ k, k < W1.heap.size → w.heap.size ≤ k → ¬ Grow S0 W1 k := by
    intro k hk hk2 hg
    rcases hg with hg | hg
    · have := (HS0.out k hg).2; omega
    · omega
  have hx3 := (hk2.block _ (by omega) (fun hg => n0 w.heap.size (by omega) (by omega) (Or.inl hg))).trans hx2
  have hp3 := (hk2.block _ (by omega) (fun hg => n0 w1.heap.size (by omega) (by omega) (Or.inl hg))).trans hp2
  have hto : touch st.at' f t f t = some (s, l) := by rw [touch_at, hsl]
  have hc2 := (h2.cntAt hto)
  have H2 := Lib.hid h2
  have HK2 : Hid (Keep (Grow S0 w) w w2) := Lib.hid ((HKA.out.trans hk2).mono (fun k _ h => Or.inl h))
  have hs2 := hk2.size
  have HTO := Lib.hid hto
  have hq2 : w2.cell? ⟨w1.heap.size, 0, none⟩ = some (.int .i64 f) := cell_of hp3 0 _ rfl
  have hr2 : w2.cell? ⟨w1.heap.size, 1, none⟩ = some (.int .i64 t) := cell_of hp3 1 _ rfl
  have hc20 : w2.cell? ⟨loc2 f t, 0, none⟩ = some (.int .i64 s) := cell_of hc2.1 0 _ rfl
  have hf20 : w2.frozen? ⟨loc2 f t, 0, none⟩ = false := by simp [World.frozen?, hc2.1]
  have hne1 : loc2 f t ≠ w1.heap.size := by
    intro e; rw [e] at hc2; rw [hc2.1] at hp3; cases hp3
  have hne0 : loc2 f t ≠ w.heap.size := by
    intro e; rw [e] at hc2; rw [hc2.1] at hx3; cases hx3
  have hll : decide (s < 9223372036854775807) = true := by simp; omega
  have HC2 := Lib.hid hc2
  have HX3 := Lib.hid hx3
  have HP3 := Lib.hid hp3
  have HN0 := Lib.hid n0
  clear hWd h2 hk2 hx2 hp2 n0 hto hc2 H1' HKA hx3 hp3
  generalize hlc : loc2 f t = lc at *
  go_wp2_with fail
  have h3 := H2.out.setCnt HTO.out (w' := w2.setCell ⟨lc, 0, none⟩ (.int .i64 (s + 1))) (s' := s + 1) (l' := l) (by rw [hlc]; exact (Keep.refl _ _).setB _ _) (by rw [hlc]; exact blk_setCell HC2.out.1)
  rw [setAt_touch] at h3
  refine (grow_old h3 f t d0 n0 HLL.out hf ht (s + 1) l (by simp [setAt]) (by omega) (by omega) hn0 hn1 HY.out (by omega) (by omega)).mono ?_
  rintro e w4 ⟨loc4, lv4, av4, rfl, h4, hk4⟩
  have hx4 : w4.heap[w.heap.size]? = _ := (hk4.block _ (by rw [sz_setCell]; omega) (HN0.out w.heap.size (by omega) (by omega))).trans ((Below.heap_setCell _ _ _ _ (by show w.heap.size ≠ lc; omega)).trans HX3.out)
  have hp4 : w4.heap[w1.heap.size]? = _ := (hk4.block _ (by rw [sz_setCell]; omega) (HN0.out w1.heap.size (by omega) (by omega))).trans ((Below.heap_setCell _ _ _ _ (by show w1.heap.size ≠ lc; omega)).trans HP3.out)
  have HK4 : Hid (Keep (Grow S0 w) w w4) := Lib.hid ((HK2.out.setCell _ (by
    rcases HC2.out.2 with hg | hg
    · exact Or.inr (Or.inl hg)
    · exact Or.inl (by show w.heap.size ≤ lc; omega)) _).trans ((hk4.mono (fun k _ h => h.imp id (fun h => by omega)))))
  have c2 : w4.cell? ⟨b, 2, none⟩ = some (.map mo) := cell_of h4.blk 2 _ rfl
  have cp : w4.cell? ⟨w1.heap.size, 0, none⟩ = some (.int .i64 f) := cell_of hp4 0 _ rfl
  have cq : w4.cell? ⟨w1.heap.size, 1, none⟩ = some (.int .i64 t) := cell_of hp4 1 _ rfl
  have hl1 : (Instr.lookup 50 (.map mo) (.agg #[.int .i64 f, .int .i64 t]) true).run Try.prog w4.drew = .ok (.tuple #[.agg #[], .bool (st.cut f t)]) w4.drew := h4.cutLook f t hf ht _ (fun k _ _ => rfl)
  have hl2 : (Instr.lookup 50 (.map mo) (.agg #[.int .i64 f, .int .i64 t]) true).run Try.prog (w4.alloc (.cells #[] 59 (0, 0))).drew = .ok (.tuple #[.agg #[], .bool (st.cut f t)]) (w4.alloc (.cells #[] 59 (0, 0))).drew := h4.cutLook f t hf ht _ (fun k _ hk => Below.heap_alloc _ _ _ hk)
  have H4 := Lib.hid h4
  have HX4 := Lib.hid hx4
  have HP4 := Lib.hid hp4
  have hs4 : W1.heap.size ≤ w4.heap.size := by have := hk4.size; rw [sz_setCell] at this; omega
  have hb4 : b < w4.heap.size := (Array.getElem?_eq_some_iff.1 h4.blk).1
  clear h3 h4 hk4 hx4 hp4 hq2 hr2 hc20 hf20 HX3 HP3 H2 HTO
  rw [HCU.out] at hl1 hl2
  go_wp2_with fail
  go_region_held3 (fun w' => w'.cell? ⟨b, 2, none⟩ = some (.map mo) ∧ w'.cell? ⟨w1.heap.size, 0, none⟩ = some (.int .i64 f) ∧ w'.cell? ⟨w1.heap.size, 1, none⟩ = some (.int .i64 t))
    (first | go_keep)
    (fail)
  all_goals (
    rename_i hH
    clear hH hl1 hl2 c2 cp cq
    obtain ⟨W5, hW5⟩ : ∃ W5, W5 = (w4.alloc (.cells #[] 59 (0, 0))).drew := ⟨_, rfl⟩
    have hk5 : Keep (fun _ => False) w4 W5 := by rw [hW5]; exact ((Keep.refl _ _).alloc _).drew
    rw [← hW5]
    have H5 := Lib.hid (H4.out.keep hk5 (by intro k _ _ hk; exact hk))
    have hx5 := (hk5.block w.heap.size (by omega) (by simp)).trans HX4.out
    have HK5 : Hid (Keep (Grow S0 w) w W5) := Lib.hid (HK4.out.trans (hk5.mono (fun k _ h => h.elim)))
    have d0 : W5.cell? ⟨w.heap.size, 0, none⟩ = some (.int .i64 f) := cell_of hx5 0 _ rfl
    have d1 : W5.cell? ⟨w.heap.size, 1, none⟩ = some (.int .i64 t) := cell_of hx5 1 _ rfl
    have d2 : W5.cell? ⟨w.heap.size, 2, none⟩ = some (.string d) := cell_of hx5 2 _ rfl
    have hs5 : w4.heap.size ≤ W5.heap.size := hk5.size
    have HX5 := Lib.hid hx5
    clear hW5 hk5 hx5 H4 HX4 HP4
    go_wp2_with fail
    refine (lose_any H5.out f t d hf ht (by simp [setAt]; omega) (by simp [setAt]; omega)).mono ?_
    rintro e w6 ⟨loc6, av6, rfl, h6, hk6⟩
    have H6 := Lib.hid h6
    have HK6 := Lib.hid (HK5.out.trans (hk6.mono (fun k _ h => by rcases h with h | h; exact h.imp id (fun h => by omega); exact Or.inr (by rw [sz_setCell] at h; omega))))
    clear h6 hk6
    go_wp2_with fail
    go_ret
    refine ⟨loc6, lv4, av6, rfl, ?_, KM.out _ HK6.out⟩
    have e : lostAt (setAt (setAt st.at' f t (s + 1, l)) f t (s + 1, l + 1)) f t = setAt st.at' f t (s + 1, l + 1 + 1) := by
      rw [lostAt_setAt]
      funext p q
      simp only [setAt]
      split <;> rfl
    have h7 := H6.out
    rw [e] at h7
    refine h7.mono (fun k hk => ?_)
    rcases hk with ((hk | hk) | hk) | hk
    · exact Or.inl (HS0.out k hk).1
    · exact Or.inr (by omega)
    · exact Or.inr (by rw [sz_setCell] at hk; omega)
    · exact Or.inr (by omega))
end Go.Proofs.Ytkfcjcbjefpliaa
