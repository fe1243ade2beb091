import Derived.Test.YtkfcjcbjefpliaaN14
import Derived.Test.YtkfcjcbjefpliaaN15
namespace Go.Proofs.Ytkfcjcbjefpliaa
open Go.RowKit Go.Tg Go.Maps Go.Sort

theorem NetV.cap2 {w : World} {S : Nat → Prop} {b : Nat} {st : NetS} {loc : Int → Int → Nat} {lv av cv : Value} (h : NetV w S b st loc lv av cv) : NetV w (fun k => S k ∧ k < w.heap.size) b st loc lv av cv := by
  have lt : ∀ {k : Nat} {o : Obj}, w.heap[k]? = some o → k < w.heap.size := fun h => (Array.getElem?_eq_some_iff.1 h).1
  refine ⟨h.blk, ⟨h.hb, lt h.blk⟩, h.row, fun k hk => ⟨h.hrow k hk, ?_⟩, ?_, ?_, h.ne⟩
  · obtain ⟨_, ⟨hv, _⟩ | ⟨g, cp, cur, hv, _, hg, _⟩⟩ := h.row
    · rw [hv] at hk; cases hk
    · rw [hv] at hk; cases hk; exact lt hg
  · rcases h.cnt with h | ⟨m, mm, h1, h2, h3, h4, h5, h6⟩
    · exact Or.inl h
    · exact Or.inr ⟨m, mm, h1, ⟨h2, h3.lt⟩, h3, h4, fun a c s l hs => ⟨(h5 a c s l hs).1, ⟨(h5 a c s l hs).2.1, lt (h5 a c s l hs).2.2⟩, (h5 a c s l hs).2.2⟩, h6⟩
  · rcases h.cut with h | ⟨m, mm, h1, h2, h3, h4⟩
    · exact Or.inl h
    · exact Or.inr ⟨m, mm, h1, ⟨h2, h3.lt⟩, h3, h4⟩

set_option maxHeartbeats 2000000 in
set_option maxRecDepth 100000 in
theorem deliver_ok {w : World} {S : Nat → Prop} {b : Nat} {st : NetS} {loc : Int → Int → Nat} {lv av cv : Value} (h : NetV w S b st loc lv av cv) (k : Nat) (hk : k < st.l.length) (hlen : st.l.length ≤ 1000000) :
    Calls Try.prog 12 #[.pointer (some ⟨b, 0, none⟩), .int .i64 k] w fun e w' => ∃ lv', e = .returned (.tuple #[.agg #[.int .i64 st.l[k].f, .int .i64 st.l[k].t, .string st.l[k].d], .int .i64 0]) ∧
      NetV w' S b { st with l := st.l.eraseIdx k } loc lv' av cv ∧ Keep S w w' := by
  replace h := h.cap2
  obtain ⟨S0, hS0⟩ : ∃ S0 : Nat → Prop, S0 = fun k => S k ∧ k < w.heap.size := ⟨_, rfl⟩
  rw [← hS0] at h
  have HS0 : Hid (∀ k, S0 k → S k ∧ k < w.heap.size) := Lib.hid (fun k hk => by rw [hS0] at hk; exact hk)
  clear hS0
  have H0 := Lib.hid (h.keep (T := fun _ => False) ((Keep.refl _ _).alloc (.cells #[.int .i64 0, .int .i64 0, .string (ByteArray.mk #[])] 29 (0, 0))) (by intro k _ _ hk; exact hk))
  have HX0 := Lib.hid (get1 w (.cells #[.int .i64 0, .int .i64 0, .string (ByteArray.mk #[])] 29 (0, 0)))
  have HK := Lib.hid hk
  obtain ⟨_, ⟨rfl, hn⟩ | ⟨g0, cap0, cur0, rfl, -⟩⟩ := id h.row
  · omega
  have hbl : b < w.heap.size := (Array.getElem?_eq_some_iff.1 h.blk).1
  clear h
  go_enter Try.func12, Try.ntmps12
  go_wp2_with fail
  refine (peek_ok H0.out k hk hlen).mono ?_
  rintro e w1 ⟨rfl, hk1⟩
  have h1 := H0.out.keep hk1 (by intro k _ _ hk; exact hk)
  have hx1 : w1.heap[w.heap.size]? = some (.cells #[.int .i64 0, .int .i64 0, .string (ByteArray.mk #[])] 29 (0, 0)) := (hk1.block _ (by show _ < (Array.push _ _).size; rw [Array.size_push]; omega) (by simp)).trans HX0.out
  have hlt1 : w.heap.size < w1.heap.size := (Array.getElem?_eq_some_iff.1 hx1).1
  have hk0 := HK.out
  have HG0 : Hid (∀ f t : Int, ∀ d : ByteArray, ∀ m : Int, st.l[k] = Gram.mk f t d m → Ending.returned (.tuple #[.agg #[.int .i64 f, .int .i64 t, .string d], .int .i64 0]) = Ending.returned (.tuple #[.agg #[.int .i64 (st.l[k]'hk0).f, .int .i64 (st.l[k]'hk0).t, .string (st.l[k]'hk0).d], .int .i64 0])) := Lib.hid (fun f t d m e => by rw [e])
  have HG1 : Hid (∃ g, st.l[k] = g) := Lib.hid ⟨_, rfl⟩
  generalize hgr : st.l[k] = gr
  obtain ⟨f, t, d, m⟩ := gr
  have c1 : w1.cell? ⟨b, 0, none⟩ = some (.slice (some ⟨g0, 0, none⟩) st.l.length cap0) := cell_of h1.blk 0 _ rfl
  have H1 := Lib.hid h1
  have HX1 := Lib.hid hx1
  have HK1 := Lib.hid hk1
  have hb1 : b < w1.heap.size := (Array.getElem?_eq_some_iff.1 h1.blk).1
  have h2 := h1.keep (T := fun _ => False) ((Keep.refl _ _).alloc (.cells #[.int .i64 f, .int .i64 t, .string d] 29 (0, 0))) (by intro k _ _ hk; exact hk)
  have H2 := Lib.hid h2
  obtain ⟨_, ⟨hv, _⟩ | ⟨g, cp, cur, hv, _, hg, hn1, hcap, hsz, htk⟩⟩ := h2.row
  · cases hv
  cases hv
  have HD := Lib.hid (delete_any g0 cap0 cur st.l k _ HK.out hg hn1 hcap hsz htk hlen)
  have HGR := Lib.hid hgr
  clear h1 hx1 hk1 hgr h2 hg htk hsz
  go_wp2_with fail
  refine HD.out.mono ?_
  rintro e w3 ⟨rfl, hrow3, hk3⟩
  have hbW := H2.out.blk
  have hbg : b ≠ g0 := by
    rintro rfl
    have hr := H2.out.row
    obtain ⟨_, ⟨hv, _⟩ | ⟨g, cp, cur, hv, _, hg, _⟩⟩ := hr
    · cases hv
    · cases hv; rw [hbW] at hg; cases hg
  have hg63 : ∃ cur, (w1.alloc (.cells #[.int .i64 f, .int .i64 t, .string d] 29 (0, 0))).heap[g0]? = some (.cells cur 63 (0, 0)) := by
    obtain ⟨_, ⟨hv, _⟩ | ⟨g, cp, cur, hv, _, hg, _⟩⟩ := H2.out.row
    · cases hv
    · cases hv; exact ⟨cur, hg⟩
  have hxW : (w1.alloc (.cells #[.int .i64 f, .int .i64 t, .string d] 29 (0, 0))).heap[w.heap.size]? = some (.cells #[.int .i64 0, .int .i64 0, .string (ByteArray.mk #[])] 29 (0, 0)) := (Below.heap_alloc _ _ _ hlt1).trans HX1.out
  have hn0 : w.heap.size ≠ g0 := by rintro e; obtain ⟨cur, hg⟩ := hg63; rw [← e, hxW] at hg; cases hg
  have hn1' : w1.heap.size ≠ g0 := by rintro e; obtain ⟨cur, hg⟩ := hg63; rw [← e, get1] at hg; cases hg
  have hW : (w1.alloc (.cells #[.int .i64 f, .int .i64 t, .string d] 29 (0, 0))).heap.size = w1.heap.size + 1 := Array.size_push _
  have b3 := (hk3.block b (by omega) hbg).trans hbW
  have x3 := (hk3.block w.heap.size (by omega) hn0).trans hxW
  have d3 := (hk3.block w1.heap.size (by omega) hn1').trans (get1 w1 (.cells #[.int .i64 f, .int .i64 t, .string d] 29 (0, 0)))
  have hs3 := hk3.size
  have B3 := Lib.hid (And.intro b3 (And.intro x3 (And.intro hg63 (And.intro hrow3 hk3))))
  have q0 : w3.cell? ⟨b, 0, none⟩ = some _ := cell_of b3 0 _ rfl
  have q1 : w3.frozen? ⟨b, 0, none⟩ = false := fz_of b3 0
  have r0 : w3.cell? ⟨w.heap.size, 0, none⟩ = some _ := cell_of x3 0 _ rfl
  have r1 : w3.cell? ⟨w.heap.size, 1, none⟩ = some _ := cell_of x3 1 _ rfl
  have r2 : w3.cell? ⟨w.heap.size, 2, none⟩ = some _ := cell_of x3 2 _ rfl
  have s0 : w3.frozen? ⟨w.heap.size, 0, none⟩ = false := fz_of x3 0
  have s1 : w3.frozen? ⟨w.heap.size, 1, none⟩ = false := fz_of x3 1
  have s2 : w3.frozen? ⟨w.heap.size, 2, none⟩ = false := fz_of x3 2
  have t0 : w3.cell? ⟨w1.heap.size, 0, none⟩ = some _ := cell_of d3 0 _ rfl
  have t1 : w3.cell? ⟨w1.heap.size, 1, none⟩ = some _ := cell_of d3 1 _ rfl
  have t2 : w3.cell? ⟨w1.heap.size, 2, none⟩ = some _ := cell_of d3 2 _ rfl
  have hnb : b ≠ w.heap.size := by omega
  have hnb1 : b ≠ w1.heap.size := by omega
  have hnw : w.heap.size ≠ w1.heap.size := by omega
  clear b3 x3 d3 hrow3 hk3 hg63 hxW hbW
  go_wp2_with fail
  obtain ⟨b3, x3, hg63, hrow3, hk3⟩ := B3.out
  have hk4 := (hk3.mono (S' := fun k => k = b ∨ k = g0) (fun k _ h => Or.inr h)).setCell ⟨b, 0, none⟩ (Or.inr (Or.inl rfl)) (.slice (some ⟨g0, 0, none⟩) (st.l.length - 1) cap0)
  have h4 := H2.out.setL hk4 (by rintro k (rfl | rfl) _; exact Or.inl rfl; exact Or.inr hg63) (blk_setCell b3) (row_keep hrow3 ((Keep.refl _ _).setB (b := b) _ _) (by rintro k ⟨cur, hc⟩ rfl; rw [b3] at hc; cases hc)) (by intro k hk; cases hk; exact H2.out.hrow g0 rfl)
  have hx4 : (w3.setCell ⟨b, 0, none⟩ (.slice (some ⟨g0, 0, none⟩) (st.l.length - 1) cap0)).heap[w.heap.size]? = _ := (Below.heap_setCell _ _ _ _ (by show w.heap.size ≠ b; omega)).trans x3
  have hKF := (((Keep.refl (· = w.heap.size) (w3.setCell ⟨b, 0, none⟩ (.slice (some ⟨g0, 0, none⟩) (st.l.length - 1) cap0))).setB 0 (.int .i64 f)).setB 1 (.int .i64 t)).setB 2 (.string d)
  have hF := blk_setCell (i := 2) (v := .string d) (blk_setCell (i := 1) (v := .int .i64 t) (blk_setCell (i := 0) (v := .int .i64 f) hx4))
  have h5 := (h4.keep hKF (by rintro k hk _ rfl; have := (HS0.out _ hk).2; omega)).mono (fun k hk => (HS0.out k hk).1)
  have hKA : Keep S w (w3.setCell ⟨b, 0, none⟩ (.slice (some ⟨g0, 0, none⟩) (st.l.length - 1) cap0)) := by
    refine ((((Keep.refl S w).alloc _).trans (HK1.out.mono (fun k _ h => h.elim))).alloc _).trans (hk4.mono ?_)
    rintro k _ (rfl | rfl)
    · exact (HS0.out _ H2.out.hb).1
    · exact (HS0.out _ (H2.out.hrow _ rfl)).1
  have hKB := ((hKA.setCell ⟨w.heap.size, 0, none⟩ (Or.inl (Nat.le_refl _)) (.int .i64 f)).setCell ⟨w.heap.size, 1, none⟩ (Or.inl (Nat.le_refl _)) (.int .i64 t)).setCell ⟨w.heap.size, 2, none⟩ (Or.inl (Nat.le_refl _)) (.string d)
  generalize ((((w3.setCell ⟨b, 0, none⟩ (.slice (some ⟨g0, 0, none⟩) (st.l.length - 1) cap0)).setCell ⟨w.heap.size, 0, none⟩ (.int .i64 f)).setCell ⟨w.heap.size, 1, none⟩ (.int .i64 t)).setCell ⟨w.heap.size, 2, none⟩ (.string d)) = WF at *
  have z0 : WF.cell? ⟨w.heap.size, 0, none⟩ = some (.int .i64 f) := cell_of hF 0 _ rfl
  have z1 : WF.cell? ⟨w.heap.size, 1, none⟩ = some (.int .i64 t) := cell_of hF 1 _ rfl
  have z2 : WF.cell? ⟨w.heap.size, 2, none⟩ = some (.string d) := cell_of hF 2 _ rfl
  exact bodyPost_ret (v := .tuple #[.agg #[.int .i64 f, .int .i64 t, .string d], .int .i64 0]) (by simp [results, Try.results12, go_sem, z0, z1, z2]) rfl ⟨_, HG0.out f t d m HGR.out, h5, hKB⟩
end Go.Proofs.Ytkfcjcbjefpliaa
