import Derived.Test.YtkfcjcbjefpliaaN11
namespace Go.Proofs.Ytkfcjcbjefpliaa
open Go.RowKit Go.Tg Go.Maps Go.Sort

set_option maxHeartbeats 1000000 in
set_option maxRecDepth 100000 in
theorem peek_bad {w : World} {S : Nat → Prop} {b : Nat} {st : NetS} {loc : Int → Int → Nat} {lv av cv : Value} (h : NetV w S b st loc lv av cv) (i : Int) (hlen : st.l.length ≤ 1000000) (hi : ¬ (0 ≤ i ∧ i < st.l.length)) :
    Calls Try.prog 18 #[.pointer (some ⟨b, 0, none⟩), .int .i64 i] w fun e w' => e = .returned (.tuple #[.agg #[.int .i64 0, .int .i64 0, .string (ByteArray.mk #[])], .int .i64 3]) ∧ Keep (fun _ => False) w w' := by
  have H0 := Lib.hid (h.keep (T := fun _ => False) ((Keep.refl _ _).alloc (.cells #[.int .i64 0, .int .i64 0, .string (ByteArray.mk #[])] 29 (0, 0))) (by intro k _ _ hk; exact hk))
  clear h
  go_enter Try.func18, Try.ntmps18
  go_wp2_with fail
  refine (wrong_any H0.out i hlen).mono ?_
  rintro e w1 ⟨rfl, rfl⟩
  rw [if_neg hi]
  go_wp2_with fail
  refine bodyPost_ret (v := .tuple #[.agg #[.int .i64 0, .int .i64 0, .string (ByteArray.mk #[])], .int .i64 3]) (by simp [results, Try.results18, go_sem]) rfl ⟨rfl, (Keep.refl _ _).alloc _⟩

set_option maxHeartbeats 1000000 in
set_option maxRecDepth 100000 in
theorem peek_ok {w : World} {S : Nat → Prop} {b : Nat} {st : NetS} {loc : Int → Int → Nat} {lv av cv : Value} (h : NetV w S b st loc lv av cv) (k : Nat) (hk : k < st.l.length) (hlen : st.l.length ≤ 1000000) :
    Calls Try.prog 18 #[.pointer (some ⟨b, 0, none⟩), .int .i64 k] w fun e w' => e = .returned (.tuple #[.agg #[.int .i64 st.l[k].f, .int .i64 st.l[k].t, .string st.l[k].d], .int .i64 0]) ∧ Keep (fun _ => False) w w' := by
  have H0 := Lib.hid (h.keep (T := fun _ => False) ((Keep.refl _ _).alloc (.cells #[.int .i64 0, .int .i64 0, .string (ByteArray.mk #[])] 29 (0, 0))) (by intro k _ _ hk; exact hk))
  have hb := h.blk
  have hrow := h.row
  have hbl : b < w.heap.size := (Array.getElem?_eq_some_iff.1 h.blk).1
  obtain ⟨_, ⟨rfl, hn⟩ | ⟨g0, cap0, cur0, rfl, -⟩⟩ := id hrow
  · omega
  obtain ⟨g, hg, hlt, -, hcap, hmax, hcells⟩ := row_cells hrow
  cases hg
  obtain ⟨c0, c1, c2, -⟩ := hcells k hk
  have cb : w.cell? ⟨b, 0, none⟩ = some (.slice (some ⟨g0, 0, none⟩) st.l.length cap0) := cell_of hb 0 _ rfl
  obtain ⟨len, hln⟩ : ∃ len, len = st.l.length := ⟨_, rfl⟩
  rw [← hln] at cb
  generalize st.l[k] = gr at *
  obtain ⟨f, t, d, m⟩ := gr
  simp only at c0 c1 c2 ⊢
  unfold maxLen at hmax
  clear h hb hrow hcells
  have hi : decide ((k : Int) < 0) = false := by simp
  have HIF := Lib.hid (show (0 : Int) ≤ (k : Int) ∧ (k : Int) < (st.l.length : Int) from ⟨by omega, by omega⟩)
  go_enter Try.func18, Try.ntmps18
  go_wp2_with fail
  refine (wrong_any H0.out k hlen).mono ?_
  rintro e w1 ⟨rfl, rfl⟩
  rw [if_pos HIF.out]
  have hkl : k < len := by omega
  go_wp2_with fail
  refine bodyPost_ret (v := .tuple #[.agg #[.int .i64 f, .int .i64 t, .string d], .int .i64 0]) (by simp [results, Try.results18, go_sem]) rfl ⟨rfl, (Keep.refl _ _).alloc _⟩
end Go.Proofs.Ytkfcjcbjefpliaa
