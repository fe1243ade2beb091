import Derived.Test.YtkfcjcbjefpliaaN12
namespace Go.Proofs.Ytkfcjcbjefpliaa
open Go.RowKit Go.Tg Go.Maps Go.Sort

theorem fz_of {w : World} {k : Nat} {cs : Array Value} {T : TypeId} (h : w.heap[k]? = some (.cells cs T (0, 0))) (o : Nat) : w.frozen? ⟨k, o, none⟩ = false := by simp [World.frozen?, h]

theorem dg_world (w1 : World) (k : Nat) (f t : Int) (d : ByteArray) (a0 a1 a2 : Value) (h : w1.heap[k]? = some (.cells #[a0, a1, a2] 29 (0, 0))) (D : Obj) :
    ((((w1.setCell ⟨k, 0, none⟩ (.int .i64 f)).setCell ⟨k, 1, none⟩ (.int .i64 t)).setCell ⟨k, 2, none⟩ (.string d)).alloc D).heap[k]? = some (.cells #[.int .i64 f, .int .i64 t, .string d] 29 (0, 0)) := by
  have hk : k < w1.heap.size := (Array.getElem?_eq_some_iff.1 h).1
  rw [Below.heap_alloc _ _ _ (by rw [sz_setCell, sz_setCell, sz_setCell]; exact hk)]
  exact blk_setCell (blk_setCell (blk_setCell h))

set_option maxHeartbeats 1000000 in
set_option maxRecDepth 100000 in
theorem deliver_bad {w : World} {S : Nat → Prop} {b : Nat} {st : NetS} {loc : Int → Int → Nat} {lv av cv : Value} (h : NetV w S b st loc lv av cv) (i : Int) (hlen : st.l.length ≤ 1000000) (hi : ¬ (0 ≤ i ∧ i < st.l.length)) :
    Calls Try.prog 12 #[.pointer (some ⟨b, 0, none⟩), .int .i64 i] w fun e w' => e = .returned (.tuple #[.agg #[.int .i64 0, .int .i64 0, .string (ByteArray.mk #[])], .int .i64 3]) ∧ Keep (fun _ => False) w w' := by
  have H0 := Lib.hid (h.keep (T := fun _ => False) ((Keep.refl _ _).alloc (.cells #[.int .i64 0, .int .i64 0, .string (ByteArray.mk #[])] 29 (0, 0))) (by intro k _ _ hk; exact hk))
  have hx0 := get1 w (.cells #[.int .i64 0, .int .i64 0, .string (ByteArray.mk #[])] 29 (0, 0))
  have HX0 := Lib.hid hx0
  clear h hx0
  go_enter Try.func12, Try.ntmps12
  go_wp2_with fail
  refine (peek_bad H0.out i hlen hi).mono ?_
  rintro e w1 ⟨rfl, hk1⟩
  have hx1 : w1.heap[w.heap.size]? = some (.cells #[.int .i64 0, .int .i64 0, .string (ByteArray.mk #[])] 29 (0, 0)) := (hk1.block _ (by show _ < (Array.push _ _).size; rw [Array.size_push]; omega) (by simp)).trans HX0.out
  have x0 : w1.cell? ⟨w.heap.size, 0, none⟩ = some (.int .i64 0) := cell_of hx1 0 _ rfl
  have x1 : w1.cell? ⟨w.heap.size, 1, none⟩ = some (.int .i64 0) := cell_of hx1 1 _ rfl
  have x2 : w1.cell? ⟨w.heap.size, 2, none⟩ = some (.string (ByteArray.mk #[])) := cell_of hx1 2 _ rfl
  have y0 : w1.frozen? ⟨w.heap.size, 0, none⟩ = false := fz_of hx1 0
  have y1 : w1.frozen? ⟨w.heap.size, 1, none⟩ = false := fz_of hx1 1
  have y2 : w1.frozen? ⟨w.heap.size, 2, none⟩ = false := fz_of hx1 2
  have hlt1 : w.heap.size < w1.heap.size := (Array.getElem?_eq_some_iff.1 hx1).1
  have HX1 := Lib.hid hx1
  have HK := Lib.hid (((Keep.refl (fun _ => False) w).alloc (.cells #[.int .i64 0, .int .i64 0, .string (ByteArray.mk #[])] 29 (0, 0))).trans hk1)
  clear hx1 hk1
  go_wp2_with fail
  have hF := dg_world w1 w.heap.size 0 0 (ByteArray.mk #[]) _ _ _ HX1.out (.cells #[.int .i64 0, .int .i64 0, .string (ByteArray.mk #[])] 29 (0, 0))
  have hKF : Keep (fun _ => False) w ((((w1.setCell ⟨w.heap.size, 0, none⟩ (.int .i64 0)).setCell ⟨w.heap.size, 1, none⟩ (.int .i64 0)).setCell ⟨w.heap.size, 2, none⟩ (.string (ByteArray.mk #[]))).alloc (.cells #[.int .i64 0, .int .i64 0, .string (ByteArray.mk #[])] 29 (0, 0))) :=
    (((HK.out.setCell _ (Or.inl (Nat.le_refl _)) _).setCell _ (Or.inl (Nat.le_refl _)) _).setCell _ (Or.inl (Nat.le_refl _)) _).alloc _
  generalize ((((w1.setCell ⟨w.heap.size, 0, none⟩ (.int .i64 0)).setCell ⟨w.heap.size, 1, none⟩ (.int .i64 0)).setCell ⟨w.heap.size, 2, none⟩ (.string (ByteArray.mk #[]))).alloc (.cells #[.int .i64 0, .int .i64 0, .string (ByteArray.mk #[])] 29 (0, 0))) = WF at *
  have z0 : WF.cell? ⟨w.heap.size, 0, none⟩ = some (.int .i64 0) := cell_of hF 0 _ rfl
  have z1 : WF.cell? ⟨w.heap.size, 1, none⟩ = some (.int .i64 0) := cell_of hF 1 _ rfl
  have z2 : WF.cell? ⟨w.heap.size, 2, none⟩ = some (.string (ByteArray.mk #[])) := cell_of hF 2 _ rfl
  exact bodyPost_ret (v := .tuple #[.agg #[.int .i64 0, .int .i64 0, .string (ByteArray.mk #[])], .int .i64 3]) (by simp [results, Try.results12, go_sem, z0, z1, z2]) rfl ⟨rfl, hKF⟩
end Go.Proofs.Ytkfcjcbjefpliaa
