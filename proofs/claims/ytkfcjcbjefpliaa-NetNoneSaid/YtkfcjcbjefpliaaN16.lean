import Derived.Test.YtkfcjcbjefpliaaN15
namespace Go.Proofs.Ytkfcjcbjefpliaa
open Go.RowKit Go.Tg Go.Maps Go.Sort

/-! Of a nil net. -/
theorem eql24n (w : World) : (binOp .eql 24 (.pointer none) (.pointer none)).run Try.prog w = .ok (.bool true) w := by kernel_rfl

set_option maxHeartbeats 400000 in
theorem wrong_nil (i : Int) (w : World) : Calls Try.prog 26 #[.pointer none, .int .i64 i] w fun e w' => e = .returned (.int .i64 1) ∧ w' = w := by
  have heq := eql24n
  go_enter Try.func26, Try.ntmps26
  go_wp2_with fail
  go_ret
  exact ⟨rfl, rfl⟩

set_option maxHeartbeats 400000 in
theorem len_nil (w : World) : Calls Try.prog 13 #[.pointer none] w fun e w' => e = .returned (.int .i64 0) ∧ w' = w := by
  have heq := eql24n
  go_enter Try.func13, Try.ntmps13
  go_wp2_with fail
  go_ret
  exact ⟨rfl, rfl⟩

set_option maxHeartbeats 400000 in
theorem send_nil (f t : Int) (d : ByteArray) (w : World) : Calls Try.prog 11 #[.pointer none, .agg #[.int .i64 f, .int .i64 t, .string d]] w fun e w' => e = .returned (.int .i64 1) ∧ Keep (fun _ => False) w w' := by
  have heq := eql24n
  go_enter Try.func11, Try.ntmps11
  go_wp2_with fail
  go_ret
  exact ⟨rfl, (Keep.refl _ _).alloc _⟩

set_option maxHeartbeats 400000 in
theorem twice_nil (i : Int) (w : World) : Calls Try.prog 20 #[.pointer none, .int .i64 i] w fun e w' => e = .returned (.int .i64 1) ∧ w' = w := by
  go_enter Try.func20, Try.ntmps20
  go_wp2_with fail
  refine (wrong_nil i w).mono ?_
  rintro e w1 ⟨rfl, rfl⟩
  go_wp2_with fail
  go_ret
  exact ⟨rfl, rfl⟩

set_option maxHeartbeats 400000 in
theorem cut_nil (p q : Int) (on : Bool) (w : World) : Calls Try.prog 17 #[.pointer none, .agg #[.int .i64 p, .int .i64 q], .bool on] w fun e w' => e = .returned (.tuple #[]) ∧ Keep (fun _ => False) w w' := by
  have heq := eql24n
  go_enter Try.func17, Try.ntmps17
  go_wp2_with fail
  exact bodyPost_ret (v := .tuple #[]) (by simp [results, Try.results17, go_sem]) rfl ⟨rfl, (Keep.refl _ _).alloc _⟩

set_option maxHeartbeats 400000 in
theorem peek_nil (i : Int) (w : World) : Calls Try.prog 18 #[.pointer none, .int .i64 i] w fun e w' => e = .returned (.tuple #[.agg #[.int .i64 0, .int .i64 0, .string (ByteArray.mk #[])], .int .i64 1]) ∧ Keep (fun _ => False) w w' := by
  go_enter Try.func18, Try.ntmps18
  go_wp2_with fail
  refine (wrong_nil i _).mono ?_
  rintro e w1 ⟨rfl, rfl⟩
  go_wp2_with fail
  exact bodyPost_ret (v := .tuple #[.agg #[.int .i64 0, .int .i64 0, .string (ByteArray.mk #[])], .int .i64 1]) (by simp [results, Try.results18, go_sem]) rfl ⟨rfl, (Keep.refl _ _).alloc _⟩

set_option maxHeartbeats 1000000 in
set_option maxRecDepth 100000 in
theorem deliver_nil (i : Int) (w : World) : Calls Try.prog 12 #[.pointer none, .int .i64 i] w fun e w' => e = .returned (.tuple #[.agg #[.int .i64 0, .int .i64 0, .string (ByteArray.mk #[])], .int .i64 1]) ∧ Keep (fun _ => False) w w' := by
  have hx0 := get1 w (.cells #[.int .i64 0, .int .i64 0, .string (ByteArray.mk #[])] 29 (0, 0))
  have HX0 := Lib.hid hx0
  clear hx0
  go_enter Try.func12, Try.ntmps12
  go_wp2_with fail
  refine (peek_nil i _).mono ?_
  rintro e w1 ⟨rfl, hk1⟩
  have hx1 : w1.heap[w.heap.size]? = some (.cells #[.int .i64 0, .int .i64 0, .string (ByteArray.mk #[])] 29 (0, 0)) := (hk1.block _ (by show _ < (Array.push _ _).size; rw [Array.size_push]; omega) (by simp)).trans HX0.out
  have x0 : w1.cell? ⟨w.heap.size, 0, none⟩ = some (.int .i64 0) := cell_of hx1 0 _ rfl
  have x1 : w1.cell? ⟨w.heap.size, 1, none⟩ = some (.int .i64 0) := cell_of hx1 1 _ rfl
  have x2 : w1.cell? ⟨w.heap.size, 2, none⟩ = some (.string (ByteArray.mk #[])) := cell_of hx1 2 _ rfl
  have y0 : w1.frozen? ⟨w.heap.size, 0, none⟩ = false := fz_of hx1 0
  have y1 : w1.frozen? ⟨w.heap.size, 1, none⟩ = false := fz_of hx1 1
  have y2 : w1.frozen? ⟨w.heap.size, 2, none⟩ = false := fz_of hx1 2
  have hlt1 : w.heap.size < w1.heap.size := (Array.getElem?_eq_some_iff.1 hx1).1
  have HX1 := Lib.hid hx1
  have HK := Lib.hid (((Keep.refl (fun _ => False) w).alloc (.cells #[.int .i64 0, .int .i64 0, .string (ByteArray.mk #[])] 29 (0, 0))).trans hk1)
  clear hx1 hk1
  go_wp2_with fail
  have hF := dg_world w1 w.heap.size 0 0 (ByteArray.mk #[]) _ _ _ HX1.out (.cells #[.int .i64 0, .int .i64 0, .string (ByteArray.mk #[])] 29 (0, 0))
  have hKF : Keep (fun _ => False) w ((((w1.setCell ⟨w.heap.size, 0, none⟩ (.int .i64 0)).setCell ⟨w.heap.size, 1, none⟩ (.int .i64 0)).setCell ⟨w.heap.size, 2, none⟩ (.string (ByteArray.mk #[]))).alloc (.cells #[.int .i64 0, .int .i64 0, .string (ByteArray.mk #[])] 29 (0, 0))) :=
    (((HK.out.setCell _ (Or.inl (Nat.le_refl _)) _).setCell _ (Or.inl (Nat.le_refl _)) _).setCell _ (Or.inl (Nat.le_refl _)) _).alloc _
  generalize ((((w1.setCell ⟨w.heap.size, 0, none⟩ (.int .i64 0)).setCell ⟨w.heap.size, 1, none⟩ (.int .i64 0)).setCell ⟨w.heap.size, 2, none⟩ (.string (ByteArray.mk #[]))).alloc (.cells #[.int .i64 0, .int .i64 0, .string (ByteArray.mk #[])] 29 (0, 0))) = WF at *
  have z0 : WF.cell? ⟨w.heap.size, 0, none⟩ = some (.int .i64 0) := cell_of hF 0 _ rfl
  have z1 : WF.cell? ⟨w.heap.size, 1, none⟩ = some (.int .i64 0) := cell_of hF 1 _ rfl
  have z2 : WF.cell? ⟨w.heap.size, 2, none⟩ = some (.string (ByteArray.mk #[])) := cell_of hF 2 _ rfl
  exact bodyPost_ret (v := .tuple #[.agg #[.int .i64 0, .int .i64 0, .string (ByteArray.mk #[])], .int .i64 1]) (by simp [results, Try.results12, go_sem, z0, z1, z2]) rfl ⟨rfl, hKF⟩

set_option maxHeartbeats 1000000 in
theorem drop_nil (i : Int) (w : World) : Calls Try.prog 14 #[.pointer none, .int .i64 i] w fun e w' => e = .returned (.int .i64 1) ∧ Keep (fun _ => False) w w' := by
  go_enter Try.func14, Try.ntmps14
  go_wp2_with fail
  refine (deliver_nil i _).mono ?_
  rintro e w1 ⟨rfl, hk1⟩
  have HK := Lib.hid hk1
  clear hk1
  go_wp2_with fail
  go_ret
  exact ⟨rfl, HK.out.alloc _⟩

set_option maxHeartbeats 1000000 in
theorem spoil_nil (i at' by' : Int) (w : World) : Calls Try.prog 19 #[.pointer none, .int .i64 i, .int .i64 at', .int .i64 by'] w fun e w' => e = .returned (.int .i64 1) ∧ Keep (fun _ => False) w w' := by
  go_enter Try.func19, Try.ntmps19
  go_wp2_with fail
  refine (peek_nil i _).mono ?_
  rintro e w1 ⟨rfl, hk1⟩
  have HK := Lib.hid hk1
  clear hk1
  go_wp2_with fail
  go_ret
  exact ⟨rfl, HK.out.alloc _⟩

set_option maxHeartbeats 1000000 in
theorem sent_nil (p q : Int) (w : World) : Calls Try.prog 15 #[.pointer none, .agg #[.int .i64 p, .int .i64 q]] w fun e w' => e = .returned (.int .i64 0) ∧ Keep (fun _ => False) w w' := by
  have heq := eql24n
  go_enter Try.func15, Try.ntmps15
  go_wp2_with fail
  go_quiet (fail)
  go_wp2_with fail
  go_ret
  exact ⟨rfl, ((Keep.refl _ _).alloc _).drewN _⟩

set_option maxHeartbeats 1000000 in
theorem lost_nil (p q : Int) (w : World) : Calls Try.prog 16 #[.pointer none, .agg #[.int .i64 p, .int .i64 q]] w fun e w' => e = .returned (.int .i64 0) ∧ Keep (fun _ => False) w w' := by
  have heq := eql24n
  go_enter Try.func16, Try.ntmps16
  go_wp2_with fail
  go_quiet (fail)
  go_wp2_with fail
  go_ret
  exact ⟨rfl, ((Keep.refl _ _).alloc _).drewN _⟩
end Go.Proofs.Ytkfcjcbjefpliaa
