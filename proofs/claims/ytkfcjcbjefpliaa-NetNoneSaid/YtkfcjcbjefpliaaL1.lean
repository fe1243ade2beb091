import Derived.Test.YtkfcjcbjefpliaaN23
import Derived.Test.YtkfcjcbjefpliaaN16
namespace Go.Proofs.Ytkfcjcbjefpliaa
open Go.RowKit Go.Tg Go.Maps Go.Sort

set_option maxHeartbeats 2000000 in
set_option maxRecDepth 100000 in
theorem none_walk (i f t : Int) (d : ByteArray) (w : World) :
    Calls Try.prog 8 #[.int .i64 i, .agg #[.int .i64 f, .int .i64 t, .string d]] w fun e w' => e = .returned (.bool true) ∧ Below w.heap.size w w' := by
  obtain ⟨W, hW⟩ : ∃ W : World, W = w := ⟨_, rfl⟩
  have hx := get1 w (.cells #[.int .i64 f, .int .i64 t, .string d] 29)
  have HX := Lib.hid hx
  have H0 : Hid (Keep (fun _ => False) w (w.alloc (.cells #[.int .i64 f, .int .i64 t, .string d] 29))) := Lib.hid ((Keep.refl _ _).alloc _)
  have L0 : Hid (w.heap.size < (w.alloc (.cells #[.int .i64 f, .int .i64 t, .string d] 29)).heap.size) := Lib.hid (by show _ < (Array.push _ _).size; rw [Array.size_push]; omega)
  clear hx hW
  go_enter Try.func8, Try.ntmps8
  go_wp2_with fail
  refine (deliver_nil i _).mono ?_
  rintro e w1 ⟨rfl, hk1⟩
  have H1 : Hid (Keep (fun _ => False) (w.alloc (.cells #[.int .i64 f, .int .i64 t, .string d] 29)) (w1.alloc (.cells #[.int .i64 0, .int .i64 0, .string (ByteArray.mk #[])] 29))) := Lib.hid (hk1.alloc _)
  clear hk1
  go_wp2_with fail
  refine (peek_nil i _).mono ?_
  rintro e w2 ⟨rfl, hk2⟩
  have H2 : Hid (Keep (fun _ => False) (w.alloc (.cells #[.int .i64 f, .int .i64 t, .string d] 29)) (w2.alloc (.cells #[.int .i64 0, .int .i64 0, .string (ByteArray.mk #[])] 29))) := Lib.hid ((H1.out.trans hk2).alloc _)
  clear hk2 H1
  go_wp2_with fail
  refine (cut_nil 0 0 true _).mono ?_
  rintro e w3 ⟨rfl, hk3⟩
  have H3 : Hid (Keep (fun _ => False) (w.alloc (.cells #[.int .i64 f, .int .i64 t, .string d] 29)) w3) := Lib.hid (H2.out.trans hk3)
  clear hk3 H2
  go_wp2_with fail
  refine (alive_any _).mono ?_
  rintro e w4 ⟨rfl, hk4⟩
  have H4 := Lib.hid (H3.out.trans hk4)
  have hx4 := (H4.out.block w.heap.size L0.out (by simp)).trans HX.out
  have x0 : w4.cell? ⟨w.heap.size, 0, none⟩ = some (.int .i64 f) := cell_of hx4 0 _ rfl
  have x1 : w4.cell? ⟨w.heap.size, 1, none⟩ = some (.int .i64 t) := cell_of hx4 1 _ rfl
  have x2 : w4.cell? ⟨w.heap.size, 2, none⟩ = some (.string d) := cell_of hx4 2 _ rfl
  clear hk4 hx4 H3
  go_wp2_with fail
  refine (send_nil f t d _).mono ?_
  rintro e w5 ⟨rfl, hk5⟩
  have H5 := Lib.hid (H4.out.trans hk5)
  clear hk5 H4 x0 x1 x2
  go_wp2_with fail
  refine (drop_nil i _).mono ?_
  rintro e w6 ⟨rfl, hk6⟩
  have H6 := Lib.hid (H5.out.trans hk6)
  clear hk6 H5
  go_wp2_with fail
  refine (twice_nil i _).mono ?_
  rintro e w7 ⟨rfl, rfl⟩
  go_wp2_with fail
  refine (spoil_nil i 0 1 _).mono ?_
  rintro e w8 ⟨rfl, hk8⟩
  have H8 := Lib.hid (H6.out.trans hk8)
  clear hk8 H6
  go_wp2_with fail
  refine (len_nil _).mono ?_
  rintro e w9 ⟨rfl, rfl⟩
  go_wp2_with fail
  refine (sent_nil 0 0 _).mono ?_
  rintro e w10 ⟨rfl, hk10⟩
  have H10 := Lib.hid (H8.out.trans hk10)
  clear hk10 H8
  go_wp2_with fail
  refine (lost_nil 0 0 _).mono ?_
  rintro e w11 ⟨rfl, hk11⟩
  have H11 := Lib.hid (H0.out.trans (H10.out.trans hk11))
  clear hk11 H10
  go_wp2_with fail
  go_ret
  exact ⟨rfl, H11.out.below (Nat.le_refl _) (fun _ _ h => h)⟩
end Go.Proofs.Ytkfcjcbjefpliaa
