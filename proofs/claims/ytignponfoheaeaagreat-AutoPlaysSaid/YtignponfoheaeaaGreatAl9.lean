import Derived.Test.YtignponfoheaeaaGreatW3
/- alive of chapter 9. -/
namespace Go.Proofs.YtignponfoheaeaaGreat
open Go.RowKit Go.Tg Go.Maps

set_option maxHeartbeats 400000 in
theorem count_some (b : Nat) (s c cf tm : Int) (w : World) (h : AutoAt w b s c cf tm) (h0 : 1 ≤ cf) :
    Calls Tryz.prog 20 #[.pointer (some ⟨b, 0, none⟩)] w fun e w' => e = .returned (.int .i64 c) ∧ w = w' := by
  have hc := h.c1
  go_enter Tryz.func20, Tryz.ntmps20
  go_wp2_with (go_at_call 141; refine (none_some _ _ _ _ _ _ h h0).mono ?_; rintro e w' ⟨rfl, rfl⟩)
  go_ret
  exact ⟨rfl, rfl⟩
set_option maxHeartbeats 400000 in
theorem count_nil (w : World) :
    Calls Tryz.prog 20 #[.pointer none] w fun e w' => e = .returned (.int .i64 0) ∧ w = w' := by
  go_enter Tryz.func20, Tryz.ntmps20
  go_wp2_with (go_at_call 141; refine (none_nil _).mono ?_; rintro e w' ⟨rfl, rfl⟩)
  go_ret
  exact ⟨rfl, rfl⟩


theorem q9nx22 : nextS 2 2 = 6 := by decide
theorem q9nl22 : nextL 2 2 = [4, 6] := by decide
theorem q9nx02 : nextS 0 2 = 1 := by decide
theorem q9nl02 : nextL 0 2 = [2] := by decide
theorem q9nx10 : nextS 1 0 = 6 := by decide
theorem q9nl10 : nextL 1 0 = [4, 6] := by decide

theorem q9ints_two {B : Nat} {w : World} {v : Value} {x y : Int} (h : IntsAt 3 B w v [x, y]) : ∃ b, v = .slice (some ⟨b, 0, none⟩) 2 2 ∧ B ≤ b ∧ w.heap[b]? = some (.cells #[.int .i64 x, .int .i64 y] 3 (0, 0)) := by
  rcases h with ⟨h, _⟩ | ⟨b, h1, h2, h3⟩
  · cases h
  · exact ⟨b, h2, h1, h3⟩

set_option maxHeartbeats 1000000 in
set_option maxRecDepth 100000 in
theorem alive9_any (w : World) : Calls Tryz.prog 12 #[] w fun e w' => e = .returned (.bool true) ∧ Below w.heap.size w w' := by
  have HN := Lib.hid (next_any 2 2 (by decide) (by decide) w)
  rw [q9nx22, q9nl22] at HN
  have HNew := fun w => Lib.hid (new_ok 2 1 w (by decide) (by decide))
  go_enter Tryz.func12, Tryz.ntmps12
  go_wp2_with fail
  refine HN.out.mono ?_
  rintro en w1 ⟨v, rfl, hv, hbl1⟩
  obtain ⟨bl, rfl, hblB, hblk⟩ := q9ints_two hv
  go_wp2_with fail
  refine (HNew _).out.mono ?_
  rintro en w2 ⟨rfl, ha2, hk2⟩
  have HBLK := Lib.hid hblk
  clear hblk
  go_wp2_with fail
  refine (do_any _ 0 0 2 1 2 _ ha2 (by omega) (by omega) (by omega) (by omega) ⟨by omega, by omega⟩ (by decide) (by decide)).mono ?_
  rintro en w3 ⟨v3, rfl, -, ha3, hk3⟩
  rw [q9nx02, q9nl02] at ha3
  have ha3' : AutoAt w3 w1.heap.size 1 0 2 1 := ha3
  clear ha3
  go_wp2_with fail
  refine (do_any _ 1 0 2 1 0 _ ha3' (by omega) (by omega) (by omega) (by omega) ⟨by omega, by omega⟩ (by decide) (by decide)).mono ?_
  rintro en w4 ⟨v4, rfl, -, ha4, hk4⟩
  rw [q9nx10, q9nl10] at ha4
  have ha4' : AutoAt w4 w1.heap.size 6 1 2 1 := ha4
  have hb1 : bl < w1.heap.size := (Array.getElem?_eq_some_iff.1 HBLK.out).1
  have hs2 := hk2.size
  have hs3 := hk3.size
  have hbk4 : w4.heap[bl]? = some (.cells #[.int .i64 4, .int .i64 6] 3 (0, 0)) := by
    rw [hk4.block bl (by omega) (by omega), hk3.block bl (by omega) (by omega), hk2.block bl (by omega) (by simp)]
    exact HBLK.out
  have c0 := cell_of_block hbk4 0
  have c1 := cell_of_block hbk4 1
  simp only [List.getElem?_toArray, List.getElem?_cons_zero, List.getElem?_cons_succ] at c0 c1
  have hfin : Below w.heap.size w w4 := hbl1.trans (((hk2.below hbl1.size (by simp)).trans (hk3.below (by have := hbl1.size; omega) (fun k h1 h2 => by have := hbl1.size; omega))).trans (hk4.below (by have := hbl1.size; omega) (fun k h1 h2 => by have := hbl1.size; omega)))
  have HF := Lib.hid hfin
  have HW := Lib.hid (show waitsB 6 = true by decide)
  clear ha4 ha3' ha2 hk2 hk3 hk4 hfin hbk4 hbl1 hs2 hs3 hb1
  go_wp2_with fail
  refine (count_some _ _ _ _ _ _ ha4' (by omega)).mono ?_
  rintro en w5 ⟨rfl, rfl⟩
  go_wp2_with fail
  refine (state_some _ _ _ _ _ _ ha4' (by omega)).mono ?_
  rintro en w5 ⟨rfl, rfl⟩
  go_wp2_with fail
  refine (waits_some _ _ _ _ _ _ ha4' (by omega)).mono ?_
  rintro en w5 ⟨rfl, rfl⟩
  rw [HW.out]
  go_wp2_with fail
  go_ret
  exact ⟨rfl, HF.out⟩
end Go.Proofs.YtignponfoheaeaaGreat
