import Derived.Test.YtkfcjcbjefpliaaN24
namespace Go.Proofs.Ytkfcjcbjefpliaa
open Go.RowKit Go.Tg Go.Maps Go.Sort

def spS (d : ByteArray) : NetS := ⟨[Gram.mk 1 2 d 1], setAt st0.at' 1 2 (1, 0), st0.cut⟩
theorem send_sp (d : ByteArray) : sendS st0 1 2 d = spS d := by rw [sendS_room (s := 0) (l := 0) rfl rfl (by decide)]; rfl

set_option maxHeartbeats 4000000 in
set_option maxRecDepth 100000 in
theorem spoils_bad (d : ByteArray) (at' by' : Int) (w : World) (h : d.size < 1 ∨ 1500 < d.size ∨ by' < 1 ∨ 255 < by') (hm : d.size ≤ maxLen) :
    Calls Try.prog 6 #[.string d, .int .i64 at', .int .i64 by'] w fun e w' => e = .returned (.bool true) ∧ Below w.heap.size w w' := by
  unfold maxLen at hm
  by_cases h1 : d.size < 1
  all_goals by_cases h2 : 1500 < d.size
  all_goals by_cases h3 : by' < 1
  all_goals by_cases h4 : 255 < by'
  all_goals first
    | omega
    | (clear h
       go_enter Try.func6, Try.ntmps6
       go_wp2_with fail
       refine (alive_any w).mono ?_
       rintro e w1 ⟨rfl, hk⟩
       have HK := Lib.hid hk
       clear hk
       go_wp2_with fail
       go_ret
       exact ⟨rfl, HK.out.below (Nat.le_refl _) (fun _ _ h => h)⟩)

set_option maxHeartbeats 4000000 in
set_option maxRecDepth 100000 in
theorem spoils_ok (d : ByteArray) (at' : Int) (m : Nat) (w : World) (hat : I64 at') (h1 : 1 ≤ d.size) (h2 : d.size ≤ 1500) (h3 : 1 ≤ m) (h4 : m ≤ 255) :
    Calls Try.prog 6 #[.string d, .int .i64 at', .int .i64 m] w fun e w' => e = .returned (.bool true) ∧ Below w.heap.size w w' := by
  obtain ⟨p, hp⟩ := place_ex at' d.size (by omega)
  have q1 : decide ((d.size : Int) < 1) = false := by simp; omega
  have q2 : decide ((1500 : Int) < (d.size : Int)) = false := by simp; omega
  have q3 : decide ((m : Int) < 1) = false := by simp; omega
  have q4 : decide ((255 : Int) < (m : Int)) = false := by simp; omega
  have HN := Lib.hid (NetI.new (W := w) (Keep.refl _ w) (fun _ => False) (fun _ h => h.elim))
  have heq := eql24a
  have HP := Lib.hid hp
  have HAT := Lib.hid hat
  clear hp hat
  go_enter Try.func6, Try.ntmps6
  go_wp2_with fail
  refine HN.out.mono ?_
  rintro e w1 ⟨rfl, hh1, -⟩
  generalize hbe : w.heap.size = b at hh1 ⊢
  have HBE := Lib.hid hbe
  have H1 := Lib.hid hh1
  clear hbe hh1 HN
  go_wp2_with fail
  refine (H1.out.send 1 2 d i64_one i64_two (by omega) 0 0 rfl (by omega) (by omega) (by omega) (by omega) (by intro g hg; cases hg)).mono ?_
  rintro e w2 ⟨rfl, hh2, -⟩
  rw [send_sp] at hh2
  have H2 := Lib.hid hh2
  clear hh2 H1
  go_wp2_with fail
  refine (H2.out.spoil 0 (Nat.zero_lt_one) (by show 1 ≤ 1000000; omega) d rfl (by omega) (by omega) at' m HAT.out h3 h4 p HP.out).mono ?_
  rintro e w3 ⟨rfl, hh3, -⟩
  have H3 : Hid (NetI w (fun _ => False) b (spS (spoilD d p m)) w3) := Lib.hid hh3
  clear hh3 H2
  go_wp2_with fail
  refine (H3.out.peek_ok 0 (Nat.zero_lt_one) (by show 1 ≤ 1000000; omega)).mono ?_
  rintro e w4 ⟨rfl, hh4, -⟩
  simp only [spS, List.getElem_cons_zero]
  have hx4 := get1 w4 (.cells #[.int .i64 1, .int .i64 2, .string (spoilD d p m)] 29)
  have hl4 : w4.heap.size < (w4.alloc (.cells #[.int .i64 1, .int .i64 2, .string (spoilD d p m)] 29)).heap.size := by show _ < (Array.push _ _).size; rw [Array.size_push]; omega
  have H4 := Lib.hid (hh4.box (w' := w4.alloc (.cells #[.int .i64 1, .int .i64 2, .string (spoilD d p m)] 29)) w4.heap.size (Nat.le_refl _) hl4 ((Keep.refl _ _).alloc _))
  have HX4 := Lib.hid (And.intro hx4 hl4)
  clear hh4 hx4 hl4 H3
  go_wp2_with fail
  refine (H4.out.spoil 0 (Nat.zero_lt_one) (by show 1 ≤ 1000000; omega) (spoilD d p m) rfl (by rw [spoilD_size]; omega) (by rw [spoilD_size]; omega) at' m HAT.out h3 h4 p (by rw [spoilD_size]; exact HP.out)).mono ?_
  rintro e w5 ⟨rfl, hh5, hk5⟩
  have HX5 := Lib.hid (And.intro ((hk5.at HX4.out.2 (Or.inr rfl)).trans HX4.out.1) (Nat.lt_of_lt_of_le HX4.out.2 hk5.size))
  have H5 : Hid (NetI w (fun k => False ∨ k = w4.heap.size) b (spS d) w5) := Lib.hid (by
    have e : (spoilD (spoilD d p m) p m) = d := spoil_back d p m HP.out.1 (by omega)
    simp only [spS, List.set_cons_zero, e] at hh5
    exact hh5)
  clear hh5 hk5 HX4 H4
  go_wp2_with fail
  refine (H5.out.peek_ok 0 (Nat.zero_lt_one) (by show 1 ≤ 1000000; omega)).mono ?_
  rintro e w6 ⟨rfl, hh6, hk6⟩
  simp only [spS, List.getElem_cons_zero]
  have HX6 := Lib.hid (And.intro ((hk6.at HX5.out.2 (Or.inr rfl)).trans HX5.out.1) (Nat.lt_of_lt_of_le HX5.out.2 hk6.size))
  have HK6 := Lib.hid hh6.keep
  clear hh6 hk6 HX5 H5
  have hx6 := get1 w6 (.cells #[.int .i64 1, .int .i64 2, .string d] 29)
  have hs6 : w6.heap.size < (w6.alloc (.cells #[.int .i64 1, .int .i64 2, .string d] 29)).heap.size := by show _ < (Array.push _ _).size; rw [Array.size_push]; omega
  have HY6 := Lib.hid (And.intro hx6 hs6)
  clear hx6 hs6
  go_wp2_with fail
  refine (alive_any _).mono ?_
  rintro e w7 ⟨rfl, hk7⟩
  have hA := (hk7.block _ HY6.out.2 (by simp)).trans HY6.out.1
  have hB := ((((Keep.refl (fun _ => False) w6).alloc (.cells #[.int .i64 1, .int .i64 2, .string d] 29)).trans hk7).block _ HX6.out.2 (by simp)).trans HX6.out.1
  have a2 : w7.cell? ⟨w6.heap.size, 2, none⟩ = some (.string d) := cell_of hA 2 _ rfl
  have b2 : w7.cell? ⟨w4.heap.size, 2, none⟩ = some (.string (spoilD d p m)) := cell_of hB 2 _ rfl
  have HK7 := Lib.hid ((HK6.out.alloc (.cells #[.int .i64 1, .int .i64 2, .string d] 29)).trans hk7)
  have hDs := spoilD_size d p m
  have hne : ((spoilD d p m).toList == d.toList) = false := by
    rw [beq_eq_false_iff_ne]
    intro e
    rw [Lib.toList_data, Lib.toList_data] at e
    exact spoil_ne d p m HP.out.1 (by omega) h3 (ByteArray.ext (Array.toList_inj.1 e))
  generalize spoilD d p m = D at *
  clear hA hB hk7 HX6 HY6 HK6 HP
  go_wp2_with fail
  go_ret
  exact ⟨rfl, HK7.out.below (Nat.le_refl _) (fun _ _ h => h)⟩

theorem spoils_walk (d : ByteArray) (at' by' : Int) (w : World) (hm : d.size ≤ maxLen) (hat : I64 at') :
    Calls Try.prog 6 #[.string d, .int .i64 at', .int .i64 by'] w fun e w' => e = .returned (.bool true) ∧ Below w.heap.size w w' := by
  by_cases h : d.size < 1 ∨ 1500 < d.size ∨ by' < 1 ∨ 255 < by'
  · exact spoils_bad d at' by' w h hm
  · obtain ⟨m, rfl⟩ := Int.eq_ofNat_of_zero_le (show 0 ≤ by' by omega)
    exact spoils_ok d at' m w hat (by omega) (by omega) (by omega) (by omega)
end Go.Proofs.Ytkfcjcbjefpliaa
