import Derived.Test.YtignponfoheaeaaGreatR2
/- The reference's automaton, walked: action, Next. -/
namespace Go.Proofs.YtignponfoheaeaaGreat
open Go.RowKit Go.Tg Go.Maps

theorem str_eq {wd : ByteArray} {l : List UInt8} (h : wd = bs l) : (wd.toList == l) = true := by
  subst h
  rw [ByteArray.toList_eq]
  show (l.toArray.toList == l) = true
  simp
theorem str_ne {wd : ByteArray} {l : List UInt8} (h : ¬ wd = bs l) : (wd.toList == l) = false := by
  cases hh : (wd.toList == l) with
  | false => rfl
  | true =>
    have := eq_of_beq hh
    rw [ByteArray.toList_eq] at this
    exact absurd (ByteArray.ext (by rw [← this]; rfl)) h

set_option maxHeartbeats 8000000 in
theorem action_any (wd : ByteArray) (w : World) : Calls Tryz.prog 65 #[.string wd] w fun e w' => e = .returned (.int .i64 (actE wd)) ∧ w = w' := by
  by_cases h0 : wd = bs [116, 108, 117]
  · have q0 := str_eq h0
    have he : actE wd = 0 := by unfold actE; rw [if_pos h0]
    rw [he]
    clear he h0
    go_enter Tryz.func65, Tryz.ntmps65
    go_wp2_with fail
    go_ret
    exact ⟨rfl, rfl⟩
  have q0 := str_ne h0
  by_cases h1 : wd = bs [116, 108, 100]
  · have q1 := str_eq h1
    have he : actE wd = 1 := by unfold actE; rw [if_neg h0, if_pos h1]
    rw [he]
    clear he h0 h1
    go_enter Tryz.func65, Tryz.ntmps65
    go_wp2_with fail
    go_ret
    exact ⟨rfl, rfl⟩
  have q1 := str_ne h1
  by_cases h2 : wd = bs [116, 108, 115]
  · have q2 := str_eq h2
    have he : actE wd = 2 := by unfold actE; rw [if_neg h0, if_neg h1, if_pos h2]
    rw [he]
    clear he h0 h1 h2
    go_enter Tryz.func65, Tryz.ntmps65
    go_wp2_with fail
    go_ret
    exact ⟨rfl, rfl⟩
  have q2 := str_ne h2
  by_cases h3 : wd = bs [116, 108, 102]
  · have q3 := str_eq h3
    have he : actE wd = 3 := by unfold actE; rw [if_neg h0, if_neg h1, if_neg h2, if_pos h3]
    rw [he]
    clear he h0 h1 h2 h3
    go_enter Tryz.func65, Tryz.ntmps65
    go_wp2_with fail
    go_ret
    exact ⟨rfl, rfl⟩
  have q3 := str_ne h3
  by_cases h4 : wd = bs [105, 114, 99]
  · have q4 := str_eq h4
    have he : actE wd = 4 := by unfold actE; rw [if_neg h0, if_neg h1, if_neg h2, if_neg h3, if_pos h4]
    rw [he]
    clear he h0 h1 h2 h3 h4
    go_enter Tryz.func65, Tryz.ntmps65
    go_wp2_with fail
    go_ret
    exact ⟨rfl, rfl⟩
  have q4 := str_ne h4
  by_cases h5 : wd = bs [122, 114, 99]
  · have q5 := str_eq h5
    have he : actE wd = 5 := by unfold actE; rw [if_neg h0, if_neg h1, if_neg h2, if_neg h3, if_neg h4, if_pos h5]
    rw [he]
    clear he h0 h1 h2 h3 h4 h5
    go_enter Tryz.func65, Tryz.ntmps65
    go_wp2_with fail
    go_ret
    exact ⟨rfl, rfl⟩
  have q5 := str_ne h5
  by_cases h6 : wd = bs [115, 99, 114]
  · have q6 := str_eq h6
    have he : actE wd = 6 := by unfold actE; rw [if_neg h0, if_neg h1, if_neg h2, if_neg h3, if_neg h4, if_neg h5, if_pos h6]
    rw [he]
    clear he h0 h1 h2 h3 h4 h5 h6
    go_enter Tryz.func65, Tryz.ntmps65
    go_wp2_with fail
    go_ret
    exact ⟨rfl, rfl⟩
  have q6 := str_ne h6
  by_cases h7 : wd = bs [115, 99, 97]
  · have q7 := str_eq h7
    have he : actE wd = 7 := by unfold actE; rw [if_neg h0, if_neg h1, if_neg h2, if_neg h3, if_neg h4, if_neg h5, if_neg h6, if_pos h7]
    rw [he]
    clear he h0 h1 h2 h3 h4 h5 h6 h7
    go_enter Tryz.func65, Tryz.ntmps65
    go_wp2_with fail
    go_ret
    exact ⟨rfl, rfl⟩
  have q7 := str_ne h7
  by_cases h8 : wd = bs [115, 99, 110]
  · have q8 := str_eq h8
    have he : actE wd = 8 := by unfold actE; rw [if_neg h0, if_neg h1, if_neg h2, if_neg h3, if_neg h4, if_neg h5, if_neg h6, if_neg h7, if_pos h8]
    rw [he]
    clear he h0 h1 h2 h3 h4 h5 h6 h7 h8
    go_enter Tryz.func65, Tryz.ntmps65
    go_wp2_with fail
    go_ret
    exact ⟨rfl, rfl⟩
  have q8 := str_ne h8
  by_cases h9 : wd = bs [115, 116, 114]
  · have q9 := str_eq h9
    have he : actE wd = 9 := by unfold actE; rw [if_neg h0, if_neg h1, if_neg h2, if_neg h3, if_neg h4, if_neg h5, if_neg h6, if_neg h7, if_neg h8, if_pos h9]
    rw [he]
    clear he h0 h1 h2 h3 h4 h5 h6 h7 h8 h9
    go_enter Tryz.func65, Tryz.ntmps65
    go_wp2_with fail
    go_ret
    exact ⟨rfl, rfl⟩
  have q9 := str_ne h9
  by_cases h10 : wd = bs [115, 116, 97]
  · have q10 := str_eq h10
    have he : actE wd = 10 := by unfold actE; rw [if_neg h0, if_neg h1, if_neg h2, if_neg h3, if_neg h4, if_neg h5, if_neg h6, if_neg h7, if_neg h8, if_neg h9, if_pos h10]
    rw [he]
    clear he h0 h1 h2 h3 h4 h5 h6 h7 h8 h9 h10
    go_enter Tryz.func65, Tryz.ntmps65
    go_wp2_with fail
    go_ret
    exact ⟨rfl, rfl⟩
  have q10 := str_ne h10
  by_cases h11 : wd = bs [115, 99, 106]
  · have q11 := str_eq h11
    have he : actE wd = 11 := by unfold actE; rw [if_neg h0, if_neg h1, if_neg h2, if_neg h3, if_neg h4, if_neg h5, if_neg h6, if_neg h7, if_neg h8, if_neg h9, if_neg h10, if_pos h11]
    rw [he]
    clear he h0 h1 h2 h3 h4 h5 h6 h7 h8 h9 h10 h11
    go_enter Tryz.func65, Tryz.ntmps65
    go_wp2_with fail
    go_ret
    exact ⟨rfl, rfl⟩
  have q11 := str_ne h11
  have he : actE wd = 12 := by unfold actE; rw [if_neg h0, if_neg h1, if_neg h2, if_neg h3, if_neg h4, if_neg h5, if_neg h6, if_neg h7, if_neg h8, if_neg h9, if_neg h10, if_neg h11]
  rw [he]
  clear he h0 h1 h2 h3 h4 h5 h6 h7 h8 h9 h10 h11
  go_enter Tryz.func65, Tryz.ntmps65
  go_wp2_with fail
  go_ret
  exact ⟨rfl, rfl⟩

def entOk : Bool := (List.range 10).all fun s => (List.range 16).all fun e => match entryE (s : Int) (e : Int) with
  | some r => decide (r.1.size ≤ 20) && decide (0 ≤ r.2)
  | none => false
theorem ent_ok : entOk = true := by decide +kernel
theorem ent_some (s e : Nat) (hs : s < 10) (he : e < 16) : ∃ wd t, entryE (s : Int) (e : Int) = some (wd, t) ∧ wd.size ≤ 20 ∧ 0 ≤ t := by
  have h := ent_ok
  unfold entOk at h
  have ha := List.all_eq_true.1 h s (List.mem_range.2 hs)
  have hb := List.all_eq_true.1 ha e (List.mem_range.2 he)
  cases hE : entryE (s : Int) (e : Int) with
  | none => rw [hE] at hb; cases hb
  | some r =>
    rw [hE] at hb
    simp only [Bool.and_eq_true, decide_eq_true_eq] at hb
    exact ⟨r.1, r.2, rfl, hb.1, hb.2⟩

set_option maxHeartbeats 8000000 in
set_option maxRecDepth 100000 in
theorem rnext_in (s e : Nat) (hs : s < 10) (he : e < 16) (w : World) :
    Calls Tryz.prog 8 #[.int .i64 (s : Int), .int .i64 (e : Int)] w fun en w' => ∃ v, en = .returned (.tuple #[.int .i64 (nextS s e), v]) ∧ Laid 3 1 w w' v (nextL s e).length (iV (nextL s e)) := by
  obtain ⟨wd, t, hE, hsz, h0⟩ := ent_some s e hs he
  have hN := ref_next s e (by omega) (by omega) (by omega) (by omega)
  unfold refE at hN
  rw [hE] at hN
  simp only [Option.map_some, Option.some.injEq, Prod.mk.injEq] at hN
  obtain ⟨hN1, hN2⟩ := hN
  have HN := Lib.hid (And.intro hN1 hN2)
  have HE := Lib.hid (entry_any s e hs he wd t h0 hE w)
  rw [← hN1, ← hN2]
  clear hN1 hN2 hE hs he h0
  go_enter Tryz.func8, Tryz.ntmps8
  go_wp2_with fail
  refine HE.out.mono ?_
  rintro en w1 ⟨rfl, hb1⟩
  have HB1 := Lib.hid hb1
  clear hb1
  go_wp2_with fail
  go_loopg [8, 9] (wd.size + 1) (fun x out ii wr => ∃ (j : Nat) (done : List Int), j ≤ wd.size ∧ x = wd.size + 1 - j ∧ ii = .int .i64 ((4 * j : Nat) : Int) ∧ done.length = j ∧ Hid (actsE wd (wd.size + 1) 0 = done ++ actsE wd (wd.size + 1 - j) (4 * j) ∧ Laid 3 1 w wr out j (iV done)))
  case atStart => exact ⟨0, [], by omega, by omega, rfl, rfl, rfl, BRow.nil _ _ _, HB1.out, fun g h => by cases h⟩
  case round =>
    obtain ⟨j, done, hj, rfl, rfl, hd, hK⟩ := hrel
    have HK := Lib.hid hK.out
    clear hK
    by_cases hlt : 4 * j + 3 ≤ wd.size
    · have hA : actsE wd (wd.size + 1 - j) (4 * j) = actE (wd.extract (4 * j) (4 * j + 3)) :: actsE wd (wd.size + 1 - (j + 1)) (4 * (j + 1)) := by
        rw [show wd.size + 1 - j = (wd.size + 1 - (j + 1)) + 1 by omega, actsE, if_pos hlt]
        rfl
      have HA := Lib.hid hA
      have hcast : ((4 * j : Nat) : Int) + 3 = ((4 * j + 3 : Nat) : Int) := by omega
      clear hA
      obtain ⟨so, co, eo, -, -⟩ := HK.out.2.r.form
      subst eo
      go_wp2_with (first
        | (go_at_call 65; refine (action_any (wd.extract (4 * j) (4 * j + 3)) _).mono ?_; rintro en w2 ⟨rfl, rfl⟩)
        | (at_builtin; refine wpl_append_rec int_row rfl _ _ rfl _ j (iV done) rfl (HK.out.2.r.below (b1 _ _)) _ _ [.int .i64 (actE (wd.extract (4 * j) (4 * j + 3)))] rfl (cell_of_at _ _ _ rfl) rfl (fun u hu => by rw [List.mem_singleton.1 hu]; rfl) (by omega) ?_
           intro g6 c6 w6 h6 k6 o6
           have H6 := Lib.hid (And.intro h6 (And.intro k6 o6))
           clear h6 k6 o6))
      go_roundg (wd.size + 1 - (j + 1))
      case measure => omega
      case rel =>
        refine ⟨j + 1, done ++ [actE (wd.extract (4 * j) (4 * j + 3))], by omega, rfl, by go_num, by simp [hd], ?_, ?_⟩
        · rw [HK.out.1, HA.out, List.append_assoc]; rfl
        · rw [iV_app]
          exact HK.out.2.app (b1 _ _) H6.out.1 H6.out.2.1 (H6.out.2.2.imp (fun h => h.symm) (fun h => by rw [h]; rfl))
    · have hA : actsE wd (wd.size + 1) 0 = done := by
        rw [HK.out.1, show wd.size + 1 - j = (wd.size + 1 - (j + 1)) + 1 by omega, actsE, if_neg hlt, List.append_nil]
      have HA := Lib.hid hA
      clear hA
      go_wp2_with fail
      go_ret2
      rw [HA.out]
      exact ⟨_, rfl, by rw [hd]; exact HK.out.2⟩

set_option maxHeartbeats 8000000 in
theorem entry_out (s e : Int) (h : ¬ (0 ≤ s ∧ s ≤ 9 ∧ 0 ≤ e ∧ e ≤ 15)) (w : World) :
    Calls Tryz.prog 64 #[.int .i64 s, .int .i64 e] w fun en w' => en = .returned (.tuple #[.string (bs []), .int .i64 s]) ∧ Below w.heap.size w w' := by
  have hB := Lib.hid (b1 w)
  have : s < 0 ∨ (0 ≤ s ∧ 9 < s) ∨ (0 ≤ s ∧ s ≤ 9 ∧ e < 0) ∨ (0 ≤ s ∧ s ≤ 9 ∧ 0 ≤ e ∧ 16 ≤ e) := by omega
  clear h
  rcases this with h | ⟨h1, h⟩ | ⟨h1, h2, h⟩ | ⟨h1, h2, h3, h⟩
  all_goals go_enter Tryz.func64, Tryz.ntmps64
  all_goals go_wp2_with fail
  all_goals go_ret2
  all_goals exact ⟨rfl, hB.out _⟩

set_option maxHeartbeats 8000000 in
set_option maxRecDepth 100000 in
theorem rnext_out (s e : Int) (h : ¬ (0 ≤ s ∧ s ≤ 9 ∧ 0 ≤ e ∧ e ≤ 15)) (w : World) :
    Calls Tryz.prog 8 #[.int .i64 s, .int .i64 e] w fun en w' => ∃ v, en = .returned (.tuple #[.int .i64 (nextS s e), v]) ∧ Laid 3 1 w w' v (nextL s e).length (iV (nextL s e)) := by
  have HE := Lib.hid (entry_out s e h w)
  obtain ⟨e1, e2⟩ := next_out s e h
  rw [e1, e2]
  clear h e1 e2
  go_enter Tryz.func8, Tryz.ntmps8
  go_wp2_with fail
  refine HE.out.mono ?_
  rintro en w1 ⟨rfl, hb1⟩
  have HB1 := Lib.hid hb1
  clear hb1
  have hz : (bs []).size = 0 := rfl
  go_wp2_with fail
  refine wp_loop_rounds 1 ?_
  rw [rounds_succ]
  go_wp2_with fail
  go_ret2
  exact ⟨_, rfl, BRow.nil _ _ _, HB1.out, fun g h => by cases h⟩

theorem rnext_any (s e : Int) (w : World) :
    Calls Tryz.prog 8 #[.int .i64 s, .int .i64 e] w fun en w' => ∃ v, en = .returned (.tuple #[.int .i64 (nextS s e), v]) ∧ Laid 3 1 w w' v (nextL s e).length (iV (nextL s e)) := by
  by_cases h : 0 ≤ s ∧ s ≤ 9 ∧ 0 ≤ e ∧ e ≤ 15
  · obtain ⟨h1, h2, h3, h4⟩ := h
    obtain ⟨s, rfl⟩ := Int.eq_ofNat_of_zero_le h1
    obtain ⟨e, rfl⟩ := Int.eq_ofNat_of_zero_le h3
    exact rnext_in s e (by omega) (by omega) w
  · exact rnext_out s e h w
end Go.Proofs.YtignponfoheaeaaGreat
