import Derived.Test.YtcgneokcpffjaaaW5
namespace Go.Proofs.Ytcgneokcpffjaaa
open Go.RowKit Go.Tg Go.Maps

/-! ### AutoEnds -/
theorem tmo_none {s c : Int} (h : waitsB s = false) : tmoS s c = s ∧ tmoL s c = [] := by
  simp [tmoS, tmoL, tmoE, h]
theorem waits_cases {s : Int} (h : waitsB s = true) : s = 4 ∨ s = 5 ∨ s = 6 ∨ s = 7 ∨ s = 8 := by
  simp [waitsB] at h; omega
/-- One timeout: the waiting ends, or the counter has gone down. -/
theorem tmo_step {s c cf tm : Int} (hw : waitsB s = true) (hc : InB c) : waitsB (tmoS s c) = false ∨ (0 < c ∧ doC cf tm (tmoL s c) (tmoL s c) c = c - 1) := by
  unfold tmoS tmoL tmoE
  rw [hw]
  simp only [if_true]
  unfold InB at hc
  by_cases h : 0 < c
  · right
    refine ⟨h, ?_⟩
    rw [if_pos h]
    show doC cf tm (nextL s 4) (nextL s 4) c = c - 1
    have key : nextL s 4 = [9] ∨ nextL s 4 = [6] := by
      rcases waits_cases hw with rfl | rfl | rfl | rfl | rfl <;> decide
    rcases key with h1 | h1 <;> rw [h1] <;> simp [doC, doStep] <;> omega
  · left
    rw [if_neg h]
    show waitsB (nextS s 5) = false
    rcases waits_cases hw with rfl | rfl | rfl | rfl | rfl <;> decide

theorem ends_inv {s c cf tm c0 : Int} {i : Nat} (hc : InB c) (h : waitsB s = false ∨ c + i ≤ c0) :
    waitsB (tmoS s c) = false ∨ doC cf tm (tmoL s c) (tmoL s c) c + ((i + 1 : Nat) : Int) ≤ c0 := by
  cases hw : waitsB s with
  | false => left; rw [(tmo_none hw).1]; exact hw
  | true =>
    rcases h with h | h
    · rw [hw] at h; cases h
    · rcases tmo_step (cf := cf) (tm := tm) hw hc with h1 | ⟨h1, h2⟩
      · exact Or.inl h1
      · right; rw [h2]; omega

theorem alive_keepA {w0 w : World} (h : Below w0.heap.size w0 w) : Calls Try.prog 10 #[] w fun e w' => e = .returned (.bool true) ∧ Below w0.heap.size w0 w' := alive_from h

set_option maxHeartbeats 1000000 in
set_option maxRecDepth 100000 in
theorem ends_walk (cf tm : Int) (a0 : Option Addr) (len cap : Nat) (zs : List Int) (w : World) (h : IsRow .i64 w a0 len cap zs) :
    Calls Try.prog 6 #[.int .i64 cf, .int .i64 tm, .slice a0 len cap] w fun en w' => en = .returned (.bool true) ∧ Below w.heap.size w w' := by
  obtain ⟨hm, hel⟩ := elems_of_row h
  unfold maxLen at hm
  have HEL := Lib.hid hel
  clear h hel
  by_cases hbad : inB20 cf = false ∨ inB20 tm = false
  · have HB := Lib.hid hbad
    clear hbad
    go_enter Try.func6, Try.ntmps6
    go_wp2_with fail
    refine (new_bad cf tm _ HB.out).mono ?_
    rintro en w1 ⟨rfl, rfl⟩
    go_wp2_with fail
    refine (alive_from (Below.refl _ _)).mono ?_
    rintro en w2 ⟨rfl, hb⟩
    have HB2 := Lib.hid hb
    clear hb
    go_wp2_with fail
    go_ret
    exact ⟨rfl, HB2.out⟩
  have hcf : inB20 cf = true := by cases h : inB20 cf <;> simp_all
  have htm : inB20 tm = true := by cases h : inB20 tm <;> simp_all
  obtain ⟨c1, c2⟩ := inB20_true.1 hcf
  obtain ⟨t1, t2⟩ := inB20_true.1 htm
  have HCF := Lib.hid hcf
  have HTM := Lib.hid htm
  clear hcf htm hbad
  by_cases hbig : 300 < len
  · go_enter Try.func6, Try.ntmps6
    go_wp2_with fail
    refine (new_ok cf tm _ HCF.out HTM.out).mono ?_
    rintro en w1 ⟨rfl, ha, hk⟩
    have HA := Lib.hid (Alive.new ha hk)
    clear ha hk
    go_wp2_with fail
    refine (alive_from HA.out.2.2.2.2).mono ?_
    rintro en w2 ⟨rfl, hb⟩
    have HB := Lib.hid hb
    clear hb
    go_wp2_with fail
    go_ret
    exact ⟨rfl, HB.out⟩
  · go_enter Try.func6, Try.ntmps6
    go_wp2_with fail
    refine (new_ok cf tm _ HCF.out HTM.out).mono ?_
    rintro en w1 ⟨rfl, ha, hk⟩
    have HA := Lib.hid (Alive.new ha hk)
    clear ha hk HCF HTM
    go_wp2_with fail
    go_loopg [9] len (fun n i wr => ∃ k : Nat, k ≤ len ∧ n = len - k ∧ i = .int .i64 k ∧ Hid (∃ s c, Alive w wr w.heap.size cf tm s c))
    case atStart => exact ⟨0, by omega, by omega, rfl, 0, 0, HA.out⟩
    case round =>
      obtain ⟨k, hk, rfl, rfl, hH⟩ := hrel
      obtain ⟨s, c, hal⟩ := hH.out
      have HAL := Lib.hid hal
      clear hal hH HA
      by_cases hlt : k < len
      · obtain ⟨bb, off, rfl, hbb, hck, hwf⟩ := HEL.out k hlt
        have hck' : wr.cell? ⟨bb, off + k, none⟩ = some (.int .i64 (zs.getD k 0)) := (HAL.out.2.2.2.2.cell (p := ⟨bb, off + k, none⟩) hbb).trans hck
        have HWF := Lib.hid hwf
        clear hck hwf
        generalize zs.getD k 0 = x at *
        go_wp2_with fail
        refine (HAL.out.doIt (by omega) (by omega) (by omega) (by omega) x HWF.out).mono ?_
        rintro en w2 ⟨v, rfl, -, hal2⟩
        have HAL2 := Lib.hid hal2
        clear hal2 hck'
        go_wp2_with fail
        go_roundg (len - (k + 1))
        case measure => omega
        case rel => exact ⟨k + 1, by omega, rfl, by go_num, _, _, HAL2.out⟩
      · clear HEL
        go_wp2_with fail
        refine (count_some _ _ _ _ _ _ HAL.out.1 (by omega)).mono ?_
        rintro en w2 ⟨rfl, rfl⟩
        obtain ⟨hc0, hc20⟩ := InB_out HAL.out.2.2.2.1
        go_wp2_with fail
        obtain ⟨cn, rfl⟩ := Int.eq_ofNat_of_zero_le hc0
        go_loopg [11] (cn + 1) (fun n i wq => ∃ j : Nat, j ≤ cn + 1 ∧ n = cn + 1 - j ∧ i = .int .i64 j ∧ Hid (∃ s' c', Alive w wq w.heap.size cf tm s' c' ∧ (waitsB s' = false ∨ c' + j ≤ cn)))
        case atStart => exact ⟨0, by omega, by omega, rfl, _, _, HAL.out, Or.inr (by simp)⟩
        case round =>
          rename_i wq _ _
          obtain ⟨j, hj, rfl, rfl, hH⟩ := hrel
          obtain ⟨s', c', hal, hinv⟩ := hH.out
          have HAL := Lib.hid hal
          have HINV := Lib.hid hinv
          clear hal hinv hH
          by_cases hlt : j < cn + 1
          · go_wp2_with fail
            refine (HAL.out.timeIt (by omega) (by omega) (by omega) (by omega)).mono ?_
            rintro en w2 ⟨v, rfl, -, hal2⟩
            have HAL2 := Lib.hid hal2
            clear hal2
            go_wp2_with fail
            go_roundg (cn + 1 - (j + 1))
            case measure => omega
            case rel => exact ⟨j + 1, by omega, rfl, by go_num, _, _, HAL2.out, ends_inv HAL.out.2.2.2.1 HINV.out⟩
          · have hw : waitsB s' = false := by
              rcases HINV.out with h | h
              · exact h
              · have := HAL.out.2.2.2.1.1; omega
            have HW := Lib.hid hw
            clear hw HINV
            go_wp2_with fail
            refine HAL.out.alive.mono ?_
            rintro en w4 ⟨rfl, hal4⟩
            have HAL4 := Lib.hid hal4
            clear hal4 HAL
            go_wp2_with fail
            refine (waits_some _ _ _ _ _ _ HAL4.out.1 (by omega)).mono ?_
            rintro en w5 ⟨rfl, rfl⟩
            rw [HW.out]
            go_wp2_with fail
            refine (HAL4.out.timeIt (by omega) (by omega) (by omega) (by omega)).mono ?_
            rintro en w5 ⟨v, rfl, hv, hal5⟩
            rw [(tmo_none HW.out).2] at hv
            have HAL5 := Lib.hid hal5
            clear hal5
            obtain ⟨sa, rfl⟩ : ∃ sa, v = .slice sa 0 0 := by
              rcases hv with ⟨_, rfl⟩ | ⟨bq, _, rfl, _⟩
              · exact ⟨_, rfl⟩
              · exact ⟨_, rfl⟩
            clear hv
            go_wp2_with fail
            go_ret
            exact ⟨rfl, HAL5.out.2.2.2.2⟩
end Go.Proofs.Ytcgneokcpffjaaa
