import Derived.Test.YtcgneokcpffjaaaW4
namespace Go.Proofs.Ytcgneokcpffjaaa
open Go.RowKit Go.Tg Go.Maps

/-- A slice of integers that came in (as the shell of the proof has it). -/
def IsRow (k : IntKind) (w : World) (a : Option Addr) (len cap : Nat) (zs : List Int) : Prop :=
  (a = none ∧ len = 0 ∧ cap = 0 ∧ zs = []) ∨
  ∃ x, a = some x ∧ len ≤ cap ∧ cap ≤ maxLen ∧ zs.length = cap ∧ (∀ i, i < zs.length → w.cell? (x.add i) = some (.int k (zs.getD i 0))) ∧ ∀ n ∈ zs, (Lit.int k n).wf = true

/-- What a loop over it needs: the element at i. -/
def Elems (w : World) (a : Option Addr) (len : Nat) (zs : List Int) : Prop :=
  ∀ i, i < len → ∃ b off, a = some ⟨b, off, none⟩ ∧ b < w.heap.size ∧ w.cell? ⟨b, off + i, none⟩ = some (.int .i64 (zs.getD i 0)) ∧ (Lit.int .i64 (zs.getD i 0)).wf = true

theorem cell_lt {w : World} {p : Addr} {v : Value} (h : w.cell? p = some v) : p.block < w.heap.size := by
  unfold World.cell? at h
  rcases Nat.lt_or_ge p.block w.heap.size with h1 | h1
  · exact h1
  · rw [Array.getElem?_eq_none h1] at h; cases h

theorem elems_of_row {w : World} {a : Option Addr} {len cap : Nat} {zs : List Int} (h : IsRow .i64 w a len cap zs) : len ≤ maxLen ∧ Elems w a len zs := by
  rcases h with ⟨rfl, rfl, rfl, rfl⟩ | ⟨x, rfl, h1, h2, h3, h4, h5⟩
  · exact ⟨Nat.zero_le _, fun i hi => absurd hi (Nat.not_lt_zero _)⟩
  · refine ⟨Nat.le_trans h1 h2, fun i hi => ?_⟩
    have hi' : i < zs.length := by omega
    have h6 := h4 i hi'
    obtain ⟨b, off, spot⟩ := x
    have hs : spot = none := by
      cases spot with
      | none => rfl
      | some s =>
        exfalso
        have h0 := h4 0 (by omega)
        simp only [Addr.add, World.cell?, if_true, Option.isSome_some] at h0
        split at h0 <;> cases h0
    subst hs
    have e : (⟨b, off, none⟩ : Addr).add i = ⟨b, off + i, none⟩ := by
      unfold Addr.add
      split
      · rename_i h; subst h; rfl
      · rfl
    rw [e] at h6
    refine ⟨b, off, rfl, cell_lt (p := ⟨b, off + i, none⟩) h6, h6, h5 _ ?_⟩
    rw [List.getD_eq_getElem?_getD, List.getElem?_eq_getElem hi']
    exact List.getElem_mem hi'

theorem alive_from {w0 w : World} (h : Below w0.heap.size w0 w) : Calls Try.prog 10 #[] w fun e w' => e = .returned (.bool true) ∧ Below w0.heap.size w0 w' :=
  (alive_any w).mono fun _ _ ⟨a, b⟩ => ⟨a, h.trans (b.mono h.size)⟩

/-- The automaton while a law plays it: some state, some count. -/
def Alive (w0 w : World) (b : Nat) (cf tm : Int) (s c : Int) : Prop := AutoAt w b s c cf tm ∧ w0.heap.size ≤ b ∧ (0 ≤ s ∧ s ≤ 9) ∧ InB c ∧ Below w0.heap.size w0 w

theorem doC_in {cf tm c : Int} (xs : List Int) (h1 : 1 ≤ cf) (h2 : cf ≤ 20) (h3 : 1 ≤ tm) (h4 : tm ≤ 20) (h : InB c) : InB (doC cf tm xs xs c) :=
  doC_bd xs ⟨by omega, h2⟩ ⟨by omega, h4⟩ xs c h

theorem Alive.doIt {w0 w : World} {b : Nat} {cf tm s c : Int} (h : Alive w0 w b cf tm s c) (h1 : 1 ≤ cf) (h2 : cf ≤ 20) (h3 : 1 ≤ tm) (h4 : tm ≤ 20) (e : Int) (he : (Lit.int .i64 e).wf = true) :
    Calls Try.prog 13 #[.pointer (some ⟨b, 0, none⟩), .int .i64 e] w fun en w' => ∃ v, en = .returned v ∧ IntsAt 3 w.heap.size w' v (nextL s e) ∧ Alive w0 w' b cf tm (nextS s e) (doC cf tm (nextL s e) (nextL s e) c) := by
  obtain ⟨a1, a2, a3, a4, a5⟩ := h
  refine (do_any b s c cf tm e w a1 h1 h2 h3 h4 a4 (wf_small s (by omega)) he).mono ?_
  rintro en w' ⟨v, rfl, h5, h6, h7⟩
  exact ⟨v, rfl, h5, h6, a2, next_in s e a3, doC_in _ h1 h2 h3 h4 a4, a5.trans (h7.below a5.size (fun k hk => by omega))⟩

theorem tmo_in (s c : Int) (h : 0 ≤ s ∧ s ≤ 9) : 0 ≤ tmoS s c ∧ tmoS s c ≤ 9 := by
  unfold tmoS
  split
  · exact next_in s _ h
  · exact h
theorem Alive.timeIt {w0 w : World} {b : Nat} {cf tm s c : Int} (h : Alive w0 w b cf tm s c) (h1 : 1 ≤ cf) (h2 : cf ≤ 20) (h3 : 1 ≤ tm) (h4 : tm ≤ 20) :
    Calls Try.prog 16 #[.pointer (some ⟨b, 0, none⟩)] w fun en w' => ∃ v, en = .returned v ∧ IntsAt 3 w.heap.size w' v (tmoL s c) ∧ Alive w0 w' b cf tm (tmoS s c) (doC cf tm (tmoL s c) (tmoL s c) c) := by
  obtain ⟨a1, a2, a3, a4, a5⟩ := h
  refine (timeout_any b s c cf tm w a1 h1 h2 h3 h4 a4 (wf_small s (by omega))).mono ?_
  rintro en w' ⟨v, rfl, h5, h6, h7⟩
  exact ⟨v, rfl, h5, h6, a2, tmo_in s c a3, doC_in _ h1 h2 h3 h4 a4, a5.trans (h7.below a5.size (fun k hk => by omega))⟩

theorem Alive.new {w0 w : World} {cf tm : Int} (h : AutoAt w w0.heap.size 0 0 cf tm) (hk : Keep (fun _ => False) w0 w) : Alive w0 w w0.heap.size cf tm 0 0 :=
  ⟨h, Nat.le_refl _, by omega, ⟨by omega, by omega⟩, hk.below (Nat.le_refl _) (by simp)⟩

theorem down_state (s : Int) (h : 0 ≤ s ∧ s ≤ 9) : nextS s 1 = 0 ∨ nextS s 1 = 1 := by
  have : s = 0 ∨ s = 1 ∨ s = 2 ∨ s = 3 ∨ s = 4 ∨ s = 5 ∨ s = 6 ∨ s = 7 ∨ s = 8 ∨ s = 9 := by omega
  rcases this with rfl | rfl | rfl | rfl | rfl | rfl | rfl | rfl | rfl | rfl <;> decide
theorem down_still (s e : Int) (h : s = 0 ∨ s = 1) (he : 6 ≤ e) : nextS s e = s ∧ nextL s e = [] := by
  rcases next_all (fun r => decide (r.2.1 < 6) || decide (2 ≤ r.1)) (by decide) s e with ⟨_, h1, h2⟩ | h1
  · exact ⟨h1, h2⟩
  · simp at h1; omega

/-! ### AutoDown -/
theorem Alive.alive {w0 w : World} {b : Nat} {cf tm s c : Int} (h : Alive w0 w b cf tm s c) : Calls Try.prog 10 #[] w fun e w' => e = .returned (.bool true) ∧ Alive w0 w' b cf tm s c :=
  (alive_any w).mono fun _ _ ⟨x, y⟩ => ⟨x, h.1.below y, h.2.1, h.2.2.1, h.2.2.2.1, h.2.2.2.2.trans (y.mono h.2.2.2.2.size)⟩

set_option maxHeartbeats 1000000 in
set_option maxRecDepth 100000 in
theorem down_walk (a0 : Option Addr) (len cap : Nat) (zs : List Int) (ev : Int) (w : World) (h : IsRow .i64 w a0 len cap zs) (hev : (Lit.int .i64 ev).wf = true) :
    Calls Try.prog 5 #[.slice a0 len cap, .int .i64 ev] w fun en w' => en = .returned (.bool true) ∧ Below w.heap.size w w' := by
  obtain ⟨hm, hel⟩ := elems_of_row h
  unfold maxLen at hm
  have HEL := Lib.hid hel
  have HEV := Lib.hid hev
  clear h hel hev
  by_cases hbig : 300 < len
  · go_enter Try.func5, Try.ntmps5
    go_wp2_with fail
    refine (new_ok 5 2 _ (by decide) (by decide)).mono ?_
    rintro en w1 ⟨rfl, ha, hk⟩
    have HA := Lib.hid (Alive.new ha hk)
    clear ha hk
    go_wp2_with fail
    refine (alive_from HA.out.2.2.2.2).mono ?_
    rintro en w2 ⟨rfl, hb⟩
    have HB := Lib.hid hb
    clear hb
    go_wp2_with fail
    go_ret
    exact ⟨rfl, HB.out⟩
  · go_enter Try.func5, Try.ntmps5
    go_wp2_with fail
    refine (new_ok 5 2 _ (by decide) (by decide)).mono ?_
    rintro en w1 ⟨rfl, ha, hk⟩
    have HA := Lib.hid (Alive.new ha hk)
    clear ha hk
    go_wp2_with fail
    go_loopg [7] len (fun n i wr => ∃ k : Nat, k ≤ len ∧ n = len - k ∧ i = .int .i64 k ∧ Hid (∃ s c, Alive w wr w.heap.size 5 2 s c))
    case atStart => exact ⟨0, by omega, by omega, rfl, 0, 0, HA.out⟩
    case round =>
      obtain ⟨k, hk, rfl, rfl, hH⟩ := hrel
      obtain ⟨s, c, hal⟩ := hH.out
      have HAL := Lib.hid hal
      clear hal hH HA
      by_cases hlt : k < len
      · obtain ⟨bb, off, rfl, hbb, hck, hwf⟩ := HEL.out k hlt
        have hck' : wr.cell? ⟨bb, off + k, none⟩ = some (.int .i64 (zs.getD k 0)) := (HAL.out.2.2.2.2.cell (p := ⟨bb, off + k, none⟩) hbb).trans hck
        have HWF := Lib.hid hwf
        clear hck hwf
        generalize zs.getD k 0 = x at *
        go_wp2_with fail
        refine (HAL.out.doIt (by omega) (by omega) (by omega) (by omega) x HWF.out).mono ?_
        rintro en w2 ⟨v, rfl, -, hal2⟩
        have HAL2 := Lib.hid hal2
        clear hal2 hck'
        go_wp2_with fail
        go_roundg (len - (k + 1))
        case measure => omega
        case rel => exact ⟨k + 1, by omega, rfl, by go_num, _, _, HAL2.out⟩
      · clear HEL
        go_wp2_with fail
        refine (HAL.out.doIt (by omega) (by omega) (by omega) (by omega) 1 (by decide)).mono ?_
        rintro en w2 ⟨v, rfl, -, hal2⟩
        have HD := Lib.hid (down_state s HAL.out.2.2.1)
        generalize nextS s 1 = sd at *
        generalize doC 5 2 (nextL s 1) (nextL s 1) c = cd at *
        have HAL2 := Lib.hid hal2
        clear hal2 HAL
        go_wp2_with fail
        refine (state_some _ _ _ _ _ _ HAL2.out.1 (by omega)).mono ?_
        rintro en w3 ⟨rfl, rfl⟩
        have fin : ∀ e : Int, 6 ≤ e → (Lit.int .i64 e).wf = true → Hid (Calls Try.prog 13 #[.pointer (some ⟨w.heap.size, 0, none⟩), .int .i64 e] w2 fun en w' => ∃ sa, en = .returned (.slice sa 0 0) ∧ ∃ c, Alive w w' w.heap.size 5 2 sd c) := by
          intro e he hw
          refine (HAL2.out.doIt (by omega) (by omega) (by omega) (by omega) e hw).mono ?_
          rintro en w2 ⟨v, rfl, hv, hal2⟩
          obtain ⟨e1, e2⟩ := down_still sd e HD.out he
          rw [e1] at hal2
          rw [e2] at hv
          rcases hv with ⟨_, rfl⟩ | ⟨bq, _, rfl, _⟩
          · exact ⟨_, rfl, _, hal2⟩
          · exact ⟨_, rfl, _, hal2⟩
        have hwt : waitsB sd = false := by rcases HD.out with h | h <;> rw [h] <;> decide
        have HWT := Lib.hid hwt
        clear hwt
        by_cases he6 : ev < 6
        · have F := fin 8 (by omega) (by decide)
          clear fin HEV
          rcases HD.out with h0 | h0
          all_goals
            subst h0
            go_wp2_with fail
            refine F.out.mono ?_
            rintro en w3 ⟨sa, rfl, c3, hal3⟩
            have HAL3 := Lib.hid hal3
            clear hal3
            go_wp2_with fail
            refine HAL3.out.alive.mono ?_
            rintro en w4 ⟨rfl, hal4⟩
            have HAL4 := Lib.hid hal4
            clear hal4 HAL3
            go_wp2_with fail
            refine (waits_some _ _ _ _ _ _ HAL4.out.1 (by omega)).mono ?_
            rintro en w5 ⟨rfl, rfl⟩
            rw [HWT.out]
            go_wp2_with fail
            refine (state_some _ _ _ _ _ _ HAL4.out.1 (by omega)).mono ?_
            rintro en w5 ⟨rfl, rfl⟩
            go_wp2_with fail
            go_ret
            exact ⟨rfl, HAL4.out.2.2.2.2⟩
        · have F := fin ev (by omega) HEV.out
          clear fin HEV
          rcases HD.out with h0 | h0
          all_goals
            subst h0
            go_wp2_with fail
            refine F.out.mono ?_
            rintro en w3 ⟨sa, rfl, c3, hal3⟩
            have HAL3 := Lib.hid hal3
            clear hal3
            go_wp2_with fail
            refine HAL3.out.alive.mono ?_
            rintro en w4 ⟨rfl, hal4⟩
            have HAL4 := Lib.hid hal4
            clear hal4 HAL3
            go_wp2_with fail
            refine (waits_some _ _ _ _ _ _ HAL4.out.1 (by omega)).mono ?_
            rintro en w5 ⟨rfl, rfl⟩
            rw [HWT.out]
            go_wp2_with fail
            refine (state_some _ _ _ _ _ _ HAL4.out.1 (by omega)).mono ?_
            rintro en w5 ⟨rfl, rfl⟩
            go_wp2_with fail
            go_ret
            exact ⟨rfl, HAL4.out.2.2.2.2⟩
end Go.Proofs.Ytcgneokcpffjaaa
