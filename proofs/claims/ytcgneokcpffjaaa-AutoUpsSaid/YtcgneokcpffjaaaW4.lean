import Derived.Test.YtcgneokcpffjaaaW3
namespace Go.Proofs.Ytcgneokcpffjaaa
open Go.RowKit Go.Tg Go.Maps

theorem lookupL_row {s e : Int} : ∀ {l : List Row} {y}, lookupL l s e = some y → ∃ r ∈ l, r.1 = s ∧ r.2.1 = e ∧ y = (r.2.2.1, r.2.2.2) := by
  intro l
  induction l with
  | nil => intro y h; cases h
  | cons r l ih =>
    intro y hy
    simp only [lookupL, List.foldr_cons, Tab.put] at hy
    split at hy
    · rename_i h
      cases hy; exact ⟨r, by simp, h.1.symm, h.2.symm, rfl⟩
    · obtain ⟨r', h1, h2⟩ := ih hy
      exact ⟨r', by simp [h1], h2⟩
theorem nextF_row {s e : Int} {y} (h : nextF s e = some y) : ∃ r ∈ answeredL ++ calledL, r.1 = s ∧ r.2.1 = e ∧ y = (r.2.2.1, r.2.2.2) := by
  unfold nextF at h
  cases ha : lookupL answeredL s e with
  | some y2 =>
    rw [ha] at h; simp only [Option.some_or, Option.some.injEq] at h; subst h
    obtain ⟨r, h1, h2⟩ := lookupL_row ha
    exact ⟨r, by simp [h1], h2⟩
  | none =>
    rw [ha] at h; simp only [Option.none_or] at h
    obtain ⟨r, h1, h2⟩ := lookupL_row h
    exact ⟨r, by simp [h1], h2⟩
/-- What holds of every row of the table holds of the answer. -/
theorem next_all (p : Row → Bool) (hp : (answeredL ++ calledL).all p = true) (s e : Int) : (nextF s e = none ∧ nextS s e = s ∧ nextL s e = []) ∨ p (s, e, nextS s e, nextL s e) = true := by
  cases hf : nextF s e with
  | none => exact Or.inl ⟨rfl, by unfold nextS; rw [hf], by unfold nextL; rw [hf]⟩
  | some y =>
    right
    obtain ⟨r, h1, rfl, rfl, h4⟩ := nextF_row hf
    have e1 : nextS r.1 r.2.1 = r.2.2.1 := by unfold nextS; rw [hf, h4]
    have e2 : nextL r.1 r.2.1 = r.2.2.2 := by unfold nextL; rw [hf, h4]
    rw [e1, e2]
    exact List.all_eq_true.1 hp r h1

theorem next_in (s e : Int) (h : 0 ≤ s ∧ s ≤ 9) : 0 ≤ nextS s e ∧ nextS s e ≤ 9 := by
  rcases next_all (fun r => decide (0 ≤ r.2.2.1) && decide (r.2.2.1 ≤ 9)) (by decide) s e with ⟨_, h1, _⟩ | h1
  · rw [h1]; exact h
  · simpa using h1
theorem next_out (s e : Int) (h : s < 0 ∨ 9 < s) : nextS s e = s ∧ nextL s e = [] := by
  rcases next_all (fun r => decide (0 ≤ r.1) && decide (r.1 ≤ 9)) (by decide) s e with ⟨_, h1, h2⟩ | h1
  · exact ⟨h1, h2⟩
  · simp at h1; omega

theorem wf_small (s : Int) (h : -1000 ≤ s ∧ s ≤ 1000) : (Lit.int .i64 s).wf = true := by
  exact WalkArith.wf_i64 (by omega)

/-! ### AutoNone -/
set_option maxHeartbeats 1000000 in
set_option maxRecDepth 100000 in
theorem none_walk (e : Int) (w : World) : Calls Try.prog 7 #[.int .i64 e] w fun en w' => en = .returned (.bool true) ∧ Below w.heap.size w w' := by
  go_enter Try.func7, Try.ntmps7
  go_wp2_with fail
  refine (alive_any _).mono ?_
  rintro en w1 ⟨rfl, hb⟩
  have HB := Lib.hid hb
  clear hb
  go_wp2_with fail
  refine (do_nil _ _).mono ?_
  rintro en w2 ⟨rfl, rfl⟩
  go_wp2_with fail
  refine (timeout_nil _).mono ?_
  rintro en w2 ⟨rfl, rfl⟩
  go_wp2_with fail
  refine (state_nil _).mono ?_
  rintro en w2 ⟨rfl, rfl⟩
  go_wp2_with fail
  refine (count_nil _).mono ?_
  rintro en w2 ⟨rfl, rfl⟩
  go_wp2_with fail
  refine (waits_nil _).mono ?_
  rintro en w2 ⟨rfl, rfl⟩
  go_wp2_with fail
  go_ret
  exact ⟨rfl, HB.out⟩

/-! ### AutoWhole -/
def rowWhole (l : List Int) : Bool := decide (l.length ≤ 3) && l.all (fun x => decide (0 ≤ x) && decide (x ≤ 12)) && (List.range l.length).all (fun k => k == 0 || (l[k]? != l[k-1]?))
theorem next_whole (s e : Int) : rowWhole (nextL s e) = true := by
  rcases next_all (fun r => rowWhole r.2.2.2) (by decide) s e with ⟨_, _, h1⟩ | h1
  · rw [h1]; decide
  · exact h1
theorem rowWhole_spec {l : List Int} (h : rowWhole l = true) : l.length ≤ 3 ∧ (∀ (k : Nat) (hk : k < l.length), 0 ≤ l[k] ∧ l[k] ≤ 12) ∧ ∀ (k : Nat) (hk : k < l.length), 0 < k → (l[k] == l[k-1]) = false := by
  simp only [rowWhole, Bool.and_eq_true, decide_eq_true_eq] at h
  obtain ⟨⟨h1, h2⟩, h3⟩ := h
  refine ⟨h1, fun k hk => ?_, fun k hk hk0 => ?_⟩
  · have := List.all_eq_true.1 h2 l[k] (List.getElem_mem hk)
    simpa using this
  · have := List.all_eq_true.1 h3 k (List.mem_range.2 hk)
    have hk' : k - 1 < l.length := by omega
    simp only [Bool.or_eq_true, beq_iff_eq, List.getElem?_eq_getElem hk, List.getElem?_eq_getElem hk'] at this
    rcases this with h | h
    · omega
    · simpa using h

set_option maxHeartbeats 1000000 in
set_option maxRecDepth 100000 in
theorem whole_walk (s e : Int) (w : World) (hs : (Lit.int .i64 s).wf = true) (he : (Lit.int .i64 e).wf = true) :
    Calls Try.prog 4 #[.int .i64 s, .int .i64 e] w fun en w' => en = .returned (.bool true) ∧ Below w.heap.size w w' := by
  have HN := Lib.hid (next_any s e hs he w)
  clear hs he
  by_cases hout : s < 0 ∨ 9 < s
  · obtain ⟨h1, h2⟩ := next_out s e hout
    rw [h1, h2] at HN
    clear h1 h2
    have fin : ∀ w1, Below w.heap.size w w1 → Calls Try.prog 10 #[] w1 fun e w' => e = .returned (.bool true) ∧ Below w.heap.size w w' := fun w1 h => (alive_any w1).mono fun _ _ ⟨a, b⟩ => ⟨a, h.trans (b.mono h.size)⟩
    have FIN := fun w1 h => Lib.hid (fin w1 h)
    clear fin
    rcases hout with h | h
    all_goals
      go_enter Try.func4, Try.ntmps4
      go_wp2_with fail
      refine HN.out.mono ?_
      rintro en w1 ⟨v, rfl, hv, hb⟩
      obtain ⟨sa, rfl⟩ : ∃ sa, v = .slice sa 0 0 := by
        rcases hv with ⟨_, h⟩ | ⟨b, _, h, hbk⟩
        · exact ⟨_, h⟩
        · exact ⟨_, h⟩
      have HB := Lib.hid hb
      clear hb hv
      go_wp2_with fail
      refine (FIN _ HB.out).out.mono ?_
      rintro en w2 ⟨rfl, hb2⟩
      have HB2 := Lib.hid hb2
      clear hb2
      go_wp2_with fail
      go_ret
      exact ⟨rfl, HB2.out⟩
  · have hin : 0 ≤ s ∧ s ≤ 9 := by omega
    obtain ⟨hn1, hn2⟩ := next_in s e hin
    obtain ⟨hl3, hel, hadj⟩ := rowWhole_spec (next_whole s e)
    generalize nextS s e = ns at *
    generalize nextL s e = xs at *
    have HEL := Lib.hid hel
    have HADJ := Lib.hid hadj
    clear hel hadj hout
    have fin : ∀ w1, Below w.heap.size w w1 → Calls Try.prog 10 #[] w1 fun e w' => e = .returned (.bool true) ∧ Below w.heap.size w w' := fun w1 h => (alive_any w1).mono fun _ _ ⟨a, b⟩ => ⟨a, h.trans (b.mono h.size)⟩
    have FIN := fun w1 h => Lib.hid (fin w1 h)
    clear fin
    obtain ⟨hi1, hi2⟩ := hin
    go_enter Try.func4, Try.ntmps4
    go_wp2_with fail
    refine HN.out.mono ?_
    rintro en w1 ⟨v, rfl, hv, hb⟩
    have HB := Lib.hid hb
    clear hb HN
    have hcs := cells_of_ints hv
    clear hv
    obtain ⟨sa, rfl, hcell⟩ : ∃ sa, v = .slice sa xs.length xs.length ∧ ∀ (k : Nat) (hk : k < xs.length), ∃ b, sa = some ⟨b, 0, none⟩ ∧ ∀ (i : Nat) (h : i < xs.length), w1.cell? ⟨b, i, none⟩ = some (.int .i64 xs[i]) := by
      rcases hcs with ⟨rfl, rfl⟩ | ⟨b, rfl, h⟩
      · exact ⟨none, rfl, fun k hk => absurd hk (by simp)⟩
      · exact ⟨_, rfl, fun k hk => ⟨b, rfl, h⟩⟩
    have HCELL := Lib.hid hcell
    clear hcell hcs
    go_wp2_with fail
    go_loopg [7] (xs.length) (fun n i wr => ∃ k : Nat, k ≤ xs.length ∧ n = xs.length - k ∧ i = .int .i64 k ∧ Hid (Below w.heap.size w wr ∧ ∀ a, wr.cell? a = w1.cell? a))
    case atStart => exact ⟨0, by omega, by omega, rfl, HB.out, fun _ => rfl⟩
    case round =>
      obtain ⟨k, hk, rfl, rfl, hH⟩ := hrel
      by_cases hlt : k < xs.length
      · obtain ⟨b, rfl, hc⟩ := HCELL.out k hlt
        have hck : wr.cell? ⟨b, k, none⟩ = some (.int .i64 xs[k]) := (hH.out.2 _).trans (hc k hlt)
        have hc1 : 0 < k → wr.cell? ⟨b, k - 1, none⟩ = some (.int .i64 xs[k-1]) := fun h => (hH.out.2 _).trans (hc (k-1) (by omega))
        obtain ⟨e1, e2⟩ := HEL.out k hlt
        have b1 : decide (xs[k] < 0) = false := by simp; omega
        have b2 : decide (12 < xs[k]) = false := by simp; omega
        have ad := HADJ.out k hlt
        clear hc
        by_cases hk0 : 0 < k
        · have hck1 := hc1 hk0
          have ad1 := ad hk0
          have hw1 : IntKind.i64.wrap ((k : Int) - 1) = (k : Int) - 1 := by apply IntWalk.i64_in _ (by omega)
          have hw2 : ((k : Int) - 1).toNat = k - 1 := by omega
          have hw3 : 0 ≤ (k : Int) - 1 := by omega
          have b3 : decide (0 < k) = true := by simpa using hk0
          generalize xs[k] = x at *
          generalize xs[k-1] = y at *
          clear hc1 ad HADJ HEL HCELL
          go_wp2_with fail
          go_quiet (fail)
          go_wp2_with fail
          go_roundg (xs.length - (k + 1))
          case measure => omega
          case rel => exact ⟨k + 1, by omega, rfl, by go_num, belowN hH.out.1 _, fun a => hH.out.2 a⟩
        · obtain rfl : k = 0 := by omega
          generalize xs[0] = x at *
          clear hc1 ad HADJ HEL HCELL
          go_wp2_with fail
          go_quiet (fail)
          go_wp2_with fail
          go_roundg (xs.length - (0 + 1))
          case measure => omega
          case rel => exact ⟨0 + 1, by omega, rfl, by go_num, belowN hH.out.1 _, fun a => hH.out.2 a⟩
      · go_wp2_with fail
        have HH := hH
        refine ((alive_any _).mono fun _ _ h => ⟨h.1, hH.out.1.trans (h.2.mono hH.out.1.size)⟩ : Calls Try.prog 10 #[] wr fun e w' => e = .returned (.bool true) ∧ Below w.heap.size w w').mono ?_
        rintro en w2 ⟨rfl, hb2⟩
        have HB2 := Lib.hid hb2
        clear hb2
        go_wp2_with fail
        go_ret
        exact ⟨rfl, HB2.out⟩
end Go.Proofs.Ytcgneokcpffjaaa
