import Derived.Test.YtignponfoheaeaaGreatR4
import Derived.Test.YtignponfoheaeaaGreatB9
/- The reference's automaton: Do, Timeout, Waits; a book of ints: one more list. -/
namespace Go.Proofs.YtignponfoheaeaaGreat
open Go.RowKit Go.Tg Go.Maps

theorem rdo_any (b : Nat) (s c cf tm e : Int) (w : World) (h : RAt w b s c cf tm) (h1 : 1 ≤ cf) (h2 : cf ≤ 20) (h3 : 1 ≤ tm) (h4 : tm ≤ 20) (h5 : InB c) :
    Calls Tryz.prog 18 #[.pointer (some ⟨b, 0, none⟩), .int .i64 e] w fun en w' => ∃ v, en = .returned v ∧ RDo w w' b (nextS s e) (doC cf tm (nextL s e) (nextL s e) c) cf tm v (nextL s e) :=
  rdo_core (nextS s e) (nextL s e) b s c cf tm e w h h1 h2 h3 h4 h5 (fun w => Lib.hid (rnext_any s e w)) (Nat.le_trans (nextL_le s e) (by omega))

set_option maxHeartbeats 1000000 in
theorem rwaits_any (b : Nat) (s c cf tm : Int) (w : World) (h : RAt w b s c cf tm) :
    Calls Tryz.prog 22 #[.pointer (some ⟨b, 0, none⟩)] w fun e w' => e = .returned (.bool (waitsB s)) ∧ w = w' := by
  have hc := h.c2
  by_cases h1 : 4 ≤ s
  · by_cases h2 : s ≤ 8
    · go_enter Tryz.func22, Tryz.ntmps22
      go_wp2_with fail
      go_ret
      exact ⟨by simp [waitsB, h1, h2], rfl⟩
    · go_enter Tryz.func22, Tryz.ntmps22
      go_wp2_with fail
      go_ret
      exact ⟨by simp [waitsB]; omega, rfl⟩
  · go_enter Tryz.func22, Tryz.ntmps22
    go_wp2_with fail
    go_ret
    exact ⟨by simp [waitsB]; omega, rfl⟩

set_option maxHeartbeats 1000000 in
theorem rtimeout_any (b : Nat) (s c cf tm : Int) (w : World) (h : RAt w b s c cf tm) (h1 : 1 ≤ cf) (h2 : cf ≤ 20) (h3 : 1 ≤ tm) (h4 : tm ≤ 20) (h5 : InB c) :
    Calls Tryz.prog 16 #[.pointer (some ⟨b, 0, none⟩)] w fun en w' => ∃ v, en = .returned v ∧ RDo w w' b (tmoS s c) (doC cf tm (tmoL s c) (tmoL s c) c) cf tm v (tmoL s c) := by
  have hc3 := h.c3
  have HD4 := Lib.hid (rdo_any b s c cf tm 4 w h h1 h2 h3 h4 h5)
  have HD5 := Lib.hid (rdo_any b s c cf tm 5 w h h1 h2 h3 h4 h5)
  cases hw : waitsB s with
  | false =>
    have e1 : tmoL s c = [] := by simp [tmoL, tmoE, hw]
    have e2 : tmoS s c = s := by simp [tmoS, tmoE, hw]
    rw [e1, e2]
    go_enter Tryz.func16, Tryz.ntmps16
    go_wp2_with fail
    refine (rwaits_any _ _ _ _ _ _ h).mono ?_
    rintro en w0 ⟨rfl, rfl⟩
    go_wp2_with fail
    go_ret
    exact ⟨_, rfl, h, (BRow.nil 3 1 w).rd, Keep.refl _ _, fun g h => by cases h⟩
  | true =>
    by_cases hc : 0 < c
    · have e1 : tmoL s c = nextL s 4 := by simp [tmoL, tmoE, hw, hc]
      have e2 : tmoS s c = nextS s 4 := by simp [tmoS, tmoE, hw, hc]
      rw [e1, e2]
      go_enter Tryz.func16, Tryz.ntmps16
      go_wp2_with fail
      refine (rwaits_any _ _ _ _ _ _ h).mono ?_
      rintro en w0 ⟨rfl, rfl⟩
      go_wp2_with fail
      refine HD4.out.mono ?_
      rintro en w0 ⟨v, rfl, h6⟩
      have H6 := Lib.hid h6
      clear h6
      go_wp2_with fail
      go_ret
      exact ⟨_, rfl, H6.out⟩
    · have e1 : tmoL s c = nextL s 5 := by simp [tmoL, tmoE, hw, hc]
      have e2 : tmoS s c = nextS s 5 := by simp [tmoS, tmoE, hw, hc]
      rw [e1, e2]
      go_enter Tryz.func16, Tryz.ntmps16
      go_wp2_with fail
      refine (rwaits_any _ _ _ _ _ _ h).mono ?_
      rintro en w0 ⟨rfl, rfl⟩
      go_wp2_with fail
      refine HD5.out.mono ?_
      rintro en w0 ⟨v, rfl, h6⟩
      have H6 := Lib.hid h6
      clear h6
      go_wp2_with fail
      go_ret
      exact ⟨_, rfl, H6.out⟩

theorem brow_of_ints {B : Nat} {w : World} {v : Value} {xs : List Int} (h : IntsAt 3 B w v xs) (hl : xs.length ≤ 1000) : BRow 3 1 w v xs.length (iV xs) := by
  rcases h with ⟨rfl, rfl⟩ | ⟨b, h1, rfl, h3⟩
  · exact BRow.nil _ _ _
  · refine ⟨by rw [iV_len, Nat.mul_one], Or.inr ⟨b, _, _, rfl, Nat.zero_le _, h3, Nat.le_refl _, by unfold maxLen; omega, by simp, ?_⟩⟩
    simp only [Nat.mul_one]
    rw [List.take_of_length_le (by simp)]
    rfl
theorem own_of_ints {B : Nat} {w : World} {v : Value} {xs : List Int} (h : IntsAt 3 B w v xs) : ∀ g, v.ownBlock = some g → B ≤ g := by
  rcases h with ⟨rfl, rfl⟩ | ⟨b, h1, rfl, h3⟩
  · intro g hg; cases hg
  · intro g hg; cases hg; exact h1

theorem BookI.new {w : World} {bb : Nat} (h : w.heap[bb]? = some (.cells (bookC nilS nilS nilS nilS nilS nilS) 42 (0, 0))) : BookI w bb KD.nil := ⟨h, ShelfV.nil _ _ _ _, fun _ hi => absurd hi (Nat.not_lt_zero _)⟩

set_option maxHeartbeats 1000000 in
set_option maxRecDepth 100000 in
theorem addI_full (bb : Nat) (x : Value) (sa : Option Addr) (n c : Nat) (w : World) (c1 : w.cell? ⟨bb, 2, none⟩ = some (.slice sa n c)) (hn : 250 ≤ n) :
    Calls Tryz.prog 11 #[.pointer (some ⟨bb, 0, none⟩), x] w fun e w' => (∃ r, e = .returned r) ∧ w = w' := by
  go_enter Tryz.func11, Tryz.ntmps11
  go_wp2_with fail
  go_end0
  exact ⟨⟨_, rfl⟩, rfl⟩

/-- One more list in the book (if there is room). -/
structure BookAdd (w w' : World) (bb : Nat) (D D' : KD) (x : Value) : Prop where
  b : BookI w' bb D'
  kp : Keep (fun g => g = bb ∨ D.Has g) w w'
  has : ∀ g, D'.Has g → D.Has g ∨ x.ownBlock = some g ∨ (w.heap.size ≤ g ∧ g < w'.heap.size)

theorem bookI_add {w : World} {bb : Nat} {D : KD} {x : Value} {xs : List Int} (h : BookI w bb D) (hx : BRow 3 1 w x xs.length (iV xs)) (hl : xs.length ≤ 1000) (hxs : ∀ g, x.ownBlock = some g → ¬ D.Has g) (hbx : x.ownBlock ≠ some bb) :
    Calls Tryz.prog 11 #[.pointer (some ⟨bb, 0, none⟩), x] w fun e w' => (∃ r, e = .returned r) ∧ ∃ D', BookAdd w w' bb D D' x := by
  by_cases hr : D.n < 250
  · refine (addI_any D x xs.length (iV xs) bb _ 42 w h.i hx (iV_one _) (by omega) hxs h.blk rfl rfl h.no hbx hr).mono ?_
    rintro e w' ⟨he, v1, v2, y, ha⟩
    refine ⟨he, _, ⟨ha.b, ha.s, ?_⟩, ha.kp.mono ?_, ha.has⟩
    · intro i hi
      simp only at hi ⊢
      by_cases hin : i = D.n
      · subst hin; rw [upN_same, upN_same, upN_same]; exact ⟨xs, rfl, rfl, rfl⟩
      · rw [upN_ne _ _ hin, upN_ne _ _ hin, upN_ne _ _ hin]; exact h.eqs i (by omega)
    · intro k _ hk
      rcases hk with hk | hk | hk
      · exact .inl hk
      · exact .inr (.inl (.inl hk))
      · exact .inr (.inr (.inl hk))
  · obtain ⟨sa, c, e1, -, -⟩ := h.i.x.r.form
    refine (addI_full bb x sa D.n c w ?_ (by omega)).mono ?_
    · rw [← e1]; exact bcell h.blk 2 _ rfl
    · rintro e w' ⟨he, rfl⟩
      exact ⟨he, D, h, Keep.refl _ _, fun g hg => .inl hg⟩
end Go.Proofs.YtignponfoheaeaaGreat
