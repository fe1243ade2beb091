import Derived.Test.YtidlldfppoelnaaV30
namespace Go.Proofs.Ytidlldfppoelnaa
open Go.RowKit Go.Tg Go.Maps

/-- A tick goes by. -/
def tickS (rej : Pk → ByteArray) (C : NegC) (st : NSt) : NSt × List Pk :=
  if waitsB st.s then
    if wrap64 (st.ticks + 1) < C.wt then ({ st with ticks := wrap64 (st.ticks + 1) }, [])
    else toldS rej C { st with ticks := 0, s := tmoS st.s st.c, c := doC C.cf C.tm (tmoL st.s st.c) (tmoL st.s st.c) st.c } (tmoL st.s st.c) noCame
  else (st, [])

theorem tmo_no (s c : Int) (hs : 0 ≤ s ∧ s ≤ 9) (rej : Pk → ByteArray) (B : NegB) (C : NegC) (cm : Came) (po pa : Value) : SayAll rej B C cm po pa (tmoL s c) := by
  unfold tmoL tmoE
  by_cases hw : waitsB s = true
  · rw [if_pos hw]
    by_cases hc : 0 < c
    · rw [if_pos hc]; exact sayAll_next rej B C cm po pa s 4 hs (by decide)
    · rw [if_neg hc]; exact sayAll_next rej B C cm po pa s 5 hs (by decide)
  · rw [if_neg hw]; exact SayAll.none
theorem tmoS_bd (s c : Int) (hs : 0 ≤ s ∧ s ≤ 9) : 0 ≤ tmoS s c ∧ tmoS s c ≤ 9 := by
  unfold tmoS
  cases tmoE s c with
  | none => exact hs
  | some e => exact nextS_bd s e hs
theorem tmoL_le (s c : Int) : (tmoL s c).length ≤ 3 := by
  unfold tmoL
  cases tmoE s c with
  | none => exact Nat.zero_le _
  | some e => exact nextL_le s e

section
variable (rej : Pk → ByteArray) {w : World} {S ok : Nat → Prop} {B : NegB} {C : NegC} {st : NSt} {X : NegX}

set_option maxHeartbeats 8000000 in
set_option maxRecDepth 100000 in
theorem Tick_at (h : NegAt w S B C st X) :
    Calls Try.prog 25 #[.pointer (some ⟨B.nb, 0, none⟩)] w fun e w' => EvPost w w' S (fun _ => False) B C (tickS rej C st) e := by
  have g0 : w.cell? ⟨B.nb, 0, none⟩ = some (.pointer (some ⟨B.ab, 0, none⟩)) := h.cell 0
  have g14 : w.cell? ⟨B.nb, 14, none⟩ = some (.int .i64 st.ticks) := h.cell 14
  have g8 : w.cell? ⟨B.nb, 8, none⟩ = some (.int .i64 C.wt) := h.cell 8
  have f14 := h.fz 14
  have H := Lib.hid (And.intro h (waits_some B.ab st.s st.c C.cf C.tm w h.aut h.ok.cf.1))
  have HT : Hid (tickS rej C st = _) := Lib.hid rfl
  have hss := h.ss
  have hwf : (Lit.int .i64 st.s).wf = true := by
    simp only [Lit.wf, IntKind.min, IntKind.max, IntKind.signed, IntKind.bits, Bool.and_eq_true, decide_eq_true_eq, if_true]
    omega
  by_cases hw : waitsB st.s = true
  · rw [hw] at H
    have h1 := NegAt.setC (st' := { st with ticks := wrap64 (st.ticks + 1) }) h 14 (.int .i64 (wrap64 (st.ticks + 1))) rfl ⟨rfl, rfl, rfl, rfl, rfl⟩ h.id
    have k1 := keepC B w 14 (.int .i64 (wrap64 (st.ticks + 1)))
    have H1 := Lib.hid (And.intro h1 k1)
    by_cases ht : wrap64 (st.ticks + 1) < C.wt
    · have dt : decide (wrap64 (st.ticks + 1) < C.wt) = true := by simpa using ht
      have HQ := Lib.hid (show tickS rej C st = ({ st with ticks := wrap64 (st.ticks + 1) }, []) from by unfold tickS; rw [if_pos hw, if_pos ht])
      clear h h1 k1 ht hw
      go_enter Try.func25, Try.ntmps25
      go_wp2_with (first
        | (go_at_call 31; refine (nnone_at H.out.1).mono ?_; rintro e w1 ⟨rfl, rfl⟩)
        | (go_at_call 49; refine H.out.2.mono ?_; rintro e w1 ⟨rfl, rfl⟩))
      go_quiet (fail)
      go_wp2_with fail
      go_ret
      rw [HQ.out]
      exact EvPost.none' ⟨X, (H1.out.1.below (w' := (w.setCell ⟨B.nb, 14, none⟩ (.int .i64 (wrap64 (st.ticks + 1)))).drewN nq) ⟨rfl, rfl, rfl, Nat.le_refl _, fun _ _ => rfl⟩).mono (fun b h => Or.inl h)⟩ (H1.out.2.drewN nq |>.mono (fun b _ h => Or.inl h))
    · have dt : decide (wrap64 (st.ticks + 1) < C.wt) = false := by simpa using ht
      have HQ := Lib.hid (show tickS rej C st = toldS rej C { st with ticks := 0, s := tmoS st.s st.c, c := doC C.cf C.tm (tmoL st.s st.c) (tmoL st.s st.c) st.c } (tmoL st.s st.c) noCame from by unfold tickS; rw [if_pos hw, if_neg ht])
      clear ht hw h h1 k1
      have HI := Lib.hid (doC_bd (tmoL st.s st.c) (show InB C.cf from ⟨by have := H.out.1.ok.cf; omega, H.out.1.ok.cf.2⟩) (show InB C.tm from ⟨by have := H.out.1.ok.tm; omega, H.out.1.ok.tm.2⟩) (tmoL st.s st.c) st.c H.out.1.ib)
      go_enter Try.func25, Try.ntmps25
      go_wp2_with (first
        | (go_at_call 31; refine (nnone_at H.out.1).mono ?_; rintro e w1 ⟨rfl, rfl⟩)
        | (go_at_call 49; refine H.out.2.mono ?_; rintro e w1 ⟨rfl, rfl⟩))
      go_quiet (fail)
      have h1 := H1.out.1.below (w' := (w.setCell ⟨B.nb, 14, none⟩ (.int .i64 (wrap64 (st.ticks + 1)))).drewN nq) ⟨rfl, rfl, rfl, Nat.le_refl _, fun _ _ => rfl⟩
      have k1 := H1.out.2.drewN nq
      generalize (w.setCell ⟨B.nb, 14, none⟩ (.int .i64 (wrap64 (st.ticks + 1)))).drewN nq = W at h1 k1 ⊢
      have u0 : W.cell? ⟨B.nb, 0, none⟩ = some (.pointer (some ⟨B.ab, 0, none⟩)) := h1.cell 0
      have u14 : W.cell? ⟨B.nb, 14, none⟩ = some (.int .i64 (wrap64 (st.ticks + 1))) := h1.cell 14
      have uf := h1.fz 14
      have h2 := NegAt.setC (st' := { st with ticks := 0 }) h1 14 (.int .i64 0) rfl ⟨rfl, rfl, rfl, rfl, rfl⟩ H.out.1.id
      have HT := Lib.hid (timeout_any B.ab st.s st.c C.cf C.tm _ h2.aut H.out.1.ok.cf.1 H.out.1.ok.cf.2 H.out.1.ok.tm.1 H.out.1.ok.tm.2 H.out.1.ib hwf)
      have H2 := Lib.hid (And.intro h2 (k1.trans (keepC B W 14 (.int .i64 0))))
      clear h1 k1 h2
      go_wp2_with fail
      refine HT.out.mono ?_
      rintro e w3 ⟨v3, rfl, hi3, ha3, hk3⟩
      have hn3 := NegAt.auto H2.out.1 hk3 _ _ ha3 HI.out (tmoS_bd _ _ hss)
      have hnl := H2.out.1.nlt
      have HTO := Lib.hid (told_at rej noCame (.slice none 0 0) (.slice none 0 0) (tmoL st.s st.c) v3 _ hi3 hnl (Nat.le_trans (tmoL_le _ _) (by omega)) hn3 (noCame_at w3 B) (tmo_no _ _ hss rej B C noCame _ _))
      unfold cameV noCame noB at HTO
      have HK3 := Lib.hid hk3
      clear hi3 ha3 hk3 hn3
      go_wp2_with fail
      refine HTO.out.mono ?_
      rintro e w4 ⟨v4, rfl, ⟨L, l1, l2, l3⟩, ⟨X4, n4⟩, k4⟩
      have H4 := Lib.hid (And.intro l1 (And.intro l2 (And.intro l3 (And.intro n4 k4))))
      clear l1 l2 l3 n4 k4
      go_wp2_with fail
      go_ret
      have hs2 := H2.out.2.size
      have hs3 := HK3.out.size
      rw [HQ.out]
      refine ⟨_, rfl, ⟨L, H4.out.1, H4.out.2.1.base (by omega), H4.out.2.2.1.mono (fun b hb => hb.imp id (fun h => by omega))⟩, ⟨X4, H4.out.2.2.2.1.mono (fun b hb => hb.imp id (fun h => by omega))⟩, ?_⟩
      exact ((H2.out.2.mono (fun b _ hb => Or.inl hb)).trans (HK3.out.mono (fun b _ hb => Or.inr (Or.inl hb)))).trans (H4.out.2.2.2.2.mono (fun b _ hb => Or.inl hb))
  · have HQ := Lib.hid (show tickS rej C st = (st, []) from by unfold tickS; rw [if_neg hw])
    have hwf' : waitsB st.s = false := by simpa using hw
    rw [hwf'] at H
    clear h hw
    go_enter Try.func25, Try.ntmps25
    go_wp2_with (first
      | (go_at_call 31; refine (nnone_at H.out.1).mono ?_; rintro e w1 ⟨rfl, rfl⟩)
      | (go_at_call 49; refine H.out.2.mono ?_; rintro e w1 ⟨rfl, rfl⟩))
    go_ret
    rw [HQ.out]
    exact EvPost.none' ⟨X, H.out.1.mono (fun b h => .inl h)⟩ (Keep.refl _ _)
end
end Go.Proofs.Ytidlldfppoelnaa
