import Derived.Test.YthhdackaopaojaaGreatV30
namespace Go.Proofs.YthhdackaopaojaaGreat
open Go.RowKit Go.Tg Go.Maps

/-- A tick goes by. -/
def tickS (rej : Pk → ByteArray) (C : NegC) (st : NSt) : NSt × List Pk :=
  if waitsB st.s then
    if wrap64 (st.ticks + 1) < C.wt then ({ st with ticks := wrap64 (st.ticks + 1) }, [])
    else toldS rej C { st with ticks := 0, s := tmoS st.s st.c, c := doC C.cf C.tm (tmoL st.s st.c) (tmoL st.s st.c) st.c } (tmoL st.s st.c) noCame
  else (st, [])

theorem tmo_no (s c : Int) (hs : 0 ≤ s ∧ s ≤ 9) (rej : Pk → ByteArray) (B : NegB) (C : NegC) (cm : Came) (po pa : Value) : SayAll rej B C cm po pa (tmoL s c) := by
  unfold tmoL tmoE
  by_cases hw : waitsB s = true
  · rw [if_pos hw]
    by_cases hc : 0 < c
    · rw [if_pos hc]; exact sayAll_next rej B C cm po pa s 4 hs (by decide)
    · rw [if_neg hc]; exact sayAll_next rej B C cm po pa s 5 hs (by decide)
  · rw [if_neg hw]; exact SayAll.none
theorem tmoS_bd (s c : Int) (hs : 0 ≤ s ∧ s ≤ 9) : 0 ≤ tmoS s c ∧ tmoS s c ≤ 9 := by
  unfold tmoS
  cases tmoE s c with
  | none => exact hs
  | some e => exact nextS_bd s e hs
theorem tmoL_le (s c : Int) : (tmoL s c).length ≤ 3 := by
  unfold tmoL
  cases tmoE s c with
  | none => exact Nat.zero_le _
  | some e => exact nextL_le s e

section
variable (rej : Pk → ByteArray) {w : World} {S ok : Nat → Prop} {B : NegB} {C : NegC} {st : NSt} {X : NegX}

set_option maxHeartbeats 8000000 in
set_option maxRecDepth 100000 in
theorem Tick_at (h : NegAt w S B C st X) :
    Calls Tryz.prog 62 #[.pointer (some ⟨B.nb, 0, none⟩)] w fun e w' => EvPost w w' S (fun _ => False) B C (tickS rej C st) e := by
  have g0 : w.cell? ⟨B.nb, 0, none⟩ = some (.pointer (some ⟨B.ab, 0, none⟩)) := h.cell 0
  have g14 : w.cell? ⟨B.nb, 14, none⟩ = some (.int .i64 st.ticks) := h.cell 14
  have g8 : w.cell? ⟨B.nb, 8, none⟩ = some (.int .i64 C.wt) := h.cell 8
  have f14 := h.fz 14
  have H := Lib.hid (And.intro h (waits_some B.ab st.s st.c C.cf C.tm w h.aut h.ok.cf.1))
  have HT : Hid (tickS rej C st = _) := Lib.hid rfl
  have hss := h.ss
  have hwf : (Lit.int .i64 st.s).wf = true := by
    simp only [Lit.wf, IntKind.min, IntKind.max, IntKind.signed, IntKind.bits, Bool.and_eq_true, decide_eq_true_eq, if_true]
    omega
  by_cases hw : waitsB st.s = true
  · rw [hw] at H
    have h1 := NegAt.setC (st' := { st with ticks := wrap64 (st.ticks + 1) }) h 14 (.int .i64 (wrap64 (st.ticks + 1))) rfl ⟨rfl, rfl, rfl, rfl, rfl⟩ h.id
    have k1 := keepC B w 14 (.int .i64 (wrap64 (st.ticks + 1)))
    have H1 := Lib.hid (And.intro h1 k1)
    by_cases ht : wrap64 (st.ticks + 1) < C.wt
    · have dt : decide (wrap64 (st.ticks + 1) < C.wt) = true := by simpa using ht
      have HQ := Lib.hid (show tickS rej C st = ({ st with ticks := wrap64 (st.ticks + 1) }, []) from by unfold tickS; rw [if_pos hw, if_pos ht])
      clear h h1 k1 ht hw
      go_enter Tryz.func62, Tryz.ntmps62
      go_wp2_with (first
        | (go_at_call 77; refine (nnone_at H.out.1).mono ?_; rintro e w1 ⟨rfl, rfl⟩)
        | (go_at_call 86; refine H.out.2.mono ?_; rintro e w1 ⟨rfl, rfl⟩))
      go_quiet (fail)
      go_wp2_with fail
      go_ret
      rw [HQ.out]
      exact EvPost.none' ⟨X, (H1.out.1.below (w' := (w.setCell ⟨B.nb, 14, none⟩ (.int .i64 (wrap64 (st.ticks + 1)))).drewN nq) ⟨rfl, rfl, rfl, Nat.le_refl _, fun _ _ => rfl⟩).mono (fun b h => Or.inl h)⟩ (H1.out.2.drewN nq |>.mono (fun b _ h => Or.inl h))
    · have dt : decide (wrap64 (st.ticks + 1) < C.wt) = false := by simpa using ht
      have HQ := Lib.hid (show tickS rej C st = toldS rej C { st with ticks := 0, s := tmoS st.s st.c, c := doC C.cf C.tm (tmoL st.s st.c) (tmoL st.s st.c) st.c } (tmoL st.s st.c) noCame from by unfold tickS; rw [if_pos hw, if_neg ht])
      clear ht hw h h1 k1
      have HI := Lib.hid (doC_bd (tmoL st.s st.c) (show InB C.cf from ⟨by have := H.out.1.ok.cf; omega, H.out.1.ok.cf.2⟩) (show InB C.tm from ⟨by have := H.out.1.ok.tm; omega, H.out.1.ok.tm.2⟩) (tmoL st.s st.c) st.c H.out.1.ib)
      go_enter Tryz.func62, Tryz.ntmps62
      go_wp2_with (first
        | (go_at_call 77; refine (nnone_at H.out.1).mono ?_; rintro e w1 ⟨rfl, rfl⟩)
        | (go_at_call 86; refine H.out.2.mono ?_; rintro e w1 ⟨rfl, rfl⟩))
      go_quiet (fail)
      have h1 := H1.out.1.below (w' := (w.setCell ⟨B.nb, 14, none⟩ (.int .i64 (wrap64 (st.ticks + 1)))).drewN nq) ⟨rfl, rfl, rfl, Nat.le_refl _, fun _ _ => rfl⟩
      have k1 := H1.out.2.drewN nq
      generalize (w.setCell ⟨B.nb, 14, none⟩ (.int .i64 (wrap64 (st.ticks + 1)))).drewN nq = W at h1 k1 ⊢
      have u0 : W.cell? ⟨B.nb, 0, none⟩ = some (.pointer (some ⟨B.ab, 0, none⟩)) := h1.cell 0
      have u14 : W.cell? ⟨B.nb, 14, none⟩ = some (.int .i64 (wrap64 (st.ticks + 1))) := h1.cell 14
      have uf := h1.fz 14
      have h2 := NegAt.setC (st' := { st with ticks := 0 }) h1 14 (.int .i64 0) rfl ⟨rfl, rfl, rfl, rfl, rfl⟩ H.out.1.id
      have HT := Lib.hid (timeout_any B.ab st.s st.c C.cf C.tm _ h2.aut H.out.1.ok.cf.1 H.out.1.ok.cf.2 H.out.1.ok.tm.1 H.out.1.ok.tm.2 H.out.1.ib hwf)
      have H2 := Lib.hid (And.intro h2 (k1.trans (keepC B W 14 (.int .i64 0))))
      clear h1 k1 h2
      go_wp2_with fail
      refine HT.out.mono ?_
      rintro e w3 ⟨v3, rfl, hi3, ha3, hk3⟩
      have hn3 := NegAt.auto H2.out.1 hk3 _ _ ha3 HI.out (tmoS_bd _ _ hss)
      have hnl := H2.out.1.nlt
      have HTO := Lib.hid (told_at rej noCame (.slice none 0 0) (.slice none 0 0) (tmoL st.s st.c) v3 _ hi3 hnl (Nat.le_trans (tmoL_le _ _) (by omega)) hn3 (noCame_at w3 B) (tmo_no _ _ hss rej B C noCame _ _))
      unfold cameV noCame noB at HTO
      have HK3 := Lib.hid hk3
      clear hi3 ha3 hk3 hn3
      go_wp2_with fail
      refine HTO.out.mono ?_
      rintro e w4 ⟨v4, rfl, ⟨L, l1, l2, l3⟩, ⟨X4, n4⟩, k4⟩
      have H4 := Lib.hid (And.intro l1 (And.intro l2 (And.intro l3 (And.intro n4 k4))))
      clear l1 l2 l3 n4 k4
      go_wp2_with fail
      go_ret
      have hs2 := H2.out.2.size
      have hs3 := HK3.out.size
      rw [HQ.out]
      refine ⟨_, rfl, ⟨L, H4.out.1, H4.out.2.1.base (by omega), H4.out.2.2.1.mono (fun b hb => hb.imp id (fun h => by omega))⟩, ⟨X4, H4.out.2.2.2.1.mono (fun b hb => hb.imp id (fun h => by omega))⟩, ?_⟩
      exact ((H2.out.2.mono (fun b _ hb => Or.inl hb)).trans (HK3.out.mono (fun b _ hb => Or.inr (Or.inl hb)))).trans (H4.out.2.2.2.2.mono (fun b _ hb => Or.inl hb))
  · have HQ := Lib.hid (show tickS rej C st = (st, []) from by unfold tickS; rw [if_neg hw])
    have hwf' : waitsB st.s = false := by simpa using hw
    rw [hwf'] at H
    clear h hw
    go_enter Tryz.func62, Tryz.ntmps62
    go_wp2_with (first
      | (go_at_call 77; refine (nnone_at H.out.1).mono ?_; rintro e w1 ⟨rfl, rfl⟩)
      | (go_at_call 86; refine H.out.2.mono ?_; rintro e w1 ⟨rfl, rfl⟩))
    go_ret
    rw [HQ.out]
    exact EvPost.none' ⟨X, H.out.1.mono (fun b h => .inl h)⟩ (Keep.refl _ _)
end
end Go.Proofs.YthhdackaopaojaaGreat

namespace Go.Proofs.YthhdackaopaojaaGreat
open Go.RowKit Go.Tg Go.Maps

theorem TickP (rej : Pk → ByteArray) {w : World} {S : Nat → Prop} {B : NegB} {C : NegC} {st : NSt} {jb : Nat} (h : NegP w S B C st jb) :
    Calls Tryz.prog 62 #[.pointer (some ⟨B.nb, 0, none⟩)] w fun e w' => EvP w w' S (fun _ => False) B C jb (tickS rej C st) e := by
  obtain ⟨X, hX⟩ := h.1
  exact (Tick_at rej hX).mono (fun e w' he => he.p h)

theorem set8 {w : World} {b : Nat} {T : TypeId} {a0 a1 a2 a3 a4 a5 a6 a7 : Value} (h : w.heap[b]? = some (.cells #[a0, a1, a2, a3, a4, a5, a6, a7] T (0, 0))) (v0 v1 v2 v3 v4 v5 v6 v7 : Value) :
    ((((((((w.setCell ⟨b, 0, none⟩ v0).setCell ⟨b, 1, none⟩ v1).setCell ⟨b, 2, none⟩ v2).setCell ⟨b, 3, none⟩ v3).setCell ⟨b, 4, none⟩ v4).setCell ⟨b, 5, none⟩ v5).setCell ⟨b, 6, none⟩ v6).setCell ⟨b, 7, none⟩ v7).heap[b]? = some (.cells #[v0, v1, v2, v3, v4, v5, v6, v7] T (0, 0)) := by
  have h0 : (w.setCell ⟨b, 0, none⟩ v0).heap[b]? = some (.cells #[v0, a1, a2, a3, a4, a5, a6, a7] T (0, 0)) := set_block h 0 v0
  have h1 : ((w.setCell ⟨b, 0, none⟩ v0).setCell ⟨b, 1, none⟩ v1).heap[b]? = some (.cells #[v0, v1, a2, a3, a4, a5, a6, a7] T (0, 0)) := set_block h0 1 v1
  have h2 : (((w.setCell ⟨b, 0, none⟩ v0).setCell ⟨b, 1, none⟩ v1).setCell ⟨b, 2, none⟩ v2).heap[b]? = some (.cells #[v0, v1, v2, a3, a4, a5, a6, a7] T (0, 0)) := set_block h1 2 v2
  have h3 : ((((w.setCell ⟨b, 0, none⟩ v0).setCell ⟨b, 1, none⟩ v1).setCell ⟨b, 2, none⟩ v2).setCell ⟨b, 3, none⟩ v3).heap[b]? = some (.cells #[v0, v1, v2, v3, a4, a5, a6, a7] T (0, 0)) := set_block h2 3 v3
  have h4 : (((((w.setCell ⟨b, 0, none⟩ v0).setCell ⟨b, 1, none⟩ v1).setCell ⟨b, 2, none⟩ v2).setCell ⟨b, 3, none⟩ v3).setCell ⟨b, 4, none⟩ v4).heap[b]? = some (.cells #[v0, v1, v2, v3, v4, a5, a6, a7] T (0, 0)) := set_block h3 4 v4
  have h5 : ((((((w.setCell ⟨b, 0, none⟩ v0).setCell ⟨b, 1, none⟩ v1).setCell ⟨b, 2, none⟩ v2).setCell ⟨b, 3, none⟩ v3).setCell ⟨b, 4, none⟩ v4).setCell ⟨b, 5, none⟩ v5).heap[b]? = some (.cells #[v0, v1, v2, v3, v4, v5, a6, a7] T (0, 0)) := set_block h4 5 v5
  have h6 : (((((((w.setCell ⟨b, 0, none⟩ v0).setCell ⟨b, 1, none⟩ v1).setCell ⟨b, 2, none⟩ v2).setCell ⟨b, 3, none⟩ v3).setCell ⟨b, 4, none⟩ v4).setCell ⟨b, 5, none⟩ v5).setCell ⟨b, 6, none⟩ v6).heap[b]? = some (.cells #[v0, v1, v2, v3, v4, v5, v6, a7] T (0, 0)) := set_block h5 6 v6
  have h7 : ((((((((w.setCell ⟨b, 0, none⟩ v0).setCell ⟨b, 1, none⟩ v1).setCell ⟨b, 2, none⟩ v2).setCell ⟨b, 3, none⟩ v3).setCell ⟨b, 4, none⟩ v4).setCell ⟨b, 5, none⟩ v5).setCell ⟨b, 6, none⟩ v6).setCell ⟨b, 7, none⟩ v7).heap[b]? = some (.cells #[v0, v1, v2, v3, v4, v5, v6, v7] T (0, 0)) := set_block h6 7 v7
  exact h7
theorem keep8 (w : World) (b : Nat) (v0 v1 v2 v3 v4 v5 v6 v7 : Value) : Keep (fun k => k = b) w ((((((((w.setCell ⟨b, 0, none⟩ v0).setCell ⟨b, 1, none⟩ v1).setCell ⟨b, 2, none⟩ v2).setCell ⟨b, 3, none⟩ v3).setCell ⟨b, 4, none⟩ v4).setCell ⟨b, 5, none⟩ v5).setCell ⟨b, 6, none⟩ v6).setCell ⟨b, 7, none⟩ v7) :=
  ((((keep4 w b v0 v1 v2 v3).setCell ⟨b, 4, none⟩ (Or.inr rfl) v4).setCell ⟨b, 5, none⟩ (Or.inr rfl) v5).setCell ⟨b, 6, none⟩ (Or.inr rfl) v6).setCell ⟨b, 7, none⟩ (Or.inr rfl) v7

/-- The Setup of the laws. -/
def setV (b0 b1 b2 : Nat) (cf tm f wt : Int) : Array Value := #[.slice (some ⟨b0, 0, none⟩) 1 1, .slice (some ⟨b1, 0, none⟩) 1 1, .slice (some ⟨b2, 0, none⟩) 1 1, .slice none 0 0, .int .i64 cf, .int .i64 tm, .int .i64 f, .int .i64 wt]
def SetAt (w : World) (base b0 b1 b2 : Nat) (ask : ByteArray) : Prop :=
  ORow w base (.slice (some ⟨b0, 0, none⟩) 1 1) [⟨1, ask⟩] ∧ RRow w base (.slice (some ⟨b1, 0, none⟩) 1 1) [rule1] ∧ RRow w base (.slice (some ⟨b2, 0, none⟩) 1 1) [rule1]

end Go.Proofs.YthhdackaopaojaaGreat

namespace Go.Proofs.YthhdackaopaojaaGreat
open Go.RowKit Go.Tg Go.Maps

/-- What the laws' negotiation was made with. -/
def CS (jb : Nat) (cf f wt : Int) : NegC := ⟨[rule1], [rule1], [], cf, 2, f, wt, ownJ jb⟩
def sQ (c ticks id asked : Int) (ask : List Opt) : NSt := ⟨6, c, id, asked, 0, ticks, ask, [], [], 0, 0⟩
theorem eQ1 (jb : Nat) (cf f wt : Int) (ask : List Opt) : evS noR (CS jb cf f wt) (st0 ask) 2 noCame = (⟨1, 0, 0, 0, 0, 0, ask, [], [], 0, 0⟩, []) := rfl
theorem eQ2 (jb : Nat) (cf f wt : Int) (ask : List Opt) (h : 1 ≤ cf) : evS noR (CS jb cf f wt) ⟨1, 0, 0, 0, 0, 0, ask, [], [], 0, 0⟩ 0 noCame = (sQ (cf - 1) 0 1 1 ask, [⟨1, 1, ask, noB⟩]) := by
  have h1 : nextL 1 0 = [4, 6] := by decide
  have h2 : nextS 1 0 = 6 := by decide
  have hd : doC cf 2 [4, 6] [4, 6] 0 = cf - 1 := by
    simp only [doC, List.foldl_cons, List.foldl_nil, doStep]
    have h9 : hasB [4, 6] 9 = false := by decide
    rw [h9]
    simp
    omega
  unfold evS
  show toldS noR (CS jb cf f wt) ⟨nextS 1 0, doC cf 2 (nextL 1 0) (nextL 1 0) 0, 0, 0, 0, 0, ask, [], [], 0, 0⟩ (nextL 1 0) noCame = _
  rw [h1, h2, hd]
  rfl
theorem tQ1 (jb : Nat) (cf f wt c ticks id asked : Int) (ask : List Opt) (h0 : 0 ≤ ticks ∧ ticks ≤ 100) (h : ticks + 1 < wt) : tickS noR (CS jb cf f wt) (sQ c ticks id asked ask) = (sQ c (ticks + 1) id asked ask, []) := by
  have hw : wrap64 (ticks + 1) = ticks + 1 := by unfold wrap64; omega
  show (if wrap64 (ticks + 1) < wt then _ else _) = _
  rw [hw, if_pos h]
  show ((⟨6, c, id, asked, 0, wrap64 (ticks + 1), ask, [], [], 0, 0⟩ : NSt), []) = _
  rw [hw]; rfl
theorem tQ2 (jb : Nat) (cf f wt c ticks id asked : Int) (ask : List Opt) (h0 : 0 ≤ ticks ∧ ticks ≤ 100) (h : ¬ ticks + 1 < wt) (hc : 0 < c) : tickS noR (CS jb cf f wt) (sQ c ticks id asked ask) = (sQ (c - 1) 0 (nid id) (nid id) ask, [⟨1, nid id, ask, noB⟩]) := by
  have hw : wrap64 (ticks + 1) = ticks + 1 := by unfold wrap64; omega
  have e1 : tmoE 6 c = some 4 := by show (if 0 < c then some (4 : Int) else some 5) = some 4; rw [if_pos hc]
  have e2 : tmoL 6 c = [6] := by unfold tmoL; rw [e1]; decide
  have e3 : tmoS 6 c = 6 := by unfold tmoS; rw [e1]; decide
  have hd : doC cf 2 [6] [6] c = c - 1 := by
    simp only [doC, List.foldl_cons, List.foldl_nil, doStep]
    simp
    omega
  show (if wrap64 (ticks + 1) < wt then _ else toldS noR (CS jb cf f wt) ⟨tmoS 6 c, doC cf 2 (tmoL 6 c) (tmoL 6 c) c, id, asked, 0, 0, ask, [], [], 0, 0⟩ (tmoL 6 c) noCame) = _
  rw [hw, if_neg h, e2, e3, hd]
  rfl
theorem tQ3 (jb : Nat) (cf f wt c ticks id asked : Int) (ask : List Opt) (h0 : 0 ≤ ticks ∧ ticks ≤ 100) (h : ¬ ticks + 1 < wt) (hc : ¬ 0 < c) : ∃ c', tickS noR (CS jb cf f wt) (sQ c ticks id asked ask) = (⟨3, c', id, asked, 0, 0, ask, [], [], 0, 0⟩, []) := by
  have hw : wrap64 (ticks + 1) = ticks + 1 := by unfold wrap64; omega
  have e1 : tmoE 6 c = some 5 := by show (if 0 < c then some (4 : Int) else some 5) = some 5; rw [if_neg hc]
  have e2 : tmoL 6 c = [3] := by unfold tmoL; rw [e1]; decide
  have e3 : tmoS 6 c = 3 := by unfold tmoS; rw [e1]; decide
  refine ⟨doC cf 2 [3] [3] c, ?_⟩
  show (if wrap64 (ticks + 1) < wt then _ else toldS noR (CS jb cf f wt) ⟨tmoS 6 c, doC cf 2 (tmoL 6 c) (tmoL 6 c) c, id, asked, 0, 0, ask, [], [], 0, 0⟩ (tmoL 6 c) noCame) = _
  rw [hw, if_neg h, e2, e3]
  rfl
theorem tQ4 (jb : Nat) (cf f wt : Int) (st : NSt) (h : st.s = 3) : tickS noR (CS jb cf f wt) st = (st, []) := by
  unfold tickS
  rw [h]
  rfl

/-- After k ticks, with so many requests. -/
def QS (c d : Nat) (st : NSt) (k asked : Nat) : Prop :=
  (∃ q r : Nat, ∃ id ak : Int, k = q * d + r ∧ r < d ∧ q < c ∧ asked = q + 1 ∧ st = sQ (c - 1 - q) r id ak asks) ∨ (k = c * d ∧ asked = c ∧ st.s = 3)

theorem QS.step {c d k asked jb : Nat} {f : Int} {st : NSt} (h : QS c d st k asked) (hd : 1 ≤ d ∧ d ≤ 20) (hk : k < c * d) : st.s = 6 ∧ ∃ n, (tickS noR (CS jb c f d) st).2.length = n ∧ QS c d (tickS noR (CS jb c f d) st).1 (k + 1) (asked + n) := by
  rcases h with ⟨q, r, id, ak, h1, h2, h3, h4, rfl⟩ | ⟨h1, _⟩
  · refine ⟨rfl, ?_⟩
    by_cases hr : r + 1 < d
    · rw [tQ1 jb c f d _ _ _ _ _ (by omega) (by omega)]
      exact ⟨0, rfl, Or.inl ⟨q, r + 1, id, ak, by omega, hr, h3, h4, rfl⟩⟩
    · have hrd : r + 1 = d := by omega
      by_cases hq : q + 1 < c
      · rw [tQ2 jb c f d _ _ _ _ _ (by omega) (by omega) (by omega)]
        refine ⟨1, rfl, Or.inl ⟨q + 1, 0, nid id, nid id, ?_, by omega, hq, by omega, ?_⟩⟩
        · rw [Nat.add_mul]; omega
        · have : ((c : Int) - 1 - (q : Int) - 1) = (c : Int) - 1 - ((q + 1 : Nat) : Int) := by omega
          rw [this]; rfl
      · obtain ⟨c', hc'⟩ := tQ3 jb c f d ((c : Int) - 1 - q) r id ak asks (by omega) (by omega) (by omega)
        rw [hc']
        refine ⟨0, rfl, Or.inr ⟨?_, by omega, rfl⟩⟩
        have : q + 1 = c := by omega
        rw [← this, Nat.add_mul]; omega
  · omega

/-- A negotiation of a law's own. -/
def NegQ (w w' : World) (B : NegB) (C : NegC) (st : NSt) (jb : Nat) : Prop := (∃ S, NegP w' S B C st jb ∧ ∀ b, S b → w.heap.size ≤ b) ∧ Below w.heap.size w w'
theorem NegQ.ev {w w1 w2 : World} {B : NegB} {C : NegC} {st : NSt} {jb : Nat} {r : NSt × List Pk} {S : Nat → Prop} (hb : Below w.heap.size w w1) (hS : ∀ b, S b → w.heap.size ≤ b) (h0 : NegP w1 S B C st jb) (h : NegP w2 (Grow S w1) B C r.1 jb) (hk : Keep B.t w1 w2) : NegQ w w2 B C r.1 jb :=
  ⟨⟨_, h, fun b hb' => hb'.elim (hS b) (fun h => Nat.le_trans hb.size h)⟩, hb.trans (hk.below hb.size (fun b hb' ht => by have := hS b (h0.ts ht); omega))⟩
end Go.Proofs.YthhdackaopaojaaGreat
