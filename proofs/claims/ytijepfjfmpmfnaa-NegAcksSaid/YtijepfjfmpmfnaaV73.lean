import Derived.Test.YtijepfjfmpmfnaaV66
/- What is acked, what was asked last (plain Lean). -/
namespace Go.Proofs.Ytijepfjfmpmfnaa
open Go.RowKit Go.Tg Go.Maps

/-- The last request among packets. -/
def scan1 (x : Int × List Opt) (q : Pk) : Int × List Opt := if q.code = 1 then (q.id, q.o) else x
def scan (x : Int × List Opt) (l : List Pk) : Int × List Opt := l.foldl scan1 x
theorem scan_app (x : Int × List Opt) (l m : List Pk) : scan x (l ++ m) = scan (scan x l) m := List.foldl_append
theorem scan_no (x : Int × List Opt) : ∀ (l : List Pk), (∀ q ∈ l, q.code ≠ 1) → scan x l = x
  | [], _ => rfl
  | q :: l, h => by
    show scan (scan1 x q) l = x
    rw [show scan1 x q = x from if_neg (h q (by simp))]
    exact scan_no x l (fun r hr => h r (by simp [hr]))

section
variable (rej : Pk → ByteArray) (C : NegC) (c : Came)
theorem refuseS_code (st : NSt) : (refuseS C st c).1.req = st.req ∧ (refuseS C st c).1.s = st.s ∧ (refuseS C st c).1.asked = st.asked ∧ (refuseS C st c).1.theirs = st.theirs ∧ ((refuseS C st c).2.code = c.code ∨ (refuseS C st c).2.code = 4) := by
  unfold refuseS
  split
  · exact ⟨rfl, rfl, rfl, rfl, .inl rfl⟩
  · split
    · exact ⟨rfl, rfl, rfl, rfl, .inr rfl⟩
    · exact ⟨rfl, rfl, rfl, rfl, .inl rfl⟩
/-- One action. -/
structure Said (st : NSt) (a : Int) (r : NSt × List Pk) : Prop where
  req : r.1.req = st.req
  s : r.1.s = st.s
  six : a = 6 → r.2 = [⟨1, r.1.asked, st.req, noB⟩]
  no6 : a ≠ 6 → r.1.asked = st.asked ∧ ∀ q ∈ r.2, q.code ≠ 1
  ack : ∀ q ∈ r.2, q.code = 2 → a = 7 ∧ q = ⟨2, c.p.id, c.p.o, noB⟩
  th : r.1.theirs = st.theirs ∨ (a = 7 ∧ r.1.theirs = c.p.o)
theorem said (st : NSt) (a : Int) (h8 : a = 8 → c.code ≠ 1 ∧ c.code ≠ 2) : Said c st a (sayS rej C st a c) := by
  unfold sayS
  by_cases h6 : a = 6
  · rw [if_pos h6]
    exact ⟨rfl, rfl, fun _ => rfl, fun h => absurd h6 h, fun q hq h2 => (by rw [List.mem_singleton.1 hq] at h2; cases h2), .inl rfl⟩
  · rw [if_neg h6]
    by_cases h7 : a = 7
    · rw [if_pos h7]
      exact ⟨rfl, rfl, fun h => absurd h h6, fun _ => ⟨rfl, fun q hq h2 => by rw [List.mem_singleton.1 hq] at h2; cases h2⟩, fun q hq _ => ⟨h7, List.mem_singleton.1 hq⟩, .inr ⟨h7, rfl⟩⟩
    · rw [if_neg h7]
      by_cases e8 : a = 8
      · rw [if_pos e8]
        obtain ⟨r1, r2, r3, r4, r5⟩ := refuseS_code C c st
        obtain ⟨n1, n2⟩ := h8 e8
        refine ⟨r1, r2, fun h => absurd h h6, fun _ => ⟨r3, fun q hq h2 => ?_⟩, fun q hq h2 => ?_, .inl r4⟩
        · rw [List.mem_singleton.1 hq] at h2; rcases r5 with r5 | r5
          · exact n1 (r5.symm.trans h2)
          · rw [r5] at h2; cases h2
        · rw [List.mem_singleton.1 hq] at h2; rcases r5 with r5 | r5
          · exact absurd (r5.symm.trans h2) n2
          · rw [r5] at h2; cases h2
      · rw [if_neg e8]
        have one : ∀ (st' : NSt) (q' : Pk), st'.req = st.req → st'.s = st.s → st'.asked = st.asked → st'.theirs = st.theirs → q'.code ≠ 1 → q'.code ≠ 2 → Said c st a (st', [q']) := fun st' q' k1 k2 k3 k4 k5 k6 =>
          ⟨k1, k2, fun h => absurd h h6, fun _ => ⟨k3, fun q hq => by rw [List.mem_singleton.1 hq]; exact k5⟩, fun q hq h2 => by rw [List.mem_singleton.1 hq] at h2; exact absurd h2 k6, .inl k4⟩
        have non : ∀ (st' : NSt), st'.req = st.req → st'.s = st.s → st'.asked = st.asked → st'.theirs = st.theirs → Said c st a (st', []) := fun st' k1 k2 k3 k4 =>
          ⟨k1, k2, fun h => absurd h h6, fun _ => ⟨k3, fun q hq => by cases hq⟩, fun q hq h2 => (by cases hq), .inl k4⟩
        split
        · exact one _ _ rfl rfl rfl rfl (by show (5 : Int) ≠ 1; decide) (by show (5 : Int) ≠ 2; decide)
        · split
          · exact one _ _ rfl rfl rfl rfl (by show (6 : Int) ≠ 1; decide) (by show (6 : Int) ≠ 2; decide)
          · split
            · exact one _ _ rfl rfl rfl rfl (by show (7 : Int) ≠ 1; decide) (by show (7 : Int) ≠ 2; decide)
            · split
              · exact non _ rfl rfl rfl rfl
              · split
                · exact non _ rfl rfl rfl rfl
                · exact non _ rfl rfl rfl rfl
/-- A list of actions. -/
structure SaidL (st : NSt) (l : List Int) (r : NSt × List Pk) : Prop where
  req : r.1.req = st.req
  s : r.1.s = st.s
  six : 6 ∈ l → ∀ x, scan x r.2 = (r.1.asked, st.req)
  no6 : 6 ∉ l → r.1.asked = st.asked ∧ ∀ x, scan x r.2 = x
  ack : ∀ q ∈ r.2, q.code = 2 → 7 ∈ l ∧ q = ⟨2, c.p.id, c.p.o, noB⟩
  th : r.1.theirs = st.theirs ∨ (7 ∈ l ∧ r.1.theirs = c.p.o)
theorem saidL : ∀ (l : List Int) (st : NSt), (8 ∈ l → c.code ≠ 1 ∧ c.code ≠ 2) → SaidL c st l (sayL rej C c st l)
  | [], st, _ => ⟨rfl, rfl, fun h => (by cases h), fun _ => ⟨rfl, fun _ => rfl⟩, fun q hq => (by cases hq), .inl rfl⟩
  | a :: l, st, h8 => by
    have h1 := said rej C c st a (fun e => h8 (by simp [e]))
    have h2 := saidL l (sayS rej C st a c).1 (fun e => h8 (by simp [e]))
    refine ⟨h2.req.trans h1.req, h2.s.trans h1.s, fun h x => ?_, fun h => ?_, fun q hq hc => ?_, ?_⟩
    · show scan x ((sayS rej C st a c).2 ++ _) = _
      rw [scan_app]
      by_cases hl : 6 ∈ l
      · rw [h2.six hl, h1.req]; rfl
      · have h6 : a = 6 := by
          rcases List.mem_cons.1 h with h | h
          · exact h.symm
          · exact absurd h hl
        rw [h1.six h6, (h2.no6 hl).2]
        show (_, st.req) = _
        rw [← (h2.no6 hl).1]; rfl
    · have h6 : a ≠ 6 := fun e => h (by simp [e])
      have hl : 6 ∉ l := fun e => h (by simp [e])
      refine ⟨(h2.no6 hl).1.trans (h1.no6 h6).1, fun x => ?_⟩
      show scan x ((sayS rej C st a c).2 ++ _) = _
      rw [scan_app, scan_no x _ (h1.no6 h6).2]
      exact (h2.no6 hl).2 x
    · rcases List.mem_append.1 hq with hq | hq
      · exact ⟨by simp [(h1.ack q hq hc).1], (h1.ack q hq hc).2⟩
      · exact ⟨by simp [(h2.ack q hq hc).1], (h2.ack q hq hc).2⟩
    · rcases h2.th with h | ⟨h, e⟩
      · rcases h1.th with h' | ⟨h', e⟩
        · exact .inl (h.trans h')
        · exact .inr ⟨by simp [h'], h.trans e⟩
      · exact .inr ⟨by simp [h], e⟩
end

/-! The table. -/
def evs : List Int := [0, 1, 2, 3, 4, 5, 6, 7, 8, 9, 10, 11, 12, 13, 14]
def sts : List Int := [0, 1, 2, 3, 4, 5, 6, 7, 8, 9]
theorem tb7 : ∀ e ∈ evs, ∀ s ∈ sts, e ≠ 6 → 7 ∉ nextL s e := by decide
theorem tb8 : ∀ e ∈ evs, ∀ s ∈ sts, e ≠ 7 → 8 ∉ nextL s e := by decide
theorem tb6 : ∀ e ∈ evs, ∀ s ∈ sts, (6 ≤ nextS s e ∧ nextS s e ≤ 8) → 6 ∈ nextL s e ∨ (6 ≤ s ∧ s ≤ 8) := by decide
theorem tb9 : ∀ s ∈ sts, (6 ≤ nextS s 9 ∧ nextS s 9 ≤ 8) → 6 ∈ nextL s 9 := by decide
theorem tbO : ∀ s ∈ sts, nextS s 8 = 9 → s ≠ 9 → (6 ≤ s ∧ s ≤ 8) := by decide
theorem sts_of {s : Int} (h : 0 ≤ s ∧ s ≤ 9) : s ∈ sts := by simp only [sts, List.mem_cons, List.not_mem_nil, or_false]; omega

theorem toldF (rej : Pk → ByteArray) (C : NegC) (c : Came) (l : List Int) (st : NSt) (h8 : 8 ∈ l → c.code ≠ 1 ∧ c.code ≠ 2) : SaidL c st l (toldS rej C st l c) := by
  have h := saidL rej C c l st h8
  unfold toldS
  split
  · exact ⟨h.req, h.s, h.six, h.no6, h.ack, h.th⟩
  · exact ⟨h.req, h.s, h.six, h.no6, h.ack, h.th⟩

/-- What was asked last is known where an answer is waited for. -/
structure Inv (st : NSt) (x : Int × List Opt) : Prop where
  ss : 0 ≤ st.s ∧ st.s ≤ 9
  li : 6 ≤ st.s ∧ st.s ≤ 8 → x = (st.asked, st.req)
theorem told_inv (rej : Pk → ByteArray) (C : NegC) (c : Came) (s e : Int) (st1 : NSt) (x : Int × List Opt) (hs : 0 ≤ s ∧ s ≤ 9) (h1 : st1.s = nextS s e) (h8 : 8 ∈ nextL s e → c.code ≠ 1 ∧ c.code ≠ 2)
    (hI : 6 ∉ nextL s e → 6 ≤ nextS s e ∧ nextS s e ≤ 8 → x = (st1.asked, st1.req)) : Inv (toldS rej C st1 (nextL s e) c).1 (scan x (toldS rej C st1 (nextL s e) c).2) := by
  have h := toldF rej C c (nextL s e) st1 h8
  refine ⟨by rw [h.s, h1]; exact nextS_bd s e hs, fun hw => ?_⟩
  rw [h.s, h1] at hw
  by_cases h6 : 6 ∈ nextL s e
  · rw [h.six h6, h.req]
  · rw [(h.no6 h6).2, hI h6 hw, (h.no6 h6).1, h.req]
/-- What taking a packet does. -/
structure TakeF (C : NegC) (st : NSt) (p : Pk) (r : NSt × List Pk) : Prop where
  inv : ∀ x, Inv st x → Inv r.1 (scan x r.2)
  ack : ∀ q ∈ r.2, q.code = 2 → p.code = 1 ∧ (judgeS C.peer p.o).1 = 2 ∧ q = ⟨2, p.id, p.o, noB⟩
  th : r.1.theirs = st.theirs ∨ ((judgeS C.peer p.o).1 = 2 ∧ r.1.theirs = p.o)
  opn : p.code = 2 → st.s ≠ 9 → r.1.s = 9 → p.id = st.asked ∧ p.o = st.req ∧ 6 ≤ st.s ∧ st.s ≤ 8
theorem TakeF.none (C : NegC) (st : NSt) (p : Pk) : TakeF C st p (st, []) := ⟨fun _ h => h, fun _ h => (by cases h), .inl rfl, fun _ h1 h2 => absurd h2 h1⟩
theorem TakeF.ev (rej : Pk → ByteArray) (C : NegC) (st st1 : NSt) (p : Pk) (e : Int) (c : Came) (he : e ∈ evs) (hss : 0 ≤ st.s ∧ st.s ≤ 9) (e1 : st1.s = st.s) (e2 : st1.theirs = st.theirs) (e3 : st1.asked = st.asked) (hreq : st1.req = st.req ∨ e = 9) (hc : c.p = p)
    (h6 : e = 6 → p.code = 1 ∧ (judgeS C.peer p.o).1 = 2) (h7 : e = 7 → c.code ≠ 1 ∧ c.code ≠ 2) (h8 : p.code = 2 → e = 8 ∧ p.id = st.asked ∧ p.o = st.req) : TakeF C st p (evS rej C st1 e c) := by
  have hst := sts_of hss
  have n8 : 8 ∈ nextL st.s e → c.code ≠ 1 ∧ c.code ≠ 2 := fun h => by
    by_cases e7 : e = 7
    · exact h7 e7
    · exact absurd h (tb8 e he _ hst e7)
  have H : evS rej C st1 e c = toldS rej C { st1 with s := nextS st.s e, c := doC C.cf C.tm (nextL st.s e) (nextL st.s e) st1.c } (nextL st.s e) c := by unfold evS; rw [e1]
  have F := toldF rej C c (nextL st.s e) { st1 with s := nextS st.s e, c := doC C.cf C.tm (nextL st.s e) (nextL st.s e) st1.c } n8
  rw [H]
  have k7 : 7 ∈ nextL st.s e → e = 6 := fun h => Decidable.byContradiction fun h' => tb7 e he _ hst h' h
  refine ⟨fun x hx => told_inv rej C c st.s e _ x hss rfl n8 (fun no6 hw => ?_), fun q hq h2 => ?_, ?_, fun p2 o1 o2 => ?_⟩
  · rcases tb6 e he _ hst hw with h | h
    · exact absurd h no6
    · rcases hreq with hr | h9
      · show x = (st1.asked, st1.req)
        rw [hx.li h, e3, hr]
      · subst h9; exact absurd (tb9 _ hst hw) no6
  · obtain ⟨k, hq2⟩ := F.ack q hq h2
    exact ⟨(h6 (k7 k)).1, (h6 (k7 k)).2, by rw [hq2, hc]⟩
  · rcases F.th with h | ⟨k, h⟩
    · exact .inl (h.trans e2)
    · exact .inr ⟨(h6 (k7 k)).2, by rw [h, hc]⟩
  · obtain ⟨e8, i1, i2⟩ := h8 p2
    subst e8
    exact ⟨i1, i2, tbO _ hst (F.s.symm.trans o2) o1⟩
theorem judge_code (rs : List Rl) (l : List Opt) : (judgeS rs l).1 = 2 ∨ (judgeS rs l).1 = 3 ∨ (judgeS rs l).1 = 4 := by
  unfold judgeS answerS
  split
  · exact .inr (.inr rfl)
  · split
    · exact .inr (.inl rfl)
    · exact .inl rfl
theorem takeF (C : NegC) (st : NSt) (p : Pk) (hss : 0 ≤ st.s ∧ st.s ≤ 9) : TakeF C st p (takeS C st p) := by
  unfold takeS
  have m : ∀ n ∈ evs, n ∈ evs := fun _ h => h
  by_cases h1 : p.code = 1
  · rw [if_pos h1]
    unfold reqS
    have n2 : p.code ≠ 2 := by omega
    by_cases hJ : (judgeS C.peer p.o).1 = 2
    · rw [if_pos hJ]
      exact .ev _ C st { st with naks := 0 } p 6 _ (by decide) hss rfl rfl rfl (.inl rfl) rfl (fun _ => ⟨h1, hJ⟩) (fun h => by cases h) (fun h => absurd h n2)
    · rw [if_neg hJ]
      have := judge_code C.peer p.o
      exact .ev _ C st st p 7 _ (by decide) hss rfl rfl rfl (.inl rfl) rfl (fun h => by cases h) (fun _ => ⟨by show (judgeS C.peer p.o).1 ≠ 1; omega, hJ⟩) (fun h => absurd h n2)
  · rw [if_neg h1]
    by_cases h2 : p.code = 2
    · rw [if_pos h2]
      unfold ackS
      split
      · rename_i i1
        split
        · rename_i i2
          exact .ev _ C st { st with mine := st.req } p 8 _ (by decide) hss rfl rfl rfl (.inl rfl) rfl (fun h => by cases h) (fun h => by cases h) (fun _ => ⟨rfl, i1, i2⟩)
        · exact .none C st p
      · exact .none C st p
    · rw [if_neg h2]
      split
      · split
        · split
          · exact .ev _ C st { st with req := p.o.foldl (nameOne C) st.req } p 9 _ (by decide) hss rfl rfl rfl (.inr rfl) rfl (fun h => by cases h) (fun h => by cases h) (fun h => absurd h h2)
          · unfold refusedS
            split
            · split
              · exact .ev _ C st st p 14 _ (by decide) hss rfl rfl rfl (.inl rfl) rfl (fun h => by cases h) (fun h => by cases h) (fun h => absurd h h2)
              · exact .ev _ C st { st with req := st.req.filter fun o => !(p.o.any (eqB o)) } p 9 _ (by decide) hss rfl rfl rfl (.inr rfl) rfl (fun h => by cases h) (fun h => by cases h) (fun h => absurd h h2)
            · exact .none C st p
        · exact .none C st p
      · split
        · exact .ev _ C st st p 10 _ (by decide) hss rfl rfl rfl (.inl rfl) rfl (fun h => by cases h) (fun h => by cases h) (fun h => absurd h h2)
        · split
          · exact .ev _ C st st p 11 _ (by decide) hss rfl rfl rfl (.inl rfl) rfl (fun h => by cases h) (fun h => by cases h) (fun h => absurd h h2)
          · split
            · unfold code7S
              split
              · exact .none C st p
              · split
                · exact .ev _ C st st p 14 _ (by decide) hss rfl rfl rfl (.inl rfl) rfl (fun h => by cases h) (fun h => by cases h) (fun h => absurd h h2)
                · exact .ev _ C st st p 13 _ (by decide) hss rfl rfl rfl (.inl rfl) rfl (fun h => by cases h) (fun h => by cases h) (fun h => absurd h h2)
            · exact .ev _ C st st p 12 _ (by decide) hss rfl rfl rfl (.inl rfl) rfl (fun h => by cases h) (fun h => by cases h) (fun h => absurd h h2)
/-- A tick. -/
theorem tickF (rej : Pk → ByteArray) (C : NegC) (st : NSt) (hss : 0 ≤ st.s ∧ st.s ≤ 9) : (∀ x, Inv st x → Inv (tickS rej C st).1 (scan x (tickS rej C st).2)) ∧ (tickS rej C st).1.theirs = st.theirs := by
  have hst := sts_of hss
  unfold tickS
  by_cases hw : waitsB st.s = true
  · rw [if_pos hw]
    split
    · exact ⟨fun x hx => ⟨hx.ss, hx.li⟩, rfl⟩
    · obtain ⟨e, he, h1, h2⟩ : ∃ e : Int, (e = 4 ∨ e = 5) ∧ tmoS st.s st.c = nextS st.s e ∧ tmoL st.s st.c = nextL st.s e := by
        by_cases hc : 0 < st.c
        · have ht : tmoE st.s st.c = some 4 := by unfold tmoE; rw [if_pos hw, if_pos hc]
          exact ⟨4, .inl rfl, by unfold tmoS; rw [ht], by unfold tmoL; rw [ht]⟩
        · have ht : tmoE st.s st.c = some 5 := by unfold tmoE; rw [if_pos hw, if_neg hc]
          exact ⟨5, .inr rfl, by unfold tmoS; rw [ht], by unfold tmoL; rw [ht]⟩
      have hev : e ∈ evs := by rcases he with rfl | rfl <;> decide
      have n6 : e ≠ 6 := by omega
      have n7 : e ≠ 7 := by omega
      rw [h1, h2]
      have n8 : 8 ∈ nextL st.s e → noCame.code ≠ 1 ∧ noCame.code ≠ 2 := fun h => absurd h (tb8 e hev _ hst n7)
      refine ⟨fun x hx => told_inv rej C noCame st.s e _ x hss rfl n8 (fun no6 hw2 => ?_), ?_⟩
      · rcases tb6 e hev _ hst hw2 with h | h
        · exact absurd h no6
        · exact hx.li h
      · rcases (toldF rej C noCame (nextL st.s e) { st with ticks := 0, s := nextS st.s e, c := doC C.cf C.tm (nextL st.s e) (nextL st.s e) st.c } n8).th with h | ⟨h, _⟩
        · exact h
        · exact absurd h (tb7 e hev _ hst n6)
  · rw [if_neg hw]
    exact ⟨fun x hx => hx, rfl⟩
end Go.Proofs.Ytijepfjfmpmfnaa
