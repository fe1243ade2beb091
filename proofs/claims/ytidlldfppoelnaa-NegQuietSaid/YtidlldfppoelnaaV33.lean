import Derived.Test.YtidlldfppoelnaaV32
namespace Go.Proofs.Ytidlldfppoelnaa
open Go.RowKit Go.Tg Go.Maps

theorem newS (w : World) (base b0 b1 b2 : Nat) (ask : ByteArray) (cf f wt : Int) (h : SetAt w base b0 b1 b2 ask) (hcf : 1 ≤ cf ∧ cf ≤ 20) (hf : 0 ≤ f ∧ f ≤ 20) (hw : 1 ≤ wt ∧ wt ≤ 100) (ha : ask.size ≤ 100000) (hput : putE [⟨1, ask⟩] = 0) :
    Calls Try.prog 11 #[.agg (setV b0 b1 b2 cf 2 f wt)] w fun e w' => ∃ v, e = .returned v ∧ NewAt w w' v [⟨1, ask⟩] [rule1] [rule1] [] cf 2 f wt :=
  new_at [⟨1, ask⟩] [rule1] [rule1] [] _ _ _ _ (fun b => base ≤ b) cf 2 f wt w (h.1.opts (show 1 ≤ maxLen by decide)) (h.2.1.rls (by decide)) (h.2.2.rls (by decide)) (Rec.nil _ _ _) (fun n c h => by cases h) (fun n c h => by cases h) (by decide) (by decide) (by decide)
    (inB20_true.2 hcf) (by decide) hf.1 hf.2 hw.1 hw.2 (fun o ho => by simp only [List.mem_singleton] at ho; subst ho; exact ha) hput rfl (by decide) (by kernel_rfl)

/-- What the laws' negotiation was made with. -/
def CS (jb : Nat) (cf f wt : Int) : NegC := ⟨[rule1], [rule1], [], cf, 2, f, wt, ownJ jb⟩
def sQ (c ticks id asked : Int) (ask : List Opt) : NSt := ⟨6, c, id, asked, 0, ticks, ask, [], [], 0, 0⟩
theorem eQ1 (jb : Nat) (cf f wt : Int) (ask : List Opt) : evS noR (CS jb cf f wt) (st0 ask) 2 noCame = (⟨1, 0, 0, 0, 0, 0, ask, [], [], 0, 0⟩, []) := rfl
theorem eQ2 (jb : Nat) (cf f wt : Int) (ask : List Opt) (h : 1 ≤ cf) : evS noR (CS jb cf f wt) ⟨1, 0, 0, 0, 0, 0, ask, [], [], 0, 0⟩ 0 noCame = (sQ (cf - 1) 0 1 1 ask, [⟨1, 1, ask, noB⟩]) := by
  have h1 : nextL 1 0 = [4, 6] := by decide
  have h2 : nextS 1 0 = 6 := by decide
  have hd : doC cf 2 [4, 6] [4, 6] 0 = cf - 1 := by
    simp only [doC, List.foldl_cons, List.foldl_nil, doStep]
    have h9 : hasB [4, 6] 9 = false := by decide
    rw [h9]
    simp
    omega
  unfold evS
  show toldS noR (CS jb cf f wt) ⟨nextS 1 0, doC cf 2 (nextL 1 0) (nextL 1 0) 0, 0, 0, 0, 0, ask, [], [], 0, 0⟩ (nextL 1 0) noCame = _
  rw [h1, h2, hd]
  rfl
theorem tQ1 (jb : Nat) (cf f wt c ticks id asked : Int) (ask : List Opt) (h0 : 0 ≤ ticks ∧ ticks ≤ 100) (h : ticks + 1 < wt) : tickS noR (CS jb cf f wt) (sQ c ticks id asked ask) = (sQ c (ticks + 1) id asked ask, []) := by
  have hw : wrap64 (ticks + 1) = ticks + 1 := by unfold wrap64; omega
  show (if wrap64 (ticks + 1) < wt then _ else _) = _
  rw [hw, if_pos h]
  show ((⟨6, c, id, asked, 0, wrap64 (ticks + 1), ask, [], [], 0, 0⟩ : NSt), []) = _
  rw [hw]; rfl
theorem tQ2 (jb : Nat) (cf f wt c ticks id asked : Int) (ask : List Opt) (h0 : 0 ≤ ticks ∧ ticks ≤ 100) (h : ¬ ticks + 1 < wt) (hc : 0 < c) : tickS noR (CS jb cf f wt) (sQ c ticks id asked ask) = (sQ (c - 1) 0 (nid id) (nid id) ask, [⟨1, nid id, ask, noB⟩]) := by
  have hw : wrap64 (ticks + 1) = ticks + 1 := by unfold wrap64; omega
  have e1 : tmoE 6 c = some 4 := by show (if 0 < c then some (4 : Int) else some 5) = some 4; rw [if_pos hc]
  have e2 : tmoL 6 c = [6] := by unfold tmoL; rw [e1]; decide
  have e3 : tmoS 6 c = 6 := by unfold tmoS; rw [e1]; decide
  have hd : doC cf 2 [6] [6] c = c - 1 := by
    simp only [doC, List.foldl_cons, List.foldl_nil, doStep]
    simp
    omega
  show (if wrap64 (ticks + 1) < wt then _ else toldS noR (CS jb cf f wt) ⟨tmoS 6 c, doC cf 2 (tmoL 6 c) (tmoL 6 c) c, id, asked, 0, 0, ask, [], [], 0, 0⟩ (tmoL 6 c) noCame) = _
  rw [hw, if_neg h, e2, e3, hd]
  rfl
theorem tQ3 (jb : Nat) (cf f wt c ticks id asked : Int) (ask : List Opt) (h0 : 0 ≤ ticks ∧ ticks ≤ 100) (h : ¬ ticks + 1 < wt) (hc : ¬ 0 < c) : ∃ c', tickS noR (CS jb cf f wt) (sQ c ticks id asked ask) = (⟨3, c', id, asked, 0, 0, ask, [], [], 0, 0⟩, []) := by
  have hw : wrap64 (ticks + 1) = ticks + 1 := by unfold wrap64; omega
  have e1 : tmoE 6 c = some 5 := by show (if 0 < c then some (4 : Int) else some 5) = some 5; rw [if_neg hc]
  have e2 : tmoL 6 c = [3] := by unfold tmoL; rw [e1]; decide
  have e3 : tmoS 6 c = 3 := by unfold tmoS; rw [e1]; decide
  refine ⟨doC cf 2 [3] [3] c, ?_⟩
  show (if wrap64 (ticks + 1) < wt then _ else toldS noR (CS jb cf f wt) ⟨tmoS 6 c, doC cf 2 (tmoL 6 c) (tmoL 6 c) c, id, asked, 0, 0, ask, [], [], 0, 0⟩ (tmoL 6 c) noCame) = _
  rw [hw, if_neg h, e2, e3]
  rfl
theorem tQ4 (jb : Nat) (cf f wt : Int) (st : NSt) (h : st.s = 3) : tickS noR (CS jb cf f wt) st = (st, []) := by
  unfold tickS
  rw [h]
  rfl

/-- After k ticks, with so many requests. -/
def QS (c d : Nat) (st : NSt) (k asked : Nat) : Prop :=
  (∃ q r : Nat, ∃ id ak : Int, k = q * d + r ∧ r < d ∧ q < c ∧ asked = q + 1 ∧ st = sQ (c - 1 - q) r id ak asks) ∨ (k = c * d ∧ asked = c ∧ st.s = 3)

theorem QS.step {c d k asked jb : Nat} {f : Int} {st : NSt} (h : QS c d st k asked) (hd : 1 ≤ d ∧ d ≤ 20) (hk : k < c * d) : st.s = 6 ∧ ∃ n, (tickS noR (CS jb c f d) st).2.length = n ∧ QS c d (tickS noR (CS jb c f d) st).1 (k + 1) (asked + n) := by
  rcases h with ⟨q, r, id, ak, h1, h2, h3, h4, rfl⟩ | ⟨h1, _⟩
  · refine ⟨rfl, ?_⟩
    by_cases hr : r + 1 < d
    · rw [tQ1 jb c f d _ _ _ _ _ (by omega) (by omega)]
      exact ⟨0, rfl, Or.inl ⟨q, r + 1, id, ak, by omega, hr, h3, h4, rfl⟩⟩
    · have hrd : r + 1 = d := by omega
      by_cases hq : q + 1 < c
      · rw [tQ2 jb c f d _ _ _ _ _ (by omega) (by omega) (by omega)]
        refine ⟨1, rfl, Or.inl ⟨q + 1, 0, nid id, nid id, ?_, by omega, hq, by omega, ?_⟩⟩
        · rw [Nat.add_mul]; omega
        · have : ((c : Int) - 1 - (q : Int) - 1) = (c : Int) - 1 - ((q + 1 : Nat) : Int) := by omega
          rw [this]; rfl
      · obtain ⟨c', hc'⟩ := tQ3 jb c f d ((c : Int) - 1 - q) r id ak asks (by omega) (by omega) (by omega)
        rw [hc']
        refine ⟨0, rfl, Or.inr ⟨?_, by omega, rfl⟩⟩
        have : q + 1 = c := by omega
        rw [← this, Nat.add_mul]; omega
  · omega
end Go.Proofs.Ytidlldfppoelnaa
