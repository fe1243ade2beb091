import Derived.Test.YtijepfjfmpmfnaaV66
/- Two negotiations with the laws' rule that hear each other: what is said (plain Lean). -/
namespace Go.Proofs.Ytijepfjfmpmfnaa
open Go.RowKit Go.Tg Go.Maps

theorem judge_fit (v : ByteArray) (h : fitsR rule1 v = true) : judgeS [rule1] [⟨1, v⟩] = (2, [⟨1, v⟩]) := by
  have e : nakP (fun o => fitsR (ruleOf [rule1] o.t) o.v) (fun k => (ruleOf [rule1] k).s) [⟨1, v⟩] = [] := by
    unfold nakP
    rw [List.filter_cons_of_neg (by show ¬ (!fitsR rule1 v) = true; rw [h]; decide)]; rfl
  unfold judgeS answerS
  rw [e]; rfl
theorem judge_nofit (v : ByteArray) (h : fitsR rule1 v = false) : judgeS [rule1] [⟨1, v⟩] = (3, [⟨1, rule1.s⟩]) := by
  have e : nakP (fun o => fitsR (ruleOf [rule1] o.t) o.v) (fun k => (ruleOf [rule1] k).s) [⟨1, v⟩] = [⟨1, rule1.s⟩] := by
    unfold nakP
    rw [show ([⟨1, v⟩] : List Opt).filter (fun o => !fitsR (ruleOf [rule1] o.t) o.v) = [⟨1, v⟩] from by
      rw [List.filter_cons_of_pos (by show (!fitsR rule1 v) = true; rw [h]; rfl)]; rfl]
    rfl
  unfold judgeS answerS
  rw [e]; rfl

theorem ack_ok (rej : Pk → ByteArray) (C : NegC) (st : NSt) (p : Pk) (h1 : p.id = st.asked) (h2 : p.o = st.req) : ackS rej C st p = evS rej C { st with mine := st.req } 8 ⟨true, p, 0, []⟩ := by
  unfold ackS; rw [if_pos h1, if_pos h2]
theorem refuse_ok (C : NegC) (st : NSt) (c : Came) (h1 : c.code = 3) (h2 : 0 < C.fl → st.naks < C.fl) : refuseS C st c = ({ st with naks := wrap64 (st.naks + 1) }, ⟨c.code, c.p.id, c.ans, noB⟩) := by
  unfold refuseS; rw [if_neg (by simp [h1]), if_neg (fun h => by have := h2 h.1; omega)]
def nst (s c i : Int) (n : Int) (a m t : List Opt) (u : Int) : NSt := ⟨s, c, i, i, n, 0, a, m, t, u, 0⟩
section
variable (jb : Nat) (f i j n : Int) (a v : ByteArray)
theorem tk1 (h : fitsR rule1 v = true) : takeS (CS jb 5 f 2) (nst 6 4 i n [⟨1, a⟩] [] [] 0) ⟨1, j, [⟨1, v⟩], noB⟩ = (nst 8 4 i 0 [⟨1, a⟩] [] [⟨1, v⟩] 0, [⟨2, j, [⟨1, v⟩], noB⟩]) := by
  show reqS rejS (CS jb 5 f 2) _ _ (judgeS [rule1] [⟨1, v⟩]) = _
  rw [judge_fit v h]; kernel_rfl
theorem tk2 (h : fitsR rule1 v = false) (hf : 2 ≤ f) : takeS (CS jb 5 f 2) (nst 6 4 i 0 [⟨1, a⟩] [] [] 0) ⟨1, j, [⟨1, v⟩], noB⟩ = (nst 6 4 i 1 [⟨1, a⟩] [] [] 0, [⟨3, j, [⟨1, rule1.s⟩], noB⟩]) := by
  show reqS rejS (CS jb 5 f 2) _ _ (judgeS [rule1] [⟨1, v⟩]) = _
  rw [judge_nofit v h]
  have hr := refuse_ok (CS jb 5 f 2) (nst 6 4 i 0 [⟨1, a⟩] [] [] 0) ⟨true, ⟨1, j, [⟨1, v⟩], noB⟩, 3, [⟨1, rule1.s⟩]⟩ rfl (fun _ => by show 0 < f; omega)
  have key : sayL rejS (CS jb 5 f 2) ⟨true, ⟨1, j, [⟨1, v⟩], noB⟩, 3, [⟨1, rule1.s⟩]⟩ (nst 6 4 i 0 [⟨1, a⟩] [] [] 0) [8] = ((refuseS (CS jb 5 f 2) (nst 6 4 i 0 [⟨1, a⟩] [] [] 0) ⟨true, ⟨1, j, [⟨1, v⟩], noB⟩, 3, [⟨1, rule1.s⟩]⟩).1, [(refuseS (CS jb 5 f 2) (nst 6 4 i 0 [⟨1, a⟩] [] [] 0) ⟨true, ⟨1, j, [⟨1, v⟩], noB⟩, 3, [⟨1, rule1.s⟩]⟩).2]) := by kernel_rfl
  rw [hr] at key
  have h2 : reqS rejS (CS jb 5 f 2) (nst 6 4 i 0 [⟨1, a⟩] [] [] 0) ⟨1, j, [⟨1, v⟩], noB⟩ (3, [⟨1, rule1.s⟩]) = toldS rejS (CS jb 5 f 2) (nst 6 4 i 0 [⟨1, a⟩] [] [] 0) [8] ⟨true, ⟨1, j, [⟨1, v⟩], noB⟩, 3, [⟨1, rule1.s⟩]⟩ := by kernel_rfl
  refine h2.trans ((congrArg (fun r : NSt × List Pk => ((if waitsB r.1.s then r.1 else { r.1 with ticks := 0 }), r.2)) key).trans ?_)
  kernel_rfl
theorem tk3 (h : fitsR rule1 v = true) : takeS (CS jb 5 f 2) (nst 7 5 i n [⟨1, a⟩] [⟨1, a⟩] [] 0) ⟨1, j, [⟨1, v⟩], noB⟩ = (nst 9 5 i 0 [⟨1, a⟩] [⟨1, a⟩] [⟨1, v⟩] 1, [⟨2, j, [⟨1, v⟩], noB⟩]) := by
  show reqS rejS (CS jb 5 f 2) _ _ (judgeS [rule1] [⟨1, v⟩]) = _
  rw [judge_fit v h]; kernel_rfl
theorem tk4 : takeS (CS jb 5 f 2) (nst 6 4 i n [⟨1, a⟩] [] [] 0) ⟨2, i, [⟨1, a⟩], noB⟩ = (nst 7 5 i n [⟨1, a⟩] [⟨1, a⟩] [] 0, []) := by
  show ackS rejS (CS jb 5 f 2) _ _ = _
  rw [ack_ok _ _ _ _ rfl rfl]; kernel_rfl
theorem tk5 (t : List Opt) : takeS (CS jb 5 f 2) (nst 8 4 i n [⟨1, a⟩] [] t 0) ⟨2, i, [⟨1, a⟩], noB⟩ = (nst 9 5 i n [⟨1, a⟩] [⟨1, a⟩] t 1, []) := by
  show ackS rejS (CS jb 5 f 2) _ _ = _
  rw [ack_ok _ _ _ _ rfl rfl]; kernel_rfl
theorem tk6 (t : List Opt) : takeS (CS jb 5 f 2) (nst 6 4 1 n [⟨1, a⟩] [] t 0) ⟨3, 1, [⟨1, rule1.s⟩], noB⟩ = (nst 6 4 2 n [⟨1, rule1.s⟩] [] t 0, [⟨1, 2, [⟨1, rule1.s⟩], noB⟩]) := by kernel_rfl
theorem tk7 (t : List Opt) : takeS (CS jb 5 f 2) (nst 8 4 1 n [⟨1, a⟩] [] t 0) ⟨3, 1, [⟨1, rule1.s⟩], noB⟩ = (nst 8 4 2 n [⟨1, rule1.s⟩] [] t 0, [⟨1, 2, [⟨1, rule1.s⟩], noB⟩]) := by kernel_rfl
end

theorem sims_shift (C C' : NegC) (s : Sim) : ∀ n, sims C C' s (n + 1) = sims C C' (xch C C' s) n
  | 0 => rfl
  | n + 1 => congrArg (xch C C') (sims_shift C C' s n)
/-- What comes of it, behind so many rounds. -/
def Fin (C C' : NegC) (s : Sim) (n : Nat) (e : Sim) : Prop := (∀ i, (sims C C' s i).Ok) ∧ ∀ i, n ≤ i → sims C C' s i = e
theorem Fin.stop {C C' : NegC} (x y : NSt) : Fin C C' ⟨x, y, [], []⟩ 0 ⟨x, y, [], []⟩ := by
  have h : ∀ i, sims C C' ⟨x, y, [], []⟩ i = ⟨x, y, [], []⟩ := fun i => by
    induction i with
    | zero => rfl
    | succ n ih => show xch C C' (sims C C' ⟨x, y, [], []⟩ n) = _; rw [ih]; rfl
  exact ⟨fun i => by rw [h i]; exact ⟨Nat.zero_le _, Nat.zero_le _, fun _ h => (by cases h), fun _ h => (by cases h)⟩, fun i _ => h i⟩
theorem Fin.go {C C' : NegC} {s s' e : Sim} {n : Nat} (h : s.Ok) (hx : xch C C' s = s') (hf : Fin C C' s' n e) : Fin C C' s (n + 1) e := by
  subst hx
  refine ⟨fun i => ?_, fun i hi => ?_⟩
  · cases i with
    | zero => exact h
    | succ i => rw [sims_shift]; exact hf.1 i
  · cases i with
    | zero => omega
    | succ i => rw [sims_shift]; exact hf.2 i (by omega)
section
variable {C C' : NegC} {x y x' y' : NSt} {p q : Pk} {u v : List Pk}
theorem xch2 (h1 : takeS C x q = (x', u)) (h2 : takeS C' y p = (y', v)) : xch C C' ⟨x, y, [p], [q]⟩ = ⟨x', y', u, v⟩ := by
  unfold xch; simp only [takeAll, h1, h2, List.append_nil]
theorem xchq (h1 : takeS C x q = (x', u)) : xch C C' ⟨x, y, [], [q]⟩ = ⟨x', y, u, []⟩ := by
  unfold xch; simp only [takeAll, h1, List.append_nil]
theorem xchp (h2 : takeS C' y p = (y', v)) : xch C C' ⟨x, y, [p], []⟩ = ⟨x, y', [], v⟩ := by
  unfold xch; simp only [takeAll, h2, List.append_nil]
end
theorem pkOk1 (c i : Int) (v : ByteArray) (hv : v.size ≤ 2) : PkOk ⟨c, i, [⟨1, v⟩], noB⟩ :=
  ⟨by show 1 ≤ 1000000; decide, fun o ho => by rcases List.mem_singleton.1 ho with rfl; show I64 1; unfold I64; decide, fun o ho => by rcases List.mem_singleton.1 ho with rfl; exact Nat.le_trans hv (by decide), by show noB.size ≤ 100000000; decide⟩
theorem simOk2 (x y : NSt) {p q : Pk} (hp : PkOk p) (hq : PkOk q) : Sim.Ok ⟨x, y, [p], [q]⟩ :=
  ⟨by show 1 ≤ 100; decide, by show 1 ≤ 100; decide, fun r h => by rw [List.mem_singleton.1 h]; exact hp, fun r h => by rw [List.mem_singleton.1 h]; exact hq⟩
theorem simOkp (x y : NSt) {p : Pk} (hp : PkOk p) : Sim.Ok ⟨x, y, [p], []⟩ :=
  ⟨by show 1 ≤ 100; decide, by show 0 ≤ 100; decide, fun r h => by rw [List.mem_singleton.1 h]; exact hp, fun r h => by cases h⟩
theorem simOkq (x y : NSt) {q : Pk} (hq : PkOk q) : Sim.Ok ⟨x, y, [], [q]⟩ :=
  ⟨by show 0 ≤ 100; decide, by show 1 ≤ 100; decide, fun r h => (by cases h), fun r h => by rw [List.mem_singleton.1 h]; exact hq⟩

def sim0 (a b : ByteArray) : Sim := ⟨nst 6 4 1 0 [⟨1, a⟩] [] [] 0, nst 6 4 1 0 [⟨1, b⟩] [] [] 0, [⟨1, 1, [⟨1, a⟩], noB⟩], [⟨1, 1, [⟨1, b⟩], noB⟩]⟩
/-- Both are open; what is asked is granted. -/
def Met (e : Sim) : Prop := ∃ va vb : ByteArray, va.size = 2 ∧ vb.size = 2 ∧ fitsR rule1 va = true ∧ fitsR rule1 vb = true ∧ e.x.s = 9 ∧ e.y.s = 9 ∧ e.x.mine = [⟨1, va⟩] ∧ e.y.theirs = [⟨1, va⟩] ∧ e.y.mine = [⟨1, vb⟩] ∧ e.x.theirs = [⟨1, vb⟩]
theorem sims_meet (jb jb' : Nat) (f : Int) (a b : ByteArray) (hf : 2 ≤ f) (ha : a.size = 2) (hb : b.size = 2) :
    (∀ i, (sims (CS jb 5 f 2) (CS jb' 5 f 2) (sim0 a b) i).Ok) ∧ Met (sims (CS jb 5 f 2) (CS jb' 5 f 2) (sim0 a b) 10) := by
  have hg : rule1.s.size = 2 := rfl
  have hgf : fitsR rule1 rule1.s = true := by kernel_rfl
  have o1 := fun c i => pkOk1 c i a (by omega)
  have o2 := fun c i => pkOk1 c i b (by omega)
  have o3 := fun c i => pkOk1 c i rule1.s (by omega)
  have fin : ∀ {n e}, Fin (CS jb 5 f 2) (CS jb' 5 f 2) (sim0 a b) n e → n ≤ 10 → Met e → (∀ i, (sims (CS jb 5 f 2) (CS jb' 5 f 2) (sim0 a b) i).Ok) ∧ Met (sims (CS jb 5 f 2) (CS jb' 5 f 2) (sim0 a b) 10) := fun h hn hm => And.intro h.1 (by rw [h.2 10 hn]; exact hm)
  cases fa : fitsR rule1 a with
  | true =>
    cases fb : fitsR rule1 b with
    | true =>
      exact fin (.go (simOk2 _ _ (o1 _ _) (o2 _ _)) (xch2 (tk1 _ _ _ _ _ _ _ fb) (tk1 _ _ _ _ _ _ _ fa)) <| .go (simOk2 _ _ (o2 _ _) (o1 _ _)) (xch2 (tk5 _ _ _ _ _ _) (tk5 _ _ _ _ _ _)) <| .stop _ _) (by decide) ⟨a, b, ha, hb, fa, fb, rfl, rfl, rfl, rfl, rfl, rfl⟩
    | false =>
      exact fin (.go (simOk2 _ _ (o1 _ _) (o2 _ _)) (xch2 (tk2 _ _ _ _ _ _ fb hf) (tk1 _ _ _ _ _ _ _ fa)) <| .go (simOk2 _ _ (o3 _ _) (o1 _ _)) (xch2 (tk4 _ _ _ _ _) (tk7 _ _ _ _ _)) <|
        .go (simOkq _ _ (o3 _ _)) (xchq (tk3 _ _ _ _ _ _ _ hgf)) <| .go (simOkp _ _ (o3 _ _)) (xchp (tk5 _ _ _ _ _ _)) <| .stop _ _) (by decide) ⟨a, rule1.s, ha, hg, fa, hgf, rfl, rfl, rfl, rfl, rfl, rfl⟩
  | false =>
    cases fb : fitsR rule1 b with
    | true =>
      exact fin (.go (simOk2 _ _ (o1 _ _) (o2 _ _)) (xch2 (tk1 _ _ _ _ _ _ _ fb) (tk2 _ _ _ _ _ _ fa hf)) <| .go (simOk2 _ _ (o2 _ _) (o3 _ _)) (xch2 (tk7 _ _ _ _ _) (tk4 _ _ _ _ _)) <|
        .go (simOkp _ _ (o3 _ _)) (xchp (tk3 _ _ _ _ _ _ _ hgf)) <| .go (simOkq _ _ (o3 _ _)) (xchq (tk5 _ _ _ _ _ _)) <| .stop _ _) (by decide) ⟨rule1.s, b, hg, hb, hgf, fb, rfl, rfl, rfl, rfl, rfl, rfl⟩
    | false =>
      exact fin (.go (simOk2 _ _ (o1 _ _) (o2 _ _)) (xch2 (tk2 _ _ _ _ _ _ fb hf) (tk2 _ _ _ _ _ _ fa hf)) <| .go (simOk2 _ _ (o3 _ _) (o3 _ _)) (xch2 (tk6 _ _ _ _ _) (tk6 _ _ _ _ _)) <|
        .go (simOk2 _ _ (o3 _ _) (o3 _ _)) (xch2 (tk1 _ _ _ _ _ _ _ hgf) (tk1 _ _ _ _ _ _ _ hgf)) <| .go (simOk2 _ _ (o3 _ _) (o3 _ _)) (xch2 (tk5 _ _ _ _ _ _) (tk5 _ _ _ _ _ _)) <| .stop _ _) (by decide) ⟨rule1.s, rule1.s, hg, hg, hgf, hgf, rfl, rfl, rfl, rfl, rfl, rfl⟩
end Go.Proofs.Ytijepfjfmpmfnaa
