import Derived.Test.YtijepfjfmpmfnaaV67
import Derived.Test.YtijepfjfmpmfnaaV56
/- A client and a server (ipcp) that hear each other: what is said (plain Lean). -/
namespace Go.Proofs.Ytijepfjfmpmfnaa
open Go.RowKit Go.Tg Go.Maps

theorem valB4 (a b c d : UInt8) : valB [a, b, c, d] = ((((a.toNat : Int) * 256 + b.toNat) * 256 + c.toNat) * 256 + d.toNat) := by
  simp [valB]
theorem u8_lt (a : UInt8) : (a.toNat : Int) < 256 := by have := a.toNat_lt; omega
theorem Ad.pos (x : Ad) (h : x ≠ Ad.z) : 1 ≤ valB [x.a, x.b, x.c, x.d] := by
  rw [valB4]
  refine Int.not_lt.1 (fun h2 => h ?_)
  obtain ⟨a, b, c, d⟩ := x
  simp only at h2
  have ha : a = 0 := UInt8.toNat_inj.1 (by show a.toNat = 0; omega)
  have hb : b = 0 := UInt8.toNat_inj.1 (by show b.toNat = 0; omega)
  have hc : c = 0 := UInt8.toNat_inj.1 (by show c.toNat = 0; omega)
  have hd : d = 0 := UInt8.toNat_inj.1 (by show d.toNat = 0; omega)
  subst ha hb hc hd; rfl
theorem Ad.most (x : Ad) : 0 ≤ valB [x.a, x.b, x.c, x.d] ∧ valB [x.a, x.b, x.c, x.d] ≤ 4294967295 := by
  rw [valB4]
  have := u8_lt x.a; have := u8_lt x.b; have := u8_lt x.c; have := u8_lt x.d
  omega
theorem fitA (r : Rl) (x : Ad) (h : r.len = 4) : fitsR r x.s = (decide (r.min ≤ valB [x.a, x.b, x.c, x.d]) && decide (valB [x.a, x.b, x.c, x.d] ≤ r.max)) := by
  unfold fitsR
  rw [h, show decide ((x.s.size : Int) = 4) = true from rfl, Bool.true_and]
  rfl
theorem fit_self (k : Int) (x : Ad) : fitsR (justR k x) x.s = true := by
  rw [fitA _ _ rfl]; simp [justR]
theorem fit_not (k : Int) (x : Ad) (h : x ≠ Ad.z) : fitsR (justR k x) n4 = false := by
  have h2 := Ad.pos x h
  rw [show n4 = Ad.z.s from rfl, fitA _ _ rfl]
  have h3 : valB [Ad.z.a, Ad.z.b, Ad.z.c, Ad.z.d] = 0 := rfl
  rw [h3, show decide ((justR k x).min ≤ 0) = false from decide_eq_false (by show ¬ valB [x.a, x.b, x.c, x.d] ≤ 0; omega)]; rfl
theorem fit_span0 (k : Int) (s : ByteArray) (x : Ad) : fitsR (spanR k 0 s) x.s = true := by
  have := x.most
  rw [fitA _ _ rfl]
  show (decide (0 ≤ valB [x.a, x.b, x.c, x.d]) && decide (valB [x.a, x.b, x.c, x.d] ≤ 4294967295)) = true
  rw [decide_eq_true this.1, decide_eq_true this.2]; rfl
theorem fit_span1 (k : Int) (s : ByteArray) (x : Ad) (h : x ≠ Ad.z) : fitsR (spanR k 1 s) x.s = true := by
  have h1 := x.most
  have h2 := x.pos h
  rw [fitA _ _ rfl]
  show (decide (1 ≤ valB [x.a, x.b, x.c, x.d]) && decide (valB [x.a, x.b, x.c, x.d] ≤ 4294967295)) = true
  rw [decide_eq_true h2, decide_eq_true h1.2]; rfl

theorem nakP_cons (f : Opt → Bool) (i : Int → ByteArray) (o : Opt) (l : List Opt) : nakP f i (o :: l) = (if f o then [] else [⟨o.t, i o.t⟩]) ++ nakP f i l := by
  unfold nakP
  cases h : f o
  · rw [List.filter_cons_of_pos (by rw [h]; rfl)]; rfl
  · rw [List.filter_cons_of_neg (by rw [h]; decide)]; rfl
theorem jdg_rej (rs : List Rl) (l r : List Opt) (h : rejP (fun k => (findR rs k).isSome) [] l = r) (hr : r ≠ []) : judgeS rs l = (4, r) := by
  unfold judgeS answerS
  rw [h, if_pos (by cases r <;> simp_all)]
theorem jdg_nak (rs : List Rl) (l r : List Opt) (h : rejP (fun k => (findR rs k).isSome) [] l = []) (hn : nakP (fun o => fitsR (ruleOf rs o.t) o.v) (fun k => (ruleOf rs k).s) l = r) (hr : r ≠ []) : judgeS rs l = (3, r) := by
  unfold judgeS answerS
  rw [h, hn, if_neg (by simp), if_pos (by cases r <;> simp_all)]
theorem jdg_ack (rs : List Rl) (l : List Opt) (h : rejP (fun k => (findR rs k).isSome) [] l = []) (hn : nakP (fun o => fitsR (ruleOf rs o.t) o.v) (fun k => (ruleOf rs k).s) l = []) : judgeS rs l = (2, l) := by
  unfold judgeS answerS
  rw [h, hn, if_neg (by simp), if_neg (by simp)]

/-! What one packet does. -/
section
variable (own peer : List Rl) (must : List Int) (J : Value) (i j n : Int) (a v r m t : List Opt)
def CX : NegC := ⟨own, peer, must, 10, 2, 10, 3, J⟩
theorem ik_fit6 (h : judgeS peer v = (2, v)) : takeS (CX own peer must J) (nst 6 9 i n a [] [] 0) ⟨1, j, v, noB⟩ = (nst 8 9 i 0 a [] v 0, [⟨2, j, v, noB⟩]) := by
  show reqS rejS (CX own peer must J) _ _ (judgeS peer v) = _
  rw [h]; kernel_rfl
theorem ik_fit7 (h : judgeS peer v = (2, v)) : takeS (CX own peer must J) (nst 7 10 i n a a [] 0) ⟨1, j, v, noB⟩ = (nst 9 10 i 0 a a v 1, [⟨2, j, v, noB⟩]) := by
  show reqS rejS (CX own peer must J) _ _ (judgeS peer v) = _
  rw [h]; kernel_rfl
theorem ik_rej6 (h : judgeS peer v = (4, r)) : takeS (CX own peer must J) (nst 6 9 i n a [] [] 0) ⟨1, j, v, noB⟩ = (nst 6 9 i n a [] [] 0, [⟨4, j, r, noB⟩]) := by
  show reqS rejS (CX own peer must J) _ _ (judgeS peer v) = _
  rw [h]; kernel_rfl
theorem ik_nak6 (h : judgeS peer v = (3, r)) : takeS (CX own peer must J) (nst 6 9 i 0 a [] [] 0) ⟨1, j, v, noB⟩ = (nst 6 9 i 1 a [] [] 0, [⟨3, j, r, noB⟩]) := by
  show reqS rejS (CX own peer must J) _ _ (judgeS peer v) = _
  rw [h]; kernel_rfl
theorem ik_nak7 (h : judgeS peer v = (3, r)) : takeS (CX own peer must J) (nst 7 10 i 0 a a [] 0) ⟨1, j, v, noB⟩ = (nst 7 10 i 1 a a [] 0, [⟨3, j, r, noB⟩]) := by
  show reqS rejS (CX own peer must J) _ _ (judgeS peer v) = _
  rw [h]; kernel_rfl
theorem ik_ack6 : takeS (CX own peer must J) (nst 6 9 i n a [] [] 0) ⟨2, i, a, noB⟩ = (nst 7 10 i n a a [] 0, []) := by
  show ackS rejS (CX own peer must J) _ _ = _
  rw [ack_ok _ _ _ _ rfl rfl]; kernel_rfl
theorem ik_ack8 : takeS (CX own peer must J) (nst 8 9 i n a [] t 0) ⟨2, i, a, noB⟩ = (nst 9 10 i n a a t 1, []) := by
  show ackS rejS (CX own peer must J) _ _ = _
  rw [ack_ok _ _ _ _ rfl rfl]; kernel_rfl
theorem ik_named8 (h : v.foldl (nameOne (CX own peer must J)) a = r) : takeS (CX own peer must J) (nst 8 9 i n a [] t 0) ⟨3, i, v, noB⟩ = (nst 8 9 (nid i) n r [] t 0, [⟨1, nid i, r, noB⟩]) := by
  have e : takeS (CX own peer must J) (nst 8 9 i n a [] t 0) ⟨3, i, v, noB⟩ = namedS rejS (CX own peer must J) (nst 8 9 i n a [] t 0) ⟨3, i, v, noB⟩ := (if_neg (by show ¬ (3 : Int) = 1; decide)).trans ((if_neg (by show ¬ (3 : Int) = 2; decide)).trans ((if_pos (Or.inl rfl)).trans ((if_pos rfl).trans (if_pos rfl))))
  rw [e]
  refine (congrArg (fun q => evS rejS (CX own peer must J) { nst 8 9 i n a [] t 0 with req := q } 9 ⟨true, ⟨3, i, v, noB⟩, 0, []⟩) h).trans ?_
  kernel_rfl
theorem ik_rejd8 (h1 : wB a v = true) (h2 : v.any (fun o => hasB must o.t) = false) (h3 : (a.filter fun o => !(v.any (eqB o))) = r) : takeS (CX own peer must J) (nst 8 9 i n a [] t 0) ⟨4, i, v, noB⟩ = (nst 8 9 (nid i) n r [] t 0, [⟨1, nid i, r, noB⟩]) := by
  have e : takeS (CX own peer must J) (nst 8 9 i n a [] t 0) ⟨4, i, v, noB⟩ = refusedS rejS (CX own peer must J) (nst 8 9 i n a [] t 0) ⟨4, i, v, noB⟩ := (if_neg (by show ¬ (4 : Int) = 1; decide)).trans ((if_neg (by show ¬ (4 : Int) = 2; decide)).trans ((if_pos (Or.inr rfl)).trans ((if_pos rfl).trans (if_neg (by show ¬ (4 : Int) = 3; decide)))))
  rw [e]
  subst h3
  refine (if_pos h1).trans ((if_neg (by rw [show (⟨4, i, v, noB⟩ : Pk).o.any (fun o => hasB (CX own peer must J).must o.t) = false from h2]; decide)).trans ?_)
  kernel_rfl
end

/-! The exchange. -/
def CSv (p d1 d2 : Ad) (J : Value) : NegC := CX [] (srvR p d1 d2) [] J
def CCl (J : Value) : NegC := CX (cliO 3) [spanR 3 0 n4] [3] J
def simI (own : Ad) (dns : Bool) : Sim := ⟨nst 6 9 1 0 [⟨3, own.s⟩] [] [] 0, nst 6 9 1 0 (cliA dns 3) [] [] 0, [⟨1, 1, [⟨3, own.s⟩], noB⟩], [⟨1, 1, cliA dns 3, noB⟩]⟩
theorem pkOkA (c i : Int) (l : List Opt) (h : ∀ o ∈ l, (o.t = 3 ∨ o.t = 129 ∨ o.t = 131) ∧ o.v.size = 4) (hl : l.length ≤ 3) : PkOk ⟨c, i, l, noB⟩ :=
  ⟨Nat.le_trans hl (by decide), fun o ho => by
    show I64 o.t
    rcases (h o ho).1 with e | e | e <;> (rw [e]; unfold I64; decide), fun o ho => by rw [show o.v.size = 4 from (h o ho).2]; decide, by show noB.size ≤ 100000000; decide⟩
/-- What the client gets at last. -/
def goal (p d1 d2 : Ad) (dns : Bool) : List Opt := [⟨3, p.s⟩] ++ (if dns && !adE d1 Ad.z then [⟨129, d1.s⟩] else []) ++ (if dns && !adE d2 Ad.z then [⟨131, d2.s⟩] else [])
def MetI (own p d1 d2 : Ad) (dns : Bool) (e : Sim) : Prop := e.x.s = 9 ∧ e.y.s = 9 ∧ e.y.mine = goal p d1 d2 dns ∧ e.y.theirs = [⟨3, own.s⟩]
theorem own_fit (own : Ad) : judgeS [spanR 3 0 n4] [⟨3, own.s⟩] = (2, [⟨3, own.s⟩]) := by
  refine jdg_ack _ _ rfl ?_
  rw [nakP_cons, show fitsR (ruleOf [spanR 3 0 n4] 3) own.s = true from fit_span0 3 n4 own]; rfl
/-- Where nothing is rejected. -/
theorem flow1 {J J' : Value} {own p d1 d2 : Ad} {a b : List Opt} (hA : PkOk ⟨1, 1, a, noB⟩) (hN : PkOk ⟨3, 1, b, noB⟩) (hB : PkOk ⟨1, 2, b, noB⟩) (hC : PkOk ⟨2, 2, b, noB⟩) (j1 : judgeS (srvR p d1 d2) a = (3, b)) (j2 : judgeS (srvR p d1 d2) b = (2, b)) (nm : b.foldl (nameOne (CCl J')) a = b) :
    ∃ x, Fin (CSv p d1 d2 J) (CCl J') ⟨nst 6 9 1 0 [⟨3, own.s⟩] [] [] 0, nst 6 9 1 0 a [] [] 0, [⟨1, 1, [⟨3, own.s⟩], noB⟩], [⟨1, 1, a, noB⟩]⟩ 4 ⟨x, nst 9 10 2 0 b b [⟨3, own.s⟩] 1, [], []⟩ ∧ x.s = 9 := by
  have o1 := fun c i => pkOkA c i [⟨3, own.s⟩] (fun o ho => by rw [List.mem_singleton.1 ho]; exact ⟨Or.inl rfl, rfl⟩) (show 1 ≤ 3 by decide)
  exact ⟨_, .go (simOk2 _ _ (o1 _ _) hA) (xch2 (ik_nak6 _ _ _ _ _ _ _ _ _ j1) (ik_fit6 _ _ _ _ _ _ _ _ _ (own_fit own))) <|
    .go (simOk2 _ _ hN (o1 _ _)) (xch2 (ik_ack6 _ _ _ _ _ _ _) (ik_named8 _ _ _ _ _ _ _ _ _ _ nm)) <|
    .go (simOkq _ _ hB) (xchq (ik_fit7 _ _ _ _ _ _ _ _ _ j2)) <| .go (simOkp _ _ hC) (xchp (ik_ack8 _ _ _ _ _ _ _ _)) <| .stop _ _, rfl⟩

theorem pkOkL (c i : Int) (l : List Opt) (h : (decide (l.length ≤ 3) && l.all (fun o => (o.t == 3 || o.t == 129 || o.t == 131) && o.v.size == 4)) = true) : PkOk ⟨c, i, l, noB⟩ := by
  rw [Bool.and_eq_true, List.all_eq_true] at h
  refine pkOkA c i l (fun o ho => ?_) (by simpa using h.1)
  have := h.2 o ho
  simp only [Bool.and_eq_true, Bool.or_eq_true, beq_iff_eq] at this
  exact ⟨by rcases this.1 with (h | h) | h <;> simp [h], this.2⟩
theorem name_ok (C : NegC) (l : List Opt) (o : Opt) (k : Nat) (h : idxP (fun x => x.t == o.t) l = (k : Int)) (hf : ((findR C.own o.t).isSome && fitsR (ruleOf C.own o.t) o.v) = true) : nameOne C l o = l.set k o := by
  unfold nameOne
  rw [h, if_neg (by omega), if_pos hf]; rfl
/-- Where something is rejected first. -/
theorem flow2 {J J' : Value} {own p d1 d2 : Ad} {a r a2 b : List Opt} (hA : PkOk ⟨1, 1, a, noB⟩) (hR : PkOk ⟨4, 1, r, noB⟩) (hA2 : PkOk ⟨1, 2, a2, noB⟩) (hN : PkOk ⟨3, 2, b, noB⟩) (hB : PkOk ⟨1, 3, b, noB⟩) (hC : PkOk ⟨2, 3, b, noB⟩)
    (j0 : judgeS (srvR p d1 d2) a = (4, r)) (w1 : wB a r = true) (w2 : r.any (fun o => hasB [3] o.t) = false) (w3 : (a.filter fun o => !(r.any (eqB o))) = a2) (j1 : judgeS (srvR p d1 d2) a2 = (3, b)) (j2 : judgeS (srvR p d1 d2) b = (2, b)) (nm : b.foldl (nameOne (CCl J')) a2 = b) :
    ∃ x, Fin (CSv p d1 d2 J) (CCl J') ⟨nst 6 9 1 0 [⟨3, own.s⟩] [] [] 0, nst 6 9 1 0 a [] [] 0, [⟨1, 1, [⟨3, own.s⟩], noB⟩], [⟨1, 1, a, noB⟩]⟩ 6 ⟨x, nst 9 10 3 0 b b [⟨3, own.s⟩] 1, [], []⟩ ∧ x.s = 9 := by
  have o1 := fun c i => pkOkA c i [⟨3, own.s⟩] (fun o ho => by rw [List.mem_singleton.1 ho]; exact ⟨Or.inl rfl, rfl⟩) (show 1 ≤ 3 by decide)
  exact ⟨_, .go (simOk2 _ _ (o1 _ _) hA) (xch2 (ik_rej6 _ _ _ _ _ _ _ _ _ _ j0) (ik_fit6 _ _ _ _ _ _ _ _ _ (own_fit own))) <|
    .go (simOk2 _ _ hR (o1 _ _)) (xch2 (ik_ack6 _ _ _ _ _ _ _) (ik_rejd8 _ _ _ _ _ _ _ _ _ _ w1 w2 w3)) <|
    .go (simOkq _ _ hA2) (xchq (ik_nak7 _ _ _ _ _ _ _ _ _ j1)) <| .go (simOkp _ _ hN) (xchp (ik_named8 _ _ _ _ _ _ _ _ _ _ nm)) <|
    .go (simOkq _ _ hB) (xchq (ik_fit7 _ _ _ _ _ _ _ _ _ j2)) <| .go (simOkp _ _ hC) (xchp (ik_ack8 _ _ _ _ _ _ _ _)) <| .stop _ _, rfl⟩

theorem sims_ipcp (J J' : Value) (own p d1 d2 : Ad) (dns : Bool) (hp : p ≠ Ad.z) :
    (∀ i, (sims (CSv p d1 d2 J) (CCl J') (simI own dns) i).Ok) ∧ MetI own p d1 d2 dns (sims (CSv p d1 d2 J) (CCl J') (simI own dns) 12) := by
  have fin : ∀ {n : Nat} {b : List Opt} {i : Int}, (∃ x, Fin (CSv p d1 d2 J) (CCl J') (simI own dns) n ⟨x, nst 9 10 i 0 b b [⟨3, own.s⟩] 1, [], []⟩ ∧ x.s = 9) → n ≤ 12 → b = goal p d1 d2 dns → (∀ i, (sims (CSv p d1 d2 J) (CCl J') (simI own dns) i).Ok) ∧ MetI own p d1 d2 dns (sims (CSv p d1 d2 J) (CCl J') (simI own dns) 12) := by
    intro n b i h hn hb
    obtain ⟨x, h, hx⟩ := h
    exact ⟨h.1, by rw [h.2 12 hn]; exact ⟨hx, rfl, hb, rfl⟩⟩
  have sp := fit_span1 3 o4 p hp
  have np := fit_not 3 p hp
  have yp := fit_self 3 p
  have nz : ∀ d : Ad, adE d Ad.z = false → d ≠ Ad.z := fun d h e => by rw [(adE_iff d Ad.z).2 e] at h; cases h
  cases e1 : adE d1 Ad.z with
  | false =>
    have s1 := fit_span1 129 o4 d1 (nz d1 e1)
    have n1 := fit_not 129 d1 (nz d1 e1)
    have y1 := fit_self 129 d1
    cases e2 : adE d2 Ad.z with
    | false =>
      have s2 := fit_span1 131 o4 d2 (nz d2 e2)
      have n2 := fit_not 131 d2 (nz d2 e2)
      have y2 := fit_self 131 d2
      have er : srvR p d1 d2 = [justR 3 p, justR 129 d1, justR 131 d2] := by unfold srvR; rw [e1, e2]; rfl
      cases dns with
      | false =>
        have hb : ([⟨3, p.s⟩] : List Opt) = goal p d1 d2 false := by unfold goal; rw [e1, e2]; rfl
        have j1 : judgeS (srvR p d1 d2) [⟨3, n4⟩] = (3, [⟨3, p.s⟩]) := by
          rw [er]
          refine jdg_nak _ _ _ rfl ?_ (by simp)
          rw [nakP_cons, show fitsR (ruleOf [justR 3 p, justR 129 d1, justR 131 d2] 3) n4 = false from np]; rfl
        have j2 : judgeS (srvR p d1 d2) [⟨3, p.s⟩] = (2, [⟨3, p.s⟩]) := by
          rw [er]
          refine jdg_ack _ _ rfl ?_
          rw [nakP_cons, show fitsR (ruleOf [justR 3 p, justR 129 d1, justR 131 d2] 3) p.s = true from yp]; rfl
        have nmd : ([⟨3, p.s⟩] : List Opt).foldl (nameOne (CCl J')) [⟨3, n4⟩] = [⟨3, p.s⟩] := by
          have g0 : nameOne (CCl J') [⟨3, n4⟩] ⟨3, p.s⟩ = [⟨3, p.s⟩] := (name_ok (CCl J') [⟨3, n4⟩] ⟨3, p.s⟩ 0 (by kernel_rfl) (show ((findR (cliO 3) 3).isSome && fitsR (spanR 3 1 o4) p.s) = true by rw [sp]; rfl)).trans rfl
          rw [List.foldl_cons, g0]; rfl
        exact fin (flow1 (pkOkL _ _ _ (by kernel_rfl)) (pkOkL _ _ _ (by kernel_rfl)) (pkOkL _ _ _ (by kernel_rfl)) (pkOkL _ _ _ (by kernel_rfl)) j1 j2 nmd) (by decide) hb
      | true =>
        have hb : ([⟨3, p.s⟩, ⟨129, d1.s⟩, ⟨131, d2.s⟩] : List Opt) = goal p d1 d2 true := by unfold goal; rw [e1, e2]; rfl
        have j1 : judgeS (srvR p d1 d2) [⟨3, n4⟩, ⟨129, n4⟩, ⟨131, n4⟩] = (3, [⟨3, p.s⟩, ⟨129, d1.s⟩, ⟨131, d2.s⟩]) := by
          rw [er]
          refine jdg_nak _ _ _ rfl ?_ (by simp)
          rw [nakP_cons, nakP_cons, nakP_cons, show fitsR (ruleOf [justR 3 p, justR 129 d1, justR 131 d2] 3) n4 = false from np, show fitsR (ruleOf [justR 3 p, justR 129 d1, justR 131 d2] 129) n4 = false from n1, show fitsR (ruleOf [justR 3 p, justR 129 d1, justR 131 d2] 131) n4 = false from n2]; rfl
        have j2 : judgeS (srvR p d1 d2) [⟨3, p.s⟩, ⟨129, d1.s⟩, ⟨131, d2.s⟩] = (2, [⟨3, p.s⟩, ⟨129, d1.s⟩, ⟨131, d2.s⟩]) := by
          rw [er]
          refine jdg_ack _ _ rfl ?_
          rw [nakP_cons, nakP_cons, nakP_cons, show fitsR (ruleOf [justR 3 p, justR 129 d1, justR 131 d2] 3) p.s = true from yp, show fitsR (ruleOf [justR 3 p, justR 129 d1, justR 131 d2] 129) d1.s = true from y1, show fitsR (ruleOf [justR 3 p, justR 129 d1, justR 131 d2] 131) d2.s = true from y2]; rfl
        have nmd : ([⟨3, p.s⟩, ⟨129, d1.s⟩, ⟨131, d2.s⟩] : List Opt).foldl (nameOne (CCl J')) [⟨3, n4⟩, ⟨129, n4⟩, ⟨131, n4⟩] = [⟨3, p.s⟩, ⟨129, d1.s⟩, ⟨131, d2.s⟩] := by
          have g0 : nameOne (CCl J') [⟨3, n4⟩, ⟨129, n4⟩, ⟨131, n4⟩] ⟨3, p.s⟩ = [⟨3, p.s⟩, ⟨129, n4⟩, ⟨131, n4⟩] := (name_ok (CCl J') [⟨3, n4⟩, ⟨129, n4⟩, ⟨131, n4⟩] ⟨3, p.s⟩ 0 (by kernel_rfl) (show ((findR (cliO 3) 3).isSome && fitsR (spanR 3 1 o4) p.s) = true by rw [sp]; rfl)).trans rfl
          have g1 : nameOne (CCl J') [⟨3, p.s⟩, ⟨129, n4⟩, ⟨131, n4⟩] ⟨129, d1.s⟩ = [⟨3, p.s⟩, ⟨129, d1.s⟩, ⟨131, n4⟩] := (name_ok (CCl J') [⟨3, p.s⟩, ⟨129, n4⟩, ⟨131, n4⟩] ⟨129, d1.s⟩ 1 (by kernel_rfl) (show ((findR (cliO 3) 129).isSome && fitsR (spanR 129 1 o4) d1.s) = true by rw [s1]; rfl)).trans rfl
          have g2 : nameOne (CCl J') [⟨3, p.s⟩, ⟨129, d1.s⟩, ⟨131, n4⟩] ⟨131, d2.s⟩ = [⟨3, p.s⟩, ⟨129, d1.s⟩, ⟨131, d2.s⟩] := (name_ok (CCl J') [⟨3, p.s⟩, ⟨129, d1.s⟩, ⟨131, n4⟩] ⟨131, d2.s⟩ 2 (by kernel_rfl) (show ((findR (cliO 3) 131).isSome && fitsR (spanR 131 1 o4) d2.s) = true by rw [s2]; rfl)).trans rfl
          rw [List.foldl_cons, g0, List.foldl_cons, g1, List.foldl_cons, g2]; rfl
        exact fin (flow1 (pkOkL _ _ _ (by kernel_rfl)) (pkOkL _ _ _ (by kernel_rfl)) (pkOkL _ _ _ (by kernel_rfl)) (pkOkL _ _ _ (by kernel_rfl)) j1 j2 nmd) (by decide) hb
    | true =>
      have er : srvR p d1 d2 = [justR 3 p, justR 129 d1] := by unfold srvR; rw [e1, e2]; rfl
      cases dns with
      | false =>
        have hb : ([⟨3, p.s⟩] : List Opt) = goal p d1 d2 false := by unfold goal; rw [e1, e2]; rfl
        have j1 : judgeS (srvR p d1 d2) [⟨3, n4⟩] = (3, [⟨3, p.s⟩]) := by
          rw [er]
          refine jdg_nak _ _ _ rfl ?_ (by simp)
          rw [nakP_cons, show fitsR (ruleOf [justR 3 p, justR 129 d1] 3) n4 = false from np]; rfl
        have j2 : judgeS (srvR p d1 d2) [⟨3, p.s⟩] = (2, [⟨3, p.s⟩]) := by
          rw [er]
          refine jdg_ack _ _ rfl ?_
          rw [nakP_cons, show fitsR (ruleOf [justR 3 p, justR 129 d1] 3) p.s = true from yp]; rfl
        have nmd : ([⟨3, p.s⟩] : List Opt).foldl (nameOne (CCl J')) [⟨3, n4⟩] = [⟨3, p.s⟩] := by
          have g0 : nameOne (CCl J') [⟨3, n4⟩] ⟨3, p.s⟩ = [⟨3, p.s⟩] := (name_ok (CCl J') [⟨3, n4⟩] ⟨3, p.s⟩ 0 (by kernel_rfl) (show ((findR (cliO 3) 3).isSome && fitsR (spanR 3 1 o4) p.s) = true by rw [sp]; rfl)).trans rfl
          rw [List.foldl_cons, g0]; rfl
        exact fin (flow1 (pkOkL _ _ _ (by kernel_rfl)) (pkOkL _ _ _ (by kernel_rfl)) (pkOkL _ _ _ (by kernel_rfl)) (pkOkL _ _ _ (by kernel_rfl)) j1 j2 nmd) (by decide) hb
      | true =>
        have hb : ([⟨3, p.s⟩, ⟨129, d1.s⟩] : List Opt) = goal p d1 d2 true := by unfold goal; rw [e1, e2]; rfl
        have j1 : judgeS (srvR p d1 d2) [⟨3, n4⟩, ⟨129, n4⟩] = (3, [⟨3, p.s⟩, ⟨129, d1.s⟩]) := by
          rw [er]
          refine jdg_nak _ _ _ rfl ?_ (by simp)
          rw [nakP_cons, nakP_cons, show fitsR (ruleOf [justR 3 p, justR 129 d1] 3) n4 = false from np, show fitsR (ruleOf [justR 3 p, justR 129 d1] 129) n4 = false from n1]; rfl
        have j2 : judgeS (srvR p d1 d2) [⟨3, p.s⟩, ⟨129, d1.s⟩] = (2, [⟨3, p.s⟩, ⟨129, d1.s⟩]) := by
          rw [er]
          refine jdg_ack _ _ rfl ?_
          rw [nakP_cons, nakP_cons, show fitsR (ruleOf [justR 3 p, justR 129 d1] 3) p.s = true from yp, show fitsR (ruleOf [justR 3 p, justR 129 d1] 129) d1.s = true from y1]; rfl
        have nmd : ([⟨3, p.s⟩, ⟨129, d1.s⟩] : List Opt).foldl (nameOne (CCl J')) [⟨3, n4⟩, ⟨129, n4⟩] = [⟨3, p.s⟩, ⟨129, d1.s⟩] := by
          have g0 : nameOne (CCl J') [⟨3, n4⟩, ⟨129, n4⟩] ⟨3, p.s⟩ = [⟨3, p.s⟩, ⟨129, n4⟩] := (name_ok (CCl J') [⟨3, n4⟩, ⟨129, n4⟩] ⟨3, p.s⟩ 0 (by kernel_rfl) (show ((findR (cliO 3) 3).isSome && fitsR (spanR 3 1 o4) p.s) = true by rw [sp]; rfl)).trans rfl
          have g1 : nameOne (CCl J') [⟨3, p.s⟩, ⟨129, n4⟩] ⟨129, d1.s⟩ = [⟨3, p.s⟩, ⟨129, d1.s⟩] := (name_ok (CCl J') [⟨3, p.s⟩, ⟨129, n4⟩] ⟨129, d1.s⟩ 1 (by kernel_rfl) (show ((findR (cliO 3) 129).isSome && fitsR (spanR 129 1 o4) d1.s) = true by rw [s1]; rfl)).trans rfl
          rw [List.foldl_cons, g0, List.foldl_cons, g1]; rfl
        have j0 : judgeS (srvR p d1 d2) [⟨3, n4⟩, ⟨129, n4⟩, ⟨131, n4⟩] = (4, [⟨131, n4⟩]) := by
          rw [er]
          exact jdg_rej _ _ _ rfl (by simp)
        exact fin (flow2 (pkOkL _ _ _ (by kernel_rfl)) (pkOkL _ _ _ (by kernel_rfl)) (pkOkL _ _ _ (by kernel_rfl)) (pkOkL _ _ _ (by kernel_rfl)) (pkOkL _ _ _ (by kernel_rfl)) (pkOkL _ _ _ (by kernel_rfl)) j0 (by kernel_rfl) (by kernel_rfl) (by kernel_rfl) j1 j2 nmd) (by decide) hb
  | true =>
    cases e2 : adE d2 Ad.z with
    | false =>
      have s2 := fit_span1 131 o4 d2 (nz d2 e2)
      have n2 := fit_not 131 d2 (nz d2 e2)
      have y2 := fit_self 131 d2
      have er : srvR p d1 d2 = [justR 3 p, justR 131 d2] := by unfold srvR; rw [e1, e2]; rfl
      cases dns with
      | false =>
        have hb : ([⟨3, p.s⟩] : List Opt) = goal p d1 d2 false := by unfold goal; rw [e1, e2]; rfl
        have j1 : judgeS (srvR p d1 d2) [⟨3, n4⟩] = (3, [⟨3, p.s⟩]) := by
          rw [er]
          refine jdg_nak _ _ _ rfl ?_ (by simp)
          rw [nakP_cons, show fitsR (ruleOf [justR 3 p, justR 131 d2] 3) n4 = false from np]; rfl
        have j2 : judgeS (srvR p d1 d2) [⟨3, p.s⟩] = (2, [⟨3, p.s⟩]) := by
          rw [er]
          refine jdg_ack _ _ rfl ?_
          rw [nakP_cons, show fitsR (ruleOf [justR 3 p, justR 131 d2] 3) p.s = true from yp]; rfl
        have nmd : ([⟨3, p.s⟩] : List Opt).foldl (nameOne (CCl J')) [⟨3, n4⟩] = [⟨3, p.s⟩] := by
          have g0 : nameOne (CCl J') [⟨3, n4⟩] ⟨3, p.s⟩ = [⟨3, p.s⟩] := (name_ok (CCl J') [⟨3, n4⟩] ⟨3, p.s⟩ 0 (by kernel_rfl) (show ((findR (cliO 3) 3).isSome && fitsR (spanR 3 1 o4) p.s) = true by rw [sp]; rfl)).trans rfl
          rw [List.foldl_cons, g0]; rfl
        exact fin (flow1 (pkOkL _ _ _ (by kernel_rfl)) (pkOkL _ _ _ (by kernel_rfl)) (pkOkL _ _ _ (by kernel_rfl)) (pkOkL _ _ _ (by kernel_rfl)) j1 j2 nmd) (by decide) hb
      | true =>
        have hb : ([⟨3, p.s⟩, ⟨131, d2.s⟩] : List Opt) = goal p d1 d2 true := by unfold goal; rw [e1, e2]; rfl
        have j1 : judgeS (srvR p d1 d2) [⟨3, n4⟩, ⟨131, n4⟩] = (3, [⟨3, p.s⟩, ⟨131, d2.s⟩]) := by
          rw [er]
          refine jdg_nak _ _ _ rfl ?_ (by simp)
          rw [nakP_cons, nakP_cons, show fitsR (ruleOf [justR 3 p, justR 131 d2] 3) n4 = false from np, show fitsR (ruleOf [justR 3 p, justR 131 d2] 131) n4 = false from n2]; rfl
        have j2 : judgeS (srvR p d1 d2) [⟨3, p.s⟩, ⟨131, d2.s⟩] = (2, [⟨3, p.s⟩, ⟨131, d2.s⟩]) := by
          rw [er]
          refine jdg_ack _ _ rfl ?_
          rw [nakP_cons, nakP_cons, show fitsR (ruleOf [justR 3 p, justR 131 d2] 3) p.s = true from yp, show fitsR (ruleOf [justR 3 p, justR 131 d2] 131) d2.s = true from y2]; rfl
        have nmd : ([⟨3, p.s⟩, ⟨131, d2.s⟩] : List Opt).foldl (nameOne (CCl J')) [⟨3, n4⟩, ⟨131, n4⟩] = [⟨3, p.s⟩, ⟨131, d2.s⟩] := by
          have g0 : nameOne (CCl J') [⟨3, n4⟩, ⟨131, n4⟩] ⟨3, p.s⟩ = [⟨3, p.s⟩, ⟨131, n4⟩] := (name_ok (CCl J') [⟨3, n4⟩, ⟨131, n4⟩] ⟨3, p.s⟩ 0 (by kernel_rfl) (show ((findR (cliO 3) 3).isSome && fitsR (spanR 3 1 o4) p.s) = true by rw [sp]; rfl)).trans rfl
          have g1 : nameOne (CCl J') [⟨3, p.s⟩, ⟨131, n4⟩] ⟨131, d2.s⟩ = [⟨3, p.s⟩, ⟨131, d2.s⟩] := (name_ok (CCl J') [⟨3, p.s⟩, ⟨131, n4⟩] ⟨131, d2.s⟩ 1 (by kernel_rfl) (show ((findR (cliO 3) 131).isSome && fitsR (spanR 131 1 o4) d2.s) = true by rw [s2]; rfl)).trans rfl
          rw [List.foldl_cons, g0, List.foldl_cons, g1]; rfl
        have j0 : judgeS (srvR p d1 d2) [⟨3, n4⟩, ⟨129, n4⟩, ⟨131, n4⟩] = (4, [⟨129, n4⟩]) := by
          rw [er]
          exact jdg_rej _ _ _ rfl (by simp)
        exact fin (flow2 (pkOkL _ _ _ (by kernel_rfl)) (pkOkL _ _ _ (by kernel_rfl)) (pkOkL _ _ _ (by kernel_rfl)) (pkOkL _ _ _ (by kernel_rfl)) (pkOkL _ _ _ (by kernel_rfl)) (pkOkL _ _ _ (by kernel_rfl)) j0 (by kernel_rfl) (by kernel_rfl) (by kernel_rfl) j1 j2 nmd) (by decide) hb
    | true =>
      have er : srvR p d1 d2 = [justR 3 p] := by unfold srvR; rw [e1, e2]; rfl
      cases dns with
      | false =>
        have hb : ([⟨3, p.s⟩] : List Opt) = goal p d1 d2 false := by unfold goal; rw [e1, e2]; rfl
        have j1 : judgeS (srvR p d1 d2) [⟨3, n4⟩] = (3, [⟨3, p.s⟩]) := by
          rw [er]
          refine jdg_nak _ _ _ rfl ?_ (by simp)
          rw [nakP_cons, show fitsR (ruleOf [justR 3 p] 3) n4 = false from np]; rfl
        have j2 : judgeS (srvR p d1 d2) [⟨3, p.s⟩] = (2, [⟨3, p.s⟩]) := by
          rw [er]
          refine jdg_ack _ _ rfl ?_
          rw [nakP_cons, show fitsR (ruleOf [justR 3 p] 3) p.s = true from yp]; rfl
        have nmd : ([⟨3, p.s⟩] : List Opt).foldl (nameOne (CCl J')) [⟨3, n4⟩] = [⟨3, p.s⟩] := by
          have g0 : nameOne (CCl J') [⟨3, n4⟩] ⟨3, p.s⟩ = [⟨3, p.s⟩] := (name_ok (CCl J') [⟨3, n4⟩] ⟨3, p.s⟩ 0 (by kernel_rfl) (show ((findR (cliO 3) 3).isSome && fitsR (spanR 3 1 o4) p.s) = true by rw [sp]; rfl)).trans rfl
          rw [List.foldl_cons, g0]; rfl
        exact fin (flow1 (pkOkL _ _ _ (by kernel_rfl)) (pkOkL _ _ _ (by kernel_rfl)) (pkOkL _ _ _ (by kernel_rfl)) (pkOkL _ _ _ (by kernel_rfl)) j1 j2 nmd) (by decide) hb
      | true =>
        have hb : ([⟨3, p.s⟩] : List Opt) = goal p d1 d2 true := by unfold goal; rw [e1, e2]; rfl
        have j1 : judgeS (srvR p d1 d2) [⟨3, n4⟩] = (3, [⟨3, p.s⟩]) := by
          rw [er]
          refine jdg_nak _ _ _ rfl ?_ (by simp)
          rw [nakP_cons, show fitsR (ruleOf [justR 3 p] 3) n4 = false from np]; rfl
        have j2 : judgeS (srvR p d1 d2) [⟨3, p.s⟩] = (2, [⟨3, p.s⟩]) := by
          rw [er]
          refine jdg_ack _ _ rfl ?_
          rw [nakP_cons, show fitsR (ruleOf [justR 3 p] 3) p.s = true from yp]; rfl
        have nmd : ([⟨3, p.s⟩] : List Opt).foldl (nameOne (CCl J')) [⟨3, n4⟩] = [⟨3, p.s⟩] := by
          have g0 : nameOne (CCl J') [⟨3, n4⟩] ⟨3, p.s⟩ = [⟨3, p.s⟩] := (name_ok (CCl J') [⟨3, n4⟩] ⟨3, p.s⟩ 0 (by kernel_rfl) (show ((findR (cliO 3) 3).isSome && fitsR (spanR 3 1 o4) p.s) = true by rw [sp]; rfl)).trans rfl
          rw [List.foldl_cons, g0]; rfl
        have j0 : judgeS (srvR p d1 d2) [⟨3, n4⟩, ⟨129, n4⟩, ⟨131, n4⟩] = (4, [⟨129, n4⟩, ⟨131, n4⟩]) := by
          rw [er]
          exact jdg_rej _ _ _ rfl (by simp)
        exact fin (flow2 (pkOkL _ _ _ (by kernel_rfl)) (pkOkL _ _ _ (by kernel_rfl)) (pkOkL _ _ _ (by kernel_rfl)) (pkOkL _ _ _ (by kernel_rfl)) (pkOkL _ _ _ (by kernel_rfl)) (pkOkL _ _ _ (by kernel_rfl)) j0 (by kernel_rfl) (by kernel_rfl) (by kernel_rfl) j1 j2 nmd) (by decide) hb
end Go.Proofs.Ytijepfjfmpmfnaa
